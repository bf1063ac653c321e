/- TopLeft for every input: the events that came in are opened; the variables and tables are those that the row lists. -/
import Derived.Test.YtbgjoefpnjgdkaaDoorKTopLeft
import Derived.Test.YtbgjoefpnjgdkaaDoorJ50
import Derived.Test.YtbgjoefpnjgdkaaDoorCards
import Derived.SizedLaws
namespace Go.Proofs.YtbgjoefpnjgdkaaDoor
open Go.RowKit Go.ChangeShapes Go.WideShapes
set_option linter.unusedVariables false
set_option maxRecDepth 100000
variable {H : Type} {enc : TypeId × Value → H}
namespace Left
open Named
/-- what an event's cells say -/
def dataE (e : Ev) : List (DataW H) := [.lit (.string e.room), .lit (.string e.sender), .lit (.int .u8 (e.kind : Int)), .lit (.string e.key), .lit (.string e.body), .lit (.int .i64 e.nonce)]
theorem event_of {W : World} {base : Nat} {spare : Nat → Bool} {held : Bool} {n : Nat} {cs : List Value} {x : DataW H × List MemPlace} (h : DataW.trod enc Tryd.prog W base spare held n 56 cs = some x) :
    ∃ e : Ev, cs = eventL e ∧ x.1 = .agg (dataE e) := by
  have ce : Tryd.prog.cellsOf 56 = 6 := by kernel_rfl
  have cs9 : Tryd.prog.cellsOf 9 = 1 := by kernel_rfl
  have ck : Tryd.prog.cellsOf 54 = 1 := by kernel_rfl
  have cn : Tryd.prog.cellsOf 2 = 1 := by kernel_rfl
  obtain ⟨xs, n', -, hx, hl, hxl, hf⟩ := DataW.trod_struct Tryd.underlying56 h
  rw [ce] at hl
  obtain ⟨v0, v1, v2, v3, v4, v5, rfl⟩ : ∃ v0 v1 v2 v3 v4 v5, cs = [v0, v1, v2, v3, v4, v5] := by
    match cs, hl with
    | [a, b, c, d, e, f], _ => exact ⟨a, b, c, d, e, f, rfl⟩
  obtain ⟨y0, y1, y2, y3, y4, y5, rfl⟩ : ∃ y0 y1 y2 y3 y4 y5, xs = [y0, y1, y2, y3, y4, y5] := by
    match xs, (show xs.length = 6 from hxl) with
    | [a, b, c, d, e, f], _ => exact ⟨a, b, c, d, e, f, rfl⟩
  have q0 : DataW.trod enc Tryd.prog W base spare held n' 9 (([v0, v1, v2, v3, v4, v5].drop 0).take (Tryd.prog.cellsOf 9)) = some y0 := hf 0 _ rfl
  have q1 : DataW.trod enc Tryd.prog W base spare held n' 9 (([v0, v1, v2, v3, v4, v5].drop 1).take (Tryd.prog.cellsOf 9)) = some y1 := hf 1 _ rfl
  have q2 : DataW.trod enc Tryd.prog W base spare held n' 54 (([v0, v1, v2, v3, v4, v5].drop 2).take (Tryd.prog.cellsOf 54)) = some y2 := hf 2 _ rfl
  have q3 : DataW.trod enc Tryd.prog W base spare held n' 9 (([v0, v1, v2, v3, v4, v5].drop 3).take (Tryd.prog.cellsOf 9)) = some y3 := hf 3 _ rfl
  have q4 : DataW.trod enc Tryd.prog W base spare held n' 9 (([v0, v1, v2, v3, v4, v5].drop 4).take (Tryd.prog.cellsOf 9)) = some y4 := hf 4 _ rfl
  have q5 : DataW.trod enc Tryd.prog W base spare held n' 2 (([v0, v1, v2, v3, v4, v5].drop 5).take (Tryd.prog.cellsOf 2)) = some y5 := hf 5 _ rfl
  rw [cs9] at q0 q1 q3 q4
  rw [ck] at q2
  rw [cn] at q5
  obtain ⟨s0, a0, b0, -⟩ := DataW.trod_string Tryd.underlying9 q0
  obtain ⟨s1, a1, b1, -⟩ := DataW.trod_string Tryd.underlying9 q1
  obtain ⟨z2, a2, b2, w2⟩ := DataW.trod_int Tryd.underlying54 q2
  obtain ⟨s3, a3, b3, -⟩ := DataW.trod_string Tryd.underlying9 q3
  obtain ⟨s4, a4, b4, -⟩ := DataW.trod_string Tryd.underlying9 q4
  obtain ⟨z5, a5, b5, -⟩ := DataW.trod_int Tryd.underlying2 q5
  have hz : 0 ≤ z2 := by
    have h := w2
    have hm : IntKind.u8.min = 0 := by decide
    simp [Lit.wf] at h
    omega
  obtain ⟨k, rfl⟩ : ∃ k : Nat, z2 = (k : Int) := ⟨z2.toNat, (Int.toNat_of_nonneg hz).symm⟩
  refine ⟨⟨s0.data.toList, s1.data.toList, k, s3.data.toList, s4.data.toList, z5⟩, ?_, ?_⟩
  · simp at a0 a1 a2 a3 a4 a5
    subst a0 a1 a2 a3 a4 a5
    simp [eventL]
  · rw [hx]
    subst b0 b1 b2 b3 b4 b5
    rfl
theorem lists_of {P : Nat → Ev → Prop} : ∀ n : Nat, (∀ i, i < n → ∃ e, P i e) → ∃ ls : List Ev, ls.length = n ∧ ∀ i (h : i < ls.length), P i ls[i]
  | 0, _ => ⟨[], rfl, fun i h => absurd h (Nat.not_lt_zero _)⟩
  | n + 1, h => by
    obtain ⟨ls, h1, h2⟩ := lists_of n (fun i hi => h i (by omega))
    obtain ⟨e, he⟩ := h n (by omega)
    refine ⟨ls ++ [e], by simp [h1], fun i hi => ?_⟩
    by_cases hlt : i < ls.length
    · rw [List.getElem_append_left hlt]; exact h2 i hlt
    · have : i = n := by rw [List.length_append, List.length_singleton] at hi; omega
      subst this
      rw [List.getElem_append_right (by omega)]
      simpa [h1] using he
theorem weights_all {P : Program} {e : TypeId} {d : DataW H} {m : Nat} (hm : m ∈ d.weights P e) : ∀ ds : List (DataW H), d ∈ ds → m ∈ DataW.weightsAll P e ds
  | [], h => by cases h
  | a :: r, h => by
    rw [DataW.weightsAll, List.mem_append]
    rcases List.mem_cons.1 h with rfl | h
    · exact .inl hm
    · exact .inr (weights_all hm r h)
theorem events_of (ao : Option Addr) (n cap : Nat) (W : World) {fuel : Nat} {x : DataW H × List MemPlace}
    (h : DataW.trod enc Tryd.prog W 0 (fun _ => true) true fuel 83 [.slice ao n cap] = some x) (hz : ∀ m ∈ x.1.weights Tryd.prog 83, m ≤ reachBytes) :
    ∃ ls, ERow W (.slice ao n cap) ls ∧ (∀ e ∈ ls, Fits e) ∧ ls.length ≤ 9223372036854775807 := by
  rcases DataW.trod_slice Tryd.underlying83 h with ⟨h0, -⟩ | ⟨a, len, cap', elems, rest, m, -, hcs, hx, -, hl, hm, hlen, hel, -, -⟩
  · simp only [List.cons.injEq, and_true] at h0
    injection h0 with e1 e2 e3
    subst e1 e2 e3
    exact ⟨[], .inl ⟨_, _, rfl, rfl⟩, by simp, by simp⟩
  · simp only [List.cons.injEq, and_true] at hcs
    injection hcs with e1 e2 e3
    subst e1 e2 e3
    by_cases h0 : n = 0
    · subst h0
      exact ⟨[], .inl ⟨_, _, rfl, rfl⟩, by simp, by simp⟩
    · have ce : Tryd.prog.cellsOf 56 = 6 := by kernel_rfl
      have each : ∀ i, i < n → ∃ e : Ev, (∀ j v, (eventL e)[j]? = some v → W.cell? ((a.add (i * 6)).add j) = some v) ∧ Fits e := fun i hi => by
        have h1 := hel i hi
        rw [ce, List.getElem?_eq_getElem (by omega), Option.bind_eq_some_iff] at h1
        obtain ⟨cs', hc, ht⟩ := h1
        obtain ⟨e, he, hd⟩ := event_of ht
        obtain ⟨-, hcl, hat⟩ := World.cells?_some hc
        have hmem : (elems[i]'(by omega)).1 ∈ elems.map (·.1) := List.mem_map_of_mem (List.getElem_mem _)
        have hw : ∀ q ∈ (DataW.agg (dataE (H := H) e)).weights Tryd.prog 56, q ≤ 281474976710656 := fun q hq => by
          have h2 := hz q (by
            rw [hx, DataW.weights, Tryd.underlying83]
            exact List.mem_cons_of_mem _ (List.mem_append_left _ (weights_all (by rw [hd]; exact hq) _ hmem)))
          exact Nat.le_trans h2 (by decide)
        have hs : ∀ (j : Nat) (t : TypeId) (l : List UInt8), ([9, 9, 54, 9, 9, 2] : List TypeId)[j]? = some t → (dataE (H := H) e)[j]? = some (.lit (.string l)) → l.length ≤ 281474976710656 := fun j t l ht hd2 => hw _ (by
          rw [DataW.weights, Tryd.underlying56]
          exact DataW.weights_mem_each (P := Tryd.prog) (j := j) ht hd2 l.length (by simp [DataW.weights]))
        refine ⟨e, fun j v hv => ?_, ⟨hs 0 _ _ rfl rfl, hs 1 _ _ rfl rfl, hs 3 _ _ rfl rfl, hs 4 _ _ rfl rfl⟩⟩
        have hj : j < 6 := (List.getElem?_eq_some_iff.1 hv).1
        rw [hat j hj, he]
        exact hv
      obtain ⟨ls, hls, hp⟩ := lists_of n each
      obtain ⟨b, off, spot⟩ := a
      have hspot : spot = none := by
        have h2 := (hp 0 (by omega)).1 0 _ rfl
        have h3 := World.cell?_spot h2
        simpa [Addr.add] using h3
      subst hspot
      have hadd : ∀ (o j : Nat), (⟨b, o, none⟩ : Addr).add j = ⟨b, o + j, none⟩ := fun o j => by
        unfold Addr.add; split
        · rename_i e; subst e; rfl
        · rfl
      refine ⟨ls, .inr ⟨b, off, cap, by rw [hls], ?_, fun i hi j v hv => ?_⟩, fun e he => ?_, ?_⟩
      · have h2 := (hp 0 (by omega)).1 0 _ rfl
        rw [hadd, hadd] at h2
        exact World.block_lt_of_cell? W _ h2
      · have h2 := (hp i hi).1 j v hv
        rw [hadd, hadd] at h2
        exact h2
      · obtain ⟨i, hi, rfl⟩ := List.mem_iff_getElem.1 he
        exact (hp i hi).2
      · rw [hls]; unfold maxLen at hm; omega
theorem words_in {W : World} {laid : List (String × DataW Unit)} (h : laidMet Tryd.prog laid W) (hg : ("palaver/event.words", .agg (wordsL.map fun l => .lit (.string l))) ∈ laid) : Words W := by
  obtain ⟨ps, hl, _, _⟩ := h
  obtain ⟨g'', t'', cs'', fuel'', p'', l1, l2, l3, l4⟩ := Named.laid_mem hl hg
  obtain rfl := Option.some.inj ((show Tryd.prog.globalNamed "palaver/event.words" = some 2 by kernel_rfl).symm.trans l1)
  obtain rfl := Option.some.inj ((show (Tryd.prog.globals[2]?).map (·.type) = some 153 by kernel_rfl).symm.trans l2)
  have hstr := string_of (ls := wordsL) Tryd.underlying153 l4 rfl
  intro k hk
  rw [World.var?_cell l1 l3 k, hstr k hk]
  rfl
theorem left_laid {W : World} (h : laidMet Tryd.prog Rows.topLeftRow.laid W) : Vars W ∧ Words W ∧ ∃ X kk, Sha.Tabs W X kk :=
  ⟨vars_of h (.tail _ (.tail _ (.tail _ (.tail _ (.tail _ (.head _)))))) (.tail _ (.tail _ (.tail _ (.tail _ (.tail _ (.tail _ (.head _))))))) (.tail _ (.tail _ (.tail _ (.tail _ (.tail _ (.tail _ (.tail _ (.head _)))))))),
    words_in h (.tail _ (.tail _ (.tail _ (.tail _ (.tail _ (.tail _ (.tail _ (.tail _ (.head _))))))))),
    tabs_of h (.tail _ (.tail _ (.tail _ (.head _)))) (.tail _ (.tail _ (.tail _ (.tail _ (.head _)))))⟩
theorem left_top (ao : Option Addr) (n cap : Nat) (tu : ByteArray) {Q : Prop} (_ : Q) (W : World) {fuel : Nat} {x : DataW H × List MemPlace}
    (h : DataW.trod enc Tryd.prog W 0 (fun _ => true) true fuel 83 [.slice ao n cap] = some x) (hz : ∀ m ∈ x.1.weights Tryd.prog 83, m ≤ reachBytes) (hL : Vars W ∧ Words W ∧ ∃ X kk, Sha.Tabs W X kk) :
    Calls Tryd.prog 8 #[.slice ao n cap, .string tu] W fun e w' => e = .returned (.bool true) ∧ Below W.heap.size W w' := by
  obtain ⟨ls, hr, hf, hl⟩ := events_of ao n cap W h hz
  obtain ⟨hV, hW, X, kk, hT⟩ := hL
  obtain ⟨u, rfl⟩ : ∃ u : List UInt8, tu = ⟨u.toArray⟩ := ⟨tu.data.toList, by simp⟩
  exact left_walk X kk _ ls u W hr hf hl hT hV hW
end Left
end Go.Proofs.YtbgjoefpnjgdkaaDoor
