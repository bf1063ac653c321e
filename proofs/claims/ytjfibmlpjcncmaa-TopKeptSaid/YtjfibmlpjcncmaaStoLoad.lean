/- The walk of store.Load. -/
import Derived.Test.YtjfibmlpjcncmaaStoTake
namespace Go.Proofs.Ytjfibmlpjcncmaa
open Go.RowKit
set_option linter.unusedVariables false
set_option linter.unusedSimpArgs false
set_option maxRecDepth 4000
namespace Sto
open Oct Crc Disk Jrn

def loadF : List (List UInt8) → List (List UInt8) → Nat → Option (List (List UInt8) × Nat)
  | [], es, c => some (es, c)
  | r :: rs, es, c => match takeR es c r with
    | none => none
    | some (es', c') => loadF rs es' c'

/-- what records tell: the entries, the count, and why not -/
def loadR (l : List UInt8) : List (List UInt8) × Nat × Nat := match loadF (readR l).1 [] 0 with
  | none => ([], 0, 6)
  | some (es, c) => (es, c, 0)

theorem takeR_bounds (es : List (List UInt8)) (c : Nat) (r : List UInt8) (es' : List (List UInt8)) (c' : Nat) (h : takeR es c r = some (es', c')) (hc : c ≤ 1048576) : es'.length ≤ es.length + 1 ∧ c' ≤ 1048576 ∧ (∀ t ∈ es', t ∈ es ∨ t ∈ (allR r).1) := by
  unfold takeR at h
  split at h
  · cases h
  · split at h
    · rename_i a b hl
      split at h
      · cases h
        refine ⟨by simp, hc, fun t ht => ?_⟩
        rcases List.mem_append.1 ht with ht | ht
        · exact .inl ht
        · right; rw [hl]; simp at ht; simp [ht]
      · split at h
        · split at h
          · cases h
          · split at h
            · cases h
            · split at h
              · cases h
              · cases h
                exact ⟨by omega, by omega, fun t ht => .inl ht⟩
        · cases h
    · cases h

/-- a row's own cells stand where its block does -/
theorem row_same {base : Nat} {w w' : World} {g n cap : Nat} {xs : List Value} {e : TypeId} {size : Nat} (h : w.ownsRow base e size (.slice (some ⟨g, 0, none⟩) n cap) n xs) (hb : w'.heap[g]? = w.heap[g]?) : w'.ownsRow base e size (.slice (some ⟨g, 0, none⟩) n cap) n xs := by
  refine ⟨h.1, ?_⟩
  rcases h.2 with ⟨hv, _⟩ | ⟨g', cap', cur, hv, h2, h3, h4⟩
  · cases hv
  · injection hv with e1 e2 e3
    simp only [Option.some.injEq, Addr.mk.injEq, and_true] at e1
    subst e1
    subst e3
    exact .inr ⟨g, cap, cur, rfl, h2, hb.trans h3, h4⟩

/-- what is done with a pair block when a block's cells stand -/
theorem Pair.same {n : Nat} {w w' : World} {a b : Value} (h : Pair n w a b) (hb : w'.heap[n]? = w.heap[n]?) (hs : w.heap.size ≤ w'.heap.size) : Pair n w' a b := by
  have k : ∀ j, w'.cell? ⟨n, j, none⟩ = w.cell? ⟨n, j, none⟩ := fun j => by simp [World.cell?, hb]
  have g : ∀ j, w'.frozen? ⟨n, j, none⟩ = w.frozen? ⟨n, j, none⟩ := fun j => by simp [World.frozen?, hb]
  exact ⟨Nat.lt_of_lt_of_le h.size hs, (k 0).trans h.a0, (k 1).trans h.a1, (g 0).trans h.f0, (g 1).trans h.f1⟩

/-- what holds at each round's head -/
structure LoadI (w w1 wr : World) (m : Value) (ls es : List (List UInt8)) (c : Nat) (v : Value) : Prop where
  res : Pair w.heap.size wr (.slice none 0 0) (.int .i64 0)
  out : Pair (w.heap.size + 1) wr v (.int .i64 (c : Int))
  own : wr.ownsRow w1.heap.size 9 1 v es.length (strsV es)
  row : wr.ownsRow (w.heap.size + 2) 9 1 m ls.length (strsV ls)
  low : Below w.heap.size w wr
  grow : w1.heap.size ≤ wr.heap.size

theorem own_of {W : World} {base e size k : Nat} {v : Value} {xs : List Value} (h : W.ownsRow base e size v k xs) : ∃ p cap, v = .slice p k cap := by
  rcases h.2 with ⟨rfl, rfl⟩ | ⟨g, cap, cur, rfl, _⟩
  · exact ⟨_, _, rfl⟩
  · exact ⟨_, _, rfl⟩

set_option maxHeartbeats 4000000 in
theorem load_any (l : List UInt8) (hl : (l.length : Int) ≤ 2097152) (w : World) :
    Calls Try.prog 50 #[.string ⟨l.toArray⟩] w fun e w' => ∃ v, e = .returned (.tuple #[.agg #[v, .int .i64 ((loadR l).2.1 : Int)], .int .i64 ((loadR l).2.2 : Int)]) ∧ OwnS w.heap.size w' v (loadR l).1 ∧ Below w.heap.size w w' := by
  have c1 := fun w => read_any l hl w
  have hcnt : 5 * (readR l).1.length ≤ l.length := by
    have := recs_length (l.length + 1) 0 l (by omega)
    simp only [readR, List.length_map]
    omega
  have hsh := (readR_spec l).2.1
  have HL : Hid (loadR l = match loadF (readR l).1 [] 0 with
    | none => ([], 0, 6)
    | some (es, c) => (es, c, 0)) := Lib.hid rfl
  generalize readR l = q at *
  obtain ⟨ls, gd⟩ := q
  dsimp only at c1 hcnt hsh HL
  have hll : ls.length ≤ 500000 := by omega
  have SH := Lib.hid hsh
  have LL := Lib.hid hll
  clear hcnt hsh hll
  go_enter Try.func50, Try.ntmps50
  go_wp2_with fail
  refine (c1 _).mono ?_
  rintro e w1 ⟨m, rfl, o, hb⟩
  have P0 := (Pair.made w (.slice none 0 0) (.int .i64 0) 61).below (by simp) (((Below.refl (w.alloc (.cells #[.slice none 0 0, .int .i64 0] 61)).heap.size _).alloc (Nat.le_refl _) (.cells #[.slice none 0 0, .int .i64 0] 61)).trans (hb.mono (by simp)))
  have P1 := (Pair.made (w.alloc (.cells #[.slice none 0 0, .int .i64 0] 61)) (.slice none 0 0) (.int .i64 0) 61).below (by simp) hb
  have B : Below w.heap.size w w1 := (((Below.refl _ _).alloc (Nat.le_refl _) _).alloc (by simp) _).trans (hb.mono (by simp <;> omega))
  rw [World.size_alloc] at P1
  obtain ⟨pm, cm, rfl⟩ := own_form o
  unfold OwnS at o
  have hgm : ∀ g, pm = some ⟨g, 0, none⟩ → w.heap.size + 2 ≤ g ∧ g < w1.heap.size := fun g hg => by
    subst hg
    have := o.lt g rfl
    simp at this
    omega
  have hs1 : w.heap.size + 2 ≤ w1.heap.size := by have := hb.size; simp at this; omega
  have I0 : LoadI w w1 w1 (.slice pm ls.length cm) ls [] 0 (.slice none 0 0) := ⟨P0, P1, World.ownsRow_nil _ _ _ _, ownsRow_mono (by simp) o, B, Nat.le_refl _⟩
  clear P0 P1 B o hb c1
  go_wp2_with fail
  go_loopw [16] (fun i wr => ∃ (j : Nat) (es : List (List UInt8)) (c : Nat) (v : Value), j ≤ ls.length ∧ i = .int .i64 (j : Int) ∧ Hid (loadF (ls.drop j) es c = loadF ls [] 0) ∧ es.length ≤ j ∧ c ≤ 1048576 ∧ LoadI w w1 wr (.slice pm ls.length cm) ls es c v) (fun i _ => ls.length - (intOf i).toNat)
  case atStart => exact ⟨0, [], 0, _, by omega, rfl, Lib.hid rfl, by simp, by omega, I0⟩
  case round =>
    obtain ⟨j, es, c, v, hj, rfl, HF, hes, hc, I⟩ := hrel
    clear I0
    by_cases hlt : j < ls.length
    · have hltI : (j : Int) < (ls.length : Int) := by omega
      have hjI : (j : Int) ≤ 2097152 := by have := LL.out; omega
      obtain ⟨r, hr⟩ : ∃ r, ls[j] = r := ⟨_, rfl⟩
      obtain ⟨g, rfl⟩ : ∃ g, pm = some ⟨g, 0, none⟩ := by
        rcases I.row.2 with ⟨_, h0⟩ | ⟨g, cap', cur, hv, _⟩
        · omega
        · injection hv with e1 e2 e3; exact ⟨g, e1⟩
      have hgg := hgm g rfl
      have hcell : wr.cell? ⟨g, j, none⟩ = some (.string ⟨r.toArray⟩) := by
        have := I.row.cells (g := g) rfl j (.string ⟨r.toArray⟩) (by simp [strsV, hlt, hr])
        rwa [Addr.add_lit, Nat.zero_add] at this
      have hr8 : r.length ≤ 8192 := by rw [← hr]; exact SH.out _ (List.getElem_mem hlt)
      have hF := HF.out
      rw [List.drop_eq_getElem_cons hlt, hr, loadF] at hF
      have HF2 := Lib.hid hF
      have hct := take_any w1.heap.size (w.heap.size + 1) c (by omega) es v r (by unfold maxLen; omega) (by have := LL.out; omega) (by omega) wr I.grow I.out I.own
      have HI := Lib.hid I
      have HC := Lib.hid hct
      have HJ := Lib.hid (And.intro hes (And.intro hc (And.intro hj hlt)))
      clear hF HF hr hr8 I hct hes hc hj hlt
      go_wp2_with fail
      refine HC.out.mono ?_
      intro e w2 hT
      clear HC
      unfold Took at hT
      cases hk : takeR es c r with
      | none =>
        rw [hk] at hT
        obtain ⟨rfl, hb⟩ := hT
        have hF := HF2.out
        rw [hk] at hF
        dsimp only at hF
        have HE : Hid (loadR l = ([], 0, 6)) := Lib.hid (by rw [HL.out, ← hF])
        have B := HI.out.low.trans (hb.mono (by omega))
        have P0 := HI.out.res.below (by omega) hb
        clear hF HF2 hk HI HL hb
        obtain ⟨kz, ka, kb, kf, kg⟩ := P0
        go_wp2_with fail
        refine bodyPost_ret (v := .tuple #[.agg #[.slice none 0 0, .int .i64 0], .int .i64 6]) (by simp [results, Try.results50, go_sem, *]) rfl ?_
        rw [HE.out]
        exact ⟨_, rfl, OwnS.nil _ _, (B.setCell (p := ⟨w.heap.size, 0, none⟩) (Nat.le_refl _) _).setCell (p := ⟨w.heap.size, 1, none⟩) (Nat.le_refl _) _⟩
      | some x =>
        obtain ⟨es', c'⟩ := x
        rw [hk] at hT
        obtain ⟨rfl, ⟨v', hP, hrow⟩, hb, hfr⟩ := hT
        have hbd := takeR_bounds es c r es' c' hk HJ.out.2.1
        have hF := HF2.out
        rw [hk] at hF
        dsimp only at hF
        have HF3 := Lib.hid hF
        have B := HI.out.low.trans (hb.mono (by omega))
        have P0 := HI.out.res.below (by omega) hb
        have hrw := row_same HI.out.row (hfr g hgg.2 (by omega))
        have I' : LoadI w w1 w2 (.slice (some ⟨g, 0, none⟩) ls.length cm) ls es' c' v' := ⟨P0, hP, hrow, hrw, B, Nat.le_trans HI.out.grow hb.size⟩
        have HI' := Lib.hid I'
        clear hF HF2 HI hk hb hP hrow hfr B P0 hrw I'
        go_wp2_with fail
        all_goals go_roundw
        case rel => exact ⟨j + 1, es', c', v', by have := HJ.out.2.2.2; omega, by go_num, HF3, by have := HJ.out.1; omega, hbd.2.1, HI'.out⟩
        case measure => have := HJ.out.2.2.2; simp [intOf]; omega
    · have hj' : j = ls.length := by omega
      subst hj'
      have hF := HF.out
      rw [List.drop_length, loadF] at hF
      have HE : Hid (loadR l = (es, c, 0)) := Lib.hid (by rw [HL.out, ← hF])
      have HI := Lib.hid I
      have P0 := I.res
      have P1 := I.out
      clear hF HF HL I
      obtain ⟨kz, ka, kb, kf, kg⟩ := P0
      obtain ⟨oz, oa, ob, og, oh⟩ := P1
      obtain ⟨pv, cv, rfl⟩ := own_of HI.out.own
      go_wp2_with fail
      refine bodyPost_ret (v := .tuple #[.agg #[.slice pv es.length cv, .int .i64 (c : Int)], .int .i64 0]) (by simp [results, Try.results50, go_sem, *]) rfl ?_
      rw [HE.out]
      refine ⟨_, rfl, ?_, (HI.out.low.setCell (p := ⟨w.heap.size, 0, none⟩) (Nat.le_refl _) _).setCell (p := ⟨w.heap.size, 1, none⟩) (Nat.le_refl _) _⟩
      exact ownsRow_mono (by omega) ((HI.out.own.kept (grownBy_at _ w.heap.size 0 _) (.inr (low_ne_row HI.out.own (by omega)).symm)).kept (grownBy_at _ w.heap.size 1 _) (.inr (low_ne_row HI.out.own (by omega)).symm))
end Sto
end Go.Proofs.Ytjfibmlpjcncmaa
