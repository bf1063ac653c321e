/- Joined of 2 texts: their lemmas, one behind the other; each says below what it holds. -/
import Derived.Test.YtbgjoefpnjgdkaaDoorJ06
import Derived.OpenShut
import Derived.FnData
import Derived.Stop.Joined
import Derived.Test.YtbgjoefpnjgdkaaDoorKTopGranted
import Derived.Test.YtbgjoefpnjgdkaaDoorCards
import Derived.Lib.SmallJoins
/- What the row's list of variables gives the walks: the two tables of sums lie in the world. -/
namespace Go.Proofs.YtbgjoefpnjgdkaaDoor
open Go.RowKit Go.ChangeShapes Go.WideShapes
set_option linter.unusedVariables false
set_option maxRecDepth 100000

theorem laid_mem {P : Program} {W : World} : ∀ {laid : List (String × DataW Unit)} {ps : List MemPlace} (h : DataW.LaidVars P W laid ps) {n : String} {d : DataW Unit} (hm : (n, d) ∈ laid),
    ∃ g t cs fuel p, P.globalNamed n = some g ∧ (P.globals[g]?).map (·.type) = some t ∧ W.var? P n = some cs ∧ DataW.trod (fun _ => ()) P W 0 (fun _ => true) false fuel t cs.toList = some (d, p)
  | [], _, _, _, _, hm => by cases hm
  | (m, e) :: r, ps, h, n, d, hm => by
    obtain ⟨g, t, cs, fuel, p, q, h1, h2, h3, h4, h5, rfl⟩ := h
    rcases List.mem_cons.1 hm with hm | hm
    · injection hm with e1 e2
      subst e1 e2
      exact ⟨g, t, cs, fuel, p, h1, h2, h3, h4⟩
    · exact laid_mem h5 hm

theorem u32_cell {W : World} {t : TypeId} {N fuel : Nat} {cs : Array Value} {x : DataW Unit × List MemPlace} (ht : Tryd.prog.underlying t = some (.array N 100))
    (h : DataW.trod (fun _ => ()) Tryd.prog W 0 (fun _ => true) false fuel t cs.toList = some x) (j : Nat) (hj : j < N) : ∃ q : Int, cs[j]? = some (.int .u32 q) := by
  obtain ⟨xs, m, rfl, hx, _, hl, hel⟩ := DataW.trod_array ht h
  have c1 : Tryd.prog.cellsOf 100 = 1 := by kernel_rfl
  have hE := hel j hj
  rw [c1, Nat.mul_one, List.getElem?_eq_getElem (by omega)] at hE
  obtain ⟨z, e1, e2, _⟩ := DataW.trod_int Tryd.underlying100 hE
  refine ⟨z, ?_⟩
  have h0 : ((cs.toList.drop j).take 1)[0]? = some (.int .u32 z) := by rw [e1]; rfl
  simpa using h0

theorem tab_of {W : World} {t g N fuel : Nat} {nm : String} {cs : Array Value} {x : DataW Unit × List MemPlace} (hN : 0 < N) (ht : Tryd.prog.underlying t = some (.array N 100)) (hg : Tryd.prog.globalNamed nm = some g) (hv : W.var? Tryd.prog nm = some cs)
    (h : DataW.trod (fun _ => ()) Tryd.prog W 0 (fun _ => true) false fuel t cs.toList = some x) : ∃ f, Sha.Tab g W f N := by
  have hc : ∀ j, j < N → W.cell? ⟨g, j, none⟩ = some (.int .u32 (match cs[j]? with | some (.int _ q) => q | _ => 0)) := fun j hj => by
    obtain ⟨q, hq⟩ := u32_cell ht h j hj
    rw [World.var?_cell hg hv j, hq]
  exact ⟨fun j => match cs[j]? with | some (.int _ q) => q | _ => 0, World.block_lt_of_cell? W ⟨g, 0, none⟩ (hc 0 hN), hc⟩

theorem tabs_of {W : World} {laid : List (String × DataW Unit)} {dk db : DataW Unit} (h : laidMet Tryd.prog laid W) (hk : ("palaver/sha.k", dk) ∈ laid) (hb : ("palaver/sha.begin", db) ∈ laid) : ∃ X kk, Sha.Tabs W X kk := by
  obtain ⟨ps, hl, _, _⟩ := h
  obtain ⟨g, t, cs, fuel, p, hg, ht, hv, hd⟩ := laid_mem hl hk
  obtain ⟨g', t', cs', fuel', p', hg', ht', hv', hd'⟩ := laid_mem hl hb
  obtain rfl := Option.some.inj ((show Tryd.prog.globalNamed "palaver/sha.k" = some 3 by kernel_rfl).symm.trans hg)
  obtain rfl := Option.some.inj ((show (Tryd.prog.globals[3]?).map (·.type) = some 184 by kernel_rfl).symm.trans ht)
  obtain rfl := Option.some.inj ((show Tryd.prog.globalNamed "palaver/sha.begin" = some 0 by kernel_rfl).symm.trans hg')
  obtain rfl := Option.some.inj ((show (Tryd.prog.globals[0]?).map (·.type) = some 102 by kernel_rfl).symm.trans ht')
  obtain ⟨kk, hkk⟩ := tab_of (by decide) Tryd.underlying184 hg hv hd
  obtain ⟨X, hX⟩ := tab_of (by decide) Tryd.underlying102 hg' hv' hd'
  exact ⟨X, kk, ⟨hX, hkk⟩⟩
end Go.Proofs.YtbgjoefpnjgdkaaDoor
/- TopGranted for every input: the key that came in is opened; the tables are those that the row lists. -/
namespace Go.Proofs.YtbgjoefpnjgdkaaDoor
open Go.RowKit Go.ChangeShapes Go.WideShapes
set_option linter.unusedVariables false
set_option maxRecDepth 100000
variable {H : Type} {enc : TypeId × Value → H}
namespace Top
open Sha Tree Key Book Go.Proofs.YtbgjoefpnjgdkaaDoor.One
theorem granted_laid {W : World} (h : laidMet Tryd.prog Rows.topGrantedRow.laid W) : ∃ X kk, Sha.Tabs W X kk := tabs_of h (.head _) (.tail _ (.head _))
theorem key_open {W : World} {base : Nat} {spare : Nat → Bool} {held : Bool} {r : Reach} {b0 : Nat} {v : Value} {d : DataW H} {p : List MemPlace} (hv : Value.okWide Tryd.prog W r b0 43 v) (h : DataW.Trod enc Tryd.prog W base spare held 43 v d p) : ∃ k : List UInt8 × Int × Int, v = keyV k.1 k.2.1 k.2.2 := by
  obtain ⟨c0, c1, c2, y0, y1, y2, m, rfl, -, -, hy0, hy1, hy2⟩ := Go.Joins.open_agg3 Tryd.underlying43 (by kernel_rfl) (by kernel_rfl) hv h
  obtain ⟨s, h0, -⟩ := DataW.trod_string (by kernel_rfl) hy0
  obtain ⟨a, h1, -⟩ := DataW.trod_int (by kernel_rfl) hy1
  obtain ⟨b, h2, -⟩ := DataW.trod_int (by kernel_rfl) hy2
  simp only [List.cons.injEq, and_true] at h0 h1 h2
  exact ⟨⟨s.data.toList, a, b⟩, by rw [h0, h1, h2]; rfl⟩

/-- what Verify answers of the one grant -/
theorem verify_both (X kk : Nat → Int) (s : List UInt8) (k : Nat) (hk : k ≤ 3) (a N : Nat) (hN : N = 2 ^ k) (ha : a < N) (t : ByteArray) (sv fr to ax : Int) (hok : rightP sv fr to (k : Int)) (w : World) (hT : Tabs w X kk)
    (R : List UInt8) (hRe : R = rootL X kk k (pubsL X kk s N)) (hR : R.length = 32) (sg : List UInt8) (hsg : sg = ksigL X kk s N k a t.data.toList)
    (v : Value) (B : Nat) (W : World) (ho : W.ownsRow B 51 36 v 1 (grantC sv fr to (k : Int) R)) (hB : Below w.heap.size w W) :
    (∃ p c, v = .slice p 1 c) ∧ ∀ W', Below W.heap.size W W' → (Calls Tryd.prog 22 #[v, .int .i64 sv, .int .i64 ax, .string t, .string ⟨sg.toArray⟩] W' fun e w' => e = .returned (.int .i64 (if fr ≤ ax ∧ ax ≤ to then 0 else 3)) ∧ Below W'.heap.size W' w') ∧
      (Calls Tryd.prog 22 #[v, .int .i64 (sv + 1), .int .i64 ax, .string t, .string ⟨sg.toArray⟩] W' fun e w' => e = .returned (.int .i64 3) ∧ Below W'.heap.size W' w') := by
  obtain ⟨g, cap, rfl, hBg, hg⟩ := World.ownsRow.form ho (by omega)
  refine ⟨⟨_, _, rfl⟩, fun W' hW' => ?_⟩
  have hgW : g < W'.heap.size := by have := hW'.size; omega
  have hr : W'.rangeAt g 0 (grantC sv fr to (k : Int) R) := fun j u hu => (hW'.cell (p := ⟨g, 0 + j, none⟩) hg).trans (by have h0 := World.ownsRow.cells ho (g := g) rfl j u hu; cases j with | zero => exact h0 | succ j => simpa [Addr.add] using h0)
  have hT' : Tabs W' X kk := hT.below rfl (hB.trans (hW'.mono hB.size))
  have hF1 := find_one sv fr to (k : Int) R hR hok g cap sv ax W' hgW hr
  have hF2 := find_one sv fr to (k : Int) R hR hok g cap (sv + 1) ax W' hgW hr
  refine ⟨?_, ?_⟩
  · unfold foundC at hF1
    by_cases hc : fr ≤ ax ∧ ax ≤ to
    · rw [if_pos hc]
      rw [if_pos ⟨rfl, hc⟩, if_pos ⟨rfl, hc⟩] at hF1
      refine verify_found _ sv ax t _ sv fr to (k : Int) R hR W' hF1 fun W2 h2 => ?_
      rw [hRe, hsg]
      exact verify_own X kk s k hk a N hN ha t W2 (hT'.below rfl h2)
    · rw [if_neg hc]
      rw [if_neg (fun h => hc h.2), if_neg (fun h => hc h.2)] at hF1
      exact verify_none _ sv ax t _ _ (grantC_length _ _ _ _ _ (by simp)) (grantC_one _ _ _ _ _) W' hF1
  · unfold foundC at hF2
    have hn : ¬ (sv = sv + 1 ∧ fr ≤ ax ∧ ax ≤ to) := fun h => by have := h.1; omega
    rw [if_neg hn, if_neg hn] at hF2
    exact verify_none _ (sv + 1) ax t _ _ (grantC_length _ _ _ _ _ (by simp)) (grantC_one _ _ _ _ _) W' hF2

theorem add_two (sv fr to high : Int) (R : List UInt8) (hR : R.length = 32) (W : World) : Calls Tryd.prog 21 #[.slice none 0 0, .agg (grantC sv fr to high R).toArray] W fun e w' => ∃ v, e = .returned (.tuple #[v, .int .i64 (if rightP sv fr to high then 0 else 2)]) ∧ (rightP sv fr to high → w'.ownsRow W.heap.size 51 36 v 1 (grantC sv fr to high R)) ∧ Below W.heap.size W w' := by
  by_cases h : rightP sv fr to high
  · rw [if_pos h]
    exact (add_ok sv fr to high R hR h W).mono fun e w' ⟨v, h1, h2, h3⟩ => ⟨v, h1, fun _ => h2, h3⟩
  · rw [if_neg h, ← grantV_C]
    exact (add_bad sv fr to high (bytesV R).toArray (by rw [List.size_toArray, bytesV_length, hR]) h W).mono fun e w' ⟨h1, h2⟩ => ⟨_, h1, fun h' => absurd h' h, h2⟩

theorem granted_top {v0 : Value} (K : List UInt8 × Int × Int) (hv0 : v0 = keyV K.1 K.2.1 K.2.2) (sv : Int) {Q1 : Prop} (_ : Q1) (fr : Int) {Q2 : Prop} (_ : Q2) (to : Int) {Q3 : Prop} (_ : Q3) (ax : Int) {Q4 : Prop} (_ : Q4) (t : ByteArray) (_ : t.size ≤ maxLen) (w : World) (hT : ∃ X kk, Sha.Tabs w X kk) :
    Calls Tryd.prog 5 #[v0, .int .i64 sv, .int .i64 fr, .int .i64 to, .int .i64 ax, .string t] w fun e w' => e = .returned (.bool true) ∧ Below w.heap.size w w' := by
  obtain ⟨s, high, next⟩ := K
  subst hv0
  obtain ⟨X, kk, hT⟩ := hT
  show Calls _ _ #[keyV s high next, _, _, _, _, _] _ _
  by_cases h37 : 3 < high ∧ high ≤ 7
  · exact granted_high s high next sv fr to ax t w h37.1 h37.2
  by_cases ht : (16384 : Int) < (t.size : Int)
  · exact granted_long s high next sv fr to ax t w h37 ht
  have ht' : (t.size : Int) ≤ 16384 := by omega
  rcases check_cases s high next h37 with ⟨k, hk, rfl, hs0, hs, hn0, hn, hck⟩ | hck
  · obtain ⟨N, hN⟩ : ∃ N, N = 2 ^ k := ⟨_, rfl⟩
    obtain ⟨a, rfl⟩ : ∃ a : Nat, next = (a : Int) := ⟨next.toNat, by omega⟩
    have hR32 := rootL_length X kk k _ ((pubsL_length X kk s N).trans hN) (pubsL_each X kk s N)
    by_cases ha : a = N
    · refine granted_fail s (k : Int) (a : Int) sv fr to ax t w h37 ht' _ [] 0 10 _ (fun v B W => rightP sv fr to (k : Int) → W.ownsRow B 51 36 v 1 (grantC sv fr to (k : Int) (rootL X kk k (pubsL X kk s N)))) ⟨hR32, fun W hW => ?_, fun W hW => ?_, fun W _ => add_two sv fr to _ _ hR32 W⟩ (.inr (.inl ⟨rfl, rfl⟩))
      · exact keyroot_ok X kk s k hk hs0 hs (a : Int) N hN W (hT.below rfl hW) hck
      · refine ksign_main X kk s k hk hs0 hs (a : Int) N hN t W (hT.below rfl hW) hck [] (a : Int) 10 fun g base v R W2 hR hb ho hT2 => ?_
        obtain ⟨p, c, hv⟩ := ownH_form ho
        rw [pubsL_length] at hv
        have hb' := hb
        rw [ha] at hb'
        exact (ringSign_over s (k : Int) N g v R t ⟨p, c, hv⟩ W2 hb').mono fun e w' ⟨h1, h2⟩ => ⟨h1, h2 ▸ hb, h2 ▸ Below.refl _ _⟩
    · have haN : a < N := by rw [hN] at ha ⊢; omega
      have hsignAll : ∀ W, Below w.heap.size w W → Calls Tryd.prog 20 #[keyV s (k : Int) (a : Int), .string t] W fun e w' => (∃ K : List UInt8 × Int × Int, e = .returned (.tuple #[keyV K.1 K.2.1 K.2.2, .string ⟨(ksigL X kk s N k a t.data.toList).toArray⟩, .int .i64 0])) ∧ Below W.heap.size W w' := fun W hW =>
        ksign_main X kk s k hk hs0 hs (a : Int) N hN t W (hT.below rfl hW) hck _ _ 0 fun g base v R W2 hR hb ho hT2 => ringSign_ok X kk s k hk hs0 hs a N hN haN t g base v R hR W2 hb ho hT2
      by_cases hr : rightP sv fr to (k : Int)
      · obtain ⟨hr0, hr1, -⟩ := id hr
        refine granted_ok s (k : Int) (a : Int) sv fr to ax t w (by omega) ht' _ _ (fun v B W => W.ownsRow B 51 36 v 1 (grantC sv fr to (k : Int) (rootL X kk k (pubsL X kk s N)))) ⟨hR32, fun W hW => ?_, hsignAll, fun W _ => ?_⟩ hr0 hr1 (if fr ≤ ax ∧ ax ≤ to then 0 else 3) ?_ ?_
        · exact keyroot_ok X kk s k hk hs0 hs (a : Int) N hN W (hT.below rfl hW) hck
        · exact add_ok sv fr to _ _ hR32 hr W
        · by_cases h1 : fr ≤ ax
          · by_cases h2 : ax ≤ to
            · exact .inl ⟨h1, h2, if_pos ⟨h1, h2⟩⟩
            · exact .inr (.inl ⟨h1, h2, if_neg (fun h => h2 h.2)⟩)
          · exact .inr (.inr ⟨h1, if_neg (fun h => h1 h.1)⟩)
        · intro v B W hBW hwB ho hB
          exact verify_both X kk s k hk a N hN haN t sv fr to ax hr w hT _ rfl hR32 _ rfl v B W ho hB
      · refine granted_fail s (k : Int) (a : Int) sv fr to ax t w h37 ht' _ _ 0 0 2 (fun v B W => True) ⟨hR32, fun W hW => ?_, hsignAll, fun W _ => ?_⟩ (.inr (.inr ⟨rfl, rfl, rfl⟩))
        · exact keyroot_ok X kk s k hk hs0 hs (a : Int) N hN W (hT.below rfl hW) hck
        · have h := add_two sv fr to (k : Int) _ hR32 W
          rw [if_neg hr] at h
          exact h.mono fun e w' ⟨v, h1, h2, h3⟩ => ⟨v, h1, trivial, h3⟩
  · refine granted_fail s high next sv fr to ax t w h37 ht' (List.replicate 32 0) [] 2 2 _ (fun v B W => rightP sv fr to high → W.ownsRow B 51 36 v 1 (grantC sv fr to high (List.replicate 32 0))) ⟨by simp, fun W hW => ?_, fun W hW => ?_, fun W _ => add_two sv fr to _ _ (by simp) W⟩ (.inl rfl)
    · exact keyroot_bad s high next W hck
    · exact ksign_bad s high next t W hck
end Top
end Go.Proofs.YtbgjoefpnjgdkaaDoor
