/- Joined of 2 texts: their lemmas, one behind the other; each says below what it holds. -/
import Derived.Test.YtbgjoefpnjgdkaaDoorKOneRecover
import Derived.Test.YtbgjoefpnjgdkaaDoorJ00
import Derived.RangeFuncBox
/- tree.Above: what is above two. -/
namespace Go.Proofs.YtbgjoefpnjgdkaaDoor
open Go.RowKit
set_option linter.unusedVariables false
set_option linter.unusedSimpArgs false
set_option maxRecDepth 100000
namespace Tree
open Sha
def aboveL (X kk : Nat → Int) (a b : List UInt8) : List UInt8 := sumL X kk (1 :: a ++ b)
theorem aboveL_length (X kk : Nat → Int) (a b : List UInt8) : (aboveL X kk a b).length = 32 := sumL_length _ _ _

theorem cells_new (w : World) (l : List UInt8) (t : TypeId) (H : Nat) (hH : w.heap.size = H) : ∀ j (hj : j < l.length), (w.alloc (.cells (bytesV l).toArray t)).cell? ⟨H, 0 + j, none⟩ = some (.int .u8 (l[j].toNat : Int)) := by
  subst hH
  intro j hj
  rw [Nat.zero_add, World.cell?_alloc_mark w (bytesV l).toArray t (0, 0) j]
  simp [bytesV, hj]

theorem news_after {w w1 : World} {g h n c : Nat} {b : List UInt8} (hne : h ≠ g) (hg : w.grownBy w1 (Value.slice (some ⟨g, 0, none⟩) n c).ownBlock) (NB : ∀ j u, (bytesV b)[j]? = some u → w.cell? ((⟨h, 0, none⟩ : Addr).add j) = some u) :
    ∀ j u, (bytesV b)[j]? = some u → w1.cell? ((⟨h, 0, none⟩ : Addr).add j) = some u := fun j u hu => by
  refine hg.cell (NB j u hu) ?_
  rw [add_block]
  show some h ≠ some g
  intro e
  injection e with e
  exact hne e
theorem le_after {w w1 : World} {row : Option Nat} {k m : Nat} (hg : w.grownBy w1 row) (h : w.heap.size = m) (hk : k ≤ m) : k ≤ w1.heap.size := by have := hg.size; omega

set_option maxHeartbeats 4000000 in
theorem above_any (X kk : Nat → Int) (a b : List UInt8) (ha : a.length = 32) (hb : b.length = 32) (w : World) (hT : Tabs w X kk) :
    Calls Tryd.prog 47 #[.agg (bytesV a).toArray, .agg (bytesV b).toArray] w fun e w' => e = .returned (.agg (bytesV (aboveL X kk a b)).toArray) ∧ Below w.heap.size w w' := by
  have HT := Lib.hid hT
  clear hT
  go_enter Tryd.func47, Tryd.ntmps47
  have a0 := ArrB.zeros ((w.alloc (.cells (bytesV a).toArray 30)).alloc (.cells (bytesV b).toArray 30)) 32 _ 30 rfl
  have hz : (Array.replicate 32 (Value.int .u8 0)) = #[.int .u8 0, .int .u8 0, .int .u8 0, .int .u8 0, .int .u8 0, .int .u8 0, .int .u8 0, .int .u8 0, .int .u8 0, .int .u8 0, .int .u8 0, .int .u8 0, .int .u8 0, .int .u8 0, .int .u8 0, .int .u8 0, .int .u8 0, .int .u8 0, .int .u8 0, .int .u8 0, .int .u8 0, .int .u8 0, .int .u8 0, .int .u8 0, .int .u8 0, .int .u8 0, .int .u8 0, .int .u8 0, .int .u8 0, .int .u8 0, .int .u8 0, .int .u8 0] := rfl
  rw [hz] at a0
  clear hz
  have NA : Hid (∀ j u, (bytesV a)[j]? = some u → ((((w.alloc (.cells (bytesV a).toArray 30)).alloc (.cells (bytesV b).toArray 30)).alloc (.cells #[.int .u8 0, .int .u8 0, .int .u8 0, .int .u8 0, .int .u8 0, .int .u8 0, .int .u8 0, .int .u8 0, .int .u8 0, .int .u8 0, .int .u8 0, .int .u8 0, .int .u8 0, .int .u8 0, .int .u8 0, .int .u8 0, .int .u8 0, .int .u8 0, .int .u8 0, .int .u8 0, .int .u8 0, .int .u8 0, .int .u8 0, .int .u8 0, .int .u8 0, .int .u8 0, .int .u8 0, .int .u8 0, .int .u8 0, .int .u8 0, .int .u8 0, .int .u8 0] 30)).alloc (.cells #[.int .u8 1] 5)).cell? ((⟨w.heap.size, 0, none⟩ : Addr).add j) = some u) := by
    refine Lib.hid (fun j u hu => ?_)
    have h := Bag.news (cells_new w a 30 _ rfl) j u hu
    have hB := (((Below.refl _ (w.alloc (.cells (bytesV a).toArray 30))).alloc (Nat.le_refl _) (.cells (bytesV b).toArray 30)).alloc (by simp) (.cells #[.int .u8 0, .int .u8 0, .int .u8 0, .int .u8 0, .int .u8 0, .int .u8 0, .int .u8 0, .int .u8 0, .int .u8 0, .int .u8 0, .int .u8 0, .int .u8 0, .int .u8 0, .int .u8 0, .int .u8 0, .int .u8 0, .int .u8 0, .int .u8 0, .int .u8 0, .int .u8 0, .int .u8 0, .int .u8 0, .int .u8 0, .int .u8 0, .int .u8 0, .int .u8 0, .int .u8 0, .int .u8 0, .int .u8 0, .int .u8 0, .int .u8 0, .int .u8 0] 30)).alloc (by simp <;> omega) (.cells #[.int .u8 1] 5)
    exact (hB.cell (by rw [add_block]; simp)).trans h
  have NB : Hid (∀ j u, (bytesV b)[j]? = some u → ((((w.alloc (.cells (bytesV a).toArray 30)).alloc (.cells (bytesV b).toArray 30)).alloc (.cells #[.int .u8 0, .int .u8 0, .int .u8 0, .int .u8 0, .int .u8 0, .int .u8 0, .int .u8 0, .int .u8 0, .int .u8 0, .int .u8 0, .int .u8 0, .int .u8 0, .int .u8 0, .int .u8 0, .int .u8 0, .int .u8 0, .int .u8 0, .int .u8 0, .int .u8 0, .int .u8 0, .int .u8 0, .int .u8 0, .int .u8 0, .int .u8 0, .int .u8 0, .int .u8 0, .int .u8 0, .int .u8 0, .int .u8 0, .int .u8 0, .int .u8 0, .int .u8 0] 30)).alloc (.cells #[.int .u8 1] 5)).cell? ((⟨w.heap.size + 1, 0, none⟩ : Addr).add j) = some u) := by
    refine Lib.hid (fun j u hu => ?_)
    have h := Bag.news (cells_new (w.alloc (.cells (bytesV a).toArray 30)) b 30 (w.heap.size + 1) (by simp)) j u hu
    have hB := ((Below.refl _ ((w.alloc (.cells (bytesV a).toArray 30)).alloc (.cells (bytesV b).toArray 30))).alloc (Nat.le_refl _) (.cells #[.int .u8 0, .int .u8 0, .int .u8 0, .int .u8 0, .int .u8 0, .int .u8 0, .int .u8 0, .int .u8 0, .int .u8 0, .int .u8 0, .int .u8 0, .int .u8 0, .int .u8 0, .int .u8 0, .int .u8 0, .int .u8 0, .int .u8 0, .int .u8 0, .int .u8 0, .int .u8 0, .int .u8 0, .int .u8 0, .int .u8 0, .int .u8 0, .int .u8 0, .int .u8 0, .int .u8 0, .int .u8 0, .int .u8 0, .int .u8 0, .int .u8 0, .int .u8 0] 30)).alloc (by simp) (.cells #[.int .u8 1] 5)
    exact (hB.cell (by rw [add_block]; simp)).trans h
  have HA : Hid (ArrB (w.heap.size + 1 + 1) ((((w.alloc (.cells (bytesV a).toArray 30)).alloc (.cells (bytesV b).toArray 30)).alloc (.cells #[.int .u8 0, .int .u8 0, .int .u8 0, .int .u8 0, .int .u8 0, .int .u8 0, .int .u8 0, .int .u8 0, .int .u8 0, .int .u8 0, .int .u8 0, .int .u8 0, .int .u8 0, .int .u8 0, .int .u8 0, .int .u8 0, .int .u8 0, .int .u8 0, .int .u8 0, .int .u8 0, .int .u8 0, .int .u8 0, .int .u8 0, .int .u8 0, .int .u8 0, .int .u8 0, .int .u8 0, .int .u8 0, .int .u8 0, .int .u8 0, .int .u8 0, .int .u8 0] 30)).alloc (.cells #[.int .u8 1] 5)) (fun _ => 0) 32) := by
    have h := a0.below ((Below.refl _ _).alloc (Nat.le_refl _) (.cells #[.int .u8 1] 5))
    rw [World.size_alloc, World.size_alloc] at h
    exact Lib.hid h
  have HV : Hid (Bag (w.heap.size + 1 + 1 + 1) ((((w.alloc (.cells (bytesV a).toArray 30)).alloc (.cells (bytesV b).toArray 30)).alloc (.cells #[.int .u8 0, .int .u8 0, .int .u8 0, .int .u8 0, .int .u8 0, .int .u8 0, .int .u8 0, .int .u8 0, .int .u8 0, .int .u8 0, .int .u8 0, .int .u8 0, .int .u8 0, .int .u8 0, .int .u8 0, .int .u8 0, .int .u8 0, .int .u8 0, .int .u8 0, .int .u8 0, .int .u8 0, .int .u8 0, .int .u8 0, .int .u8 0, .int .u8 0, .int .u8 0, .int .u8 0, .int .u8 0, .int .u8 0, .int .u8 0, .int .u8 0, .int .u8 0] 30)).alloc (.cells #[.int .u8 1] 5)) (.slice (some ⟨w.heap.size + 1 + 1 + 1, 0, none⟩) 1 1) [1]) := Lib.hid (Bag.fresh _ [1] _ _ _ _ (by simp) (Nat.le_refl _) rfl)
  have HB : Hid (Below w.heap.size w ((((w.alloc (.cells (bytesV a).toArray 30)).alloc (.cells (bytesV b).toArray 30)).alloc (.cells #[.int .u8 0, .int .u8 0, .int .u8 0, .int .u8 0, .int .u8 0, .int .u8 0, .int .u8 0, .int .u8 0, .int .u8 0, .int .u8 0, .int .u8 0, .int .u8 0, .int .u8 0, .int .u8 0, .int .u8 0, .int .u8 0, .int .u8 0, .int .u8 0, .int .u8 0, .int .u8 0, .int .u8 0, .int .u8 0, .int .u8 0, .int .u8 0, .int .u8 0, .int .u8 0, .int .u8 0, .int .u8 0, .int .u8 0, .int .u8 0, .int .u8 0, .int .u8 0] 30)).alloc (.cells #[.int .u8 1] 5))) := Lib.hid (((((Below.refl w.heap.size w).alloc (by simp) _).alloc (by simp) _).alloc (by simp <;> omega) _).alloc (by simp <;> omega) _)
  have HS : Hid (((((w.alloc (.cells (bytesV a).toArray 30)).alloc (.cells (bytesV b).toArray 30)).alloc (.cells #[.int .u8 0, .int .u8 0, .int .u8 0, .int .u8 0, .int .u8 0, .int .u8 0, .int .u8 0, .int .u8 0, .int .u8 0, .int .u8 0, .int .u8 0, .int .u8 0, .int .u8 0, .int .u8 0, .int .u8 0, .int .u8 0, .int .u8 0, .int .u8 0, .int .u8 0, .int .u8 0, .int .u8 0, .int .u8 0, .int .u8 0, .int .u8 0, .int .u8 0, .int .u8 0, .int .u8 0, .int .u8 0, .int .u8 0, .int .u8 0, .int .u8 0, .int .u8 0] 30)).alloc (.cells #[.int .u8 1] 5)).heap.size = w.heap.size + 4) := Lib.hid (by simp)
  have HF1 : Hid (([1] : List UInt8).length + a.length ≤ 1099511627776) := Lib.hid (by simp; omega)
  have HF2 : Hid (([1] ++ a : List UInt8).length + b.length ≤ 1099511627776) := Lib.hid (by simp; omega)
  have HAl := Lib.hid ha
  have HBl := Lib.hid hb
  clear a0 ha hb
  go_wp2_with (first | (at_builtin; refine wpList_append_bag rfl (.tmp 6) (.tmp 7) rfl (w.heap.size + 1 + 1 + 1) _ [1] rfl HV.out (by have := HS.out; omega) ⟨w.heap.size, 0, none⟩ 32 32 a rfl HAl.out NA.out HF1.out ?_; intro v1 w1 hv1 hg1) | (at_builtin; refine wpList_append_bag rfl (.tmp 9) (.tmp 10) rfl (w.heap.size + 1 + 1 + 1) _ ([1] ++ a) rfl hv1 (le_after hg1 HS.out (by omega)) ⟨w.heap.size + 1, 0, none⟩ 32 32 b rfl HBl.out (news_after (by omega) hg1 NB.out) HF2.out ?_; intro v2 w2 hv2 hg2; have hcv := hv2.conv))
  have hs1 : w.heap.size + 4 ≤ w1.heap.size := le_after hg1 HS.out (Nat.le_refl _)
  have hA1 := HA.out.row (show some (w.heap.size + 1 + 1) ≠ some (w.heap.size + 1 + 1 + 1) by intro e; injection e with e; omega) hg1
  have hA2 := hA1.row (fun e => by have := (hv1.lt _ e.symm).1; omega) hg2
  have hB1 := HB.out.grown hg1 (by have := HS.out; omega) (fun k e => by injection e with e; simp only at e; omega)
  have hB2 := hB1.grown hg2 (by omega) (fun k e => by have := (hv1.lt k e).1; omega)
  have hs2 := hg2.size
  clear HA HB HV NA NB HF1 HF2 hv1 hg1 hv2 hg2 HS hcv hA1 hB1
  have HSM := Lib.hid (sum_any ⟨(1 :: (a ++ b)).toArray⟩ X kk w2 (HT.out.below rfl hB2))
  refine HSM.out.mono ?_
  rintro e w3 ⟨rfl, hb3⟩
  have dA := hA2.below hb3
  have dB := hB2.trans (hb3.mono (by omega))
  obtain ⟨cs, hcs⟩ : ∃ cs, cs = bytesV (sumL X kk (1 :: (a ++ b))) := ⟨_, rfl⟩
  have hcs2 : bytesV (sumL X kk (1 :: (a ++ b))) = cs := hcs.symm
  rw [hcs2]
  have hl : cs.length = 32 := by rw [hcs, bytesV_length]; exact sumL_length _ _ _
  have ht : w3.there (w.heap.size + 1 + 1) 0 cs.toArray.size := by
    intro j hj
    rw [List.size_toArray, hl] at hj
    rw [Nat.zero_add, dA.cell j hj]
    exact ⟨rfl, dA.froz j⟩
  have HI3 : Hid ((Tryd.prog.info? 30).map (·.size) = some cs.length) := by rw [hl]; exact Lib.hid (by kernel_rfl)
  have HI' : Hid ((Tryd.prog.info? 30).map (·.size) = some cs.toArray.size) := by rw [List.size_toArray]; exact HI3
  have H1 : Hid (cs.toArray.all (·.oneCell') = true) := by rw [hcs]; exact Lib.hid (bytesV_one _)
  have HCS := Lib.hid hcs
  have HT5 := Lib.hid ht
  have HSS := Lib.hid (World.rangeAt_setCells_same w3 (w.heap.size + 1 + 1) 0 cs (by rw [← List.size_toArray]; exact ht))
  have HB5 := Lib.hid dB
  clear ht hcs hcs2 hl dA dB
  go_wp2_with (with_reducible refine wpList_store_mid rfl _ _ _ rfl (w.heap.size + 1 + 1) 0 cs.toArray rfl rfl HT5.out HI'.out H1.out ?_)
  refine bodyPost_ret (v := .agg cs.toArray) ?_ rfl ⟨by rw [HCS.out]; rfl, below_setCells (by omega) _ _ _ HB5.out⟩
  exact results_cell Tryd.results47 _ _ _ (w.heap.size + 1 + 1) cs rfl (run_loadVar_mid _ (w.heap.size + 1 + 1) 0 30 cs _ HSS.out Tryd.underlying30 rfl HI3.out)
end Tree
end Go.Proofs.YtbgjoefpnjgdkaaDoor
/- A range over a function whose iterator tells the round something of the world: that the element that it hands over lies there. -/
namespace Go.Proofs.YtbgjoefpnjgdkaaDoor
open Go Go.RowKit
set_option linter.unusedVariables false

/-- an iterator's contract: each element x comes in a world in which T x holds; Kp: what a round must keep; S: which lists come -/
def Told {α : Type} (F : Fence) (n : Nat) (P : Program) (g : Nat) (lb : Array Value) (encs : α → Array Value) (Kp : World → World → Prop) (T : List α → α → World → Prop) (S : List α → Prop) (w : World) : Prop :=
  ∀ (l : Nat) (J : List α → World → Prop) (W : World), Below w.heap.size w W → AbidesFrom W.heap.size J →
    (∀ pre x W1, J pre W1 → T pre x W1 → YieldAt F (n - 1) P l (encs x) W1 fun e W' => e = .returned (.bool true) ∧ J (pre ++ [x]) W' ∧ Kp W1 W') →
    J [] W → CallsIn F n P g (#[.func (.yield l) #[] #[]] ++ lb) W fun e W' => (∃ v, e = .returned v) ∧ ∃ xs, S xs ∧ J xs W'

/-- how a round's body must end -/
def toldPost {α : Type} (B : Nat) (Kp : World → World → Prop) (I : List α → World → Prop) (xs : List α) (W : World) : Exit → Act → World → Prop
  | .normal, _, W' => KeepsFrom B W W' ∧ Kp W W' ∧ I xs W'
  | _, _, _ => False

section
variable {F : Fence} {n : Nat} {P : Program} {w : World}

theorem range_told {α : Type} {g : Operand} {ps : Array Tmp} {assign body : Code} {Q : Exit → Act → World → Prop} {a : Act}
    (hro : F.round = none) (h1 : 1 ≤ n) {gf : Nat} {lb : Array Value} (hg : a.eval g = .func (.func gf) #[] lb) (hFg : F.fn gf) (eg : ∀ args w, (callFunc gf args).run P w = .ok (.enter gf args) w)
    {encs : α → Array Value} {Kp : World → World → Prop} {T : List α → α → World → Prop} {S : List α → Prop} (hseq : Told F (n - 1) P gf lb encs Kp T S w)
    (hKt : ∀ {A B C : World}, Kp A B → Kp B C → Kp A C) (hKb : ∀ (W : World) (l : Nat) (o o' : Obj), w.heap.size ≤ l → W.heap[l]? = some o → o.isCells = false → o.isWalk = false → Kp W (W.putObj l o')) (hps : ∀ x, (encs x).size = ps.size)
    (hT : ∀ pre x, OwnFrom w.heap.size (fun (_ : Unit) W => T pre x W))
    (I : List α → World → Prop) (hI : OwnFrom w.heap.size I) (h0 : I [] w) (a₁ : α → Act)
    (hassign : ∀ (l : Nat) (x : α) (W : World) (K : Act → World → Prop), K (a₁ x) W →
      assign.wpIn (F.inRound l) (n - 1 - 1) P (Exit.then K (fun _ _ _ => False)) { tmps := (ps.zip (encs x)).foldl (fun t (p, v) => t.setIfInBounds p v) a.tmps, defers := [] } W)
    (hbody : ∀ (l : Nat) (pre : List α) (x : α) (W : World), I pre W → T pre x W → body.wpIn (F.inRound l) (n - 1 - 1) P (toldPost w.heap.size Kp I (pre ++ [x]) W) (a₁ x) W)
    (hdone : ∀ (D : Nat) (xs : List α) (W : World), w.heap.size ≤ D → S xs → I xs W → W.heap[D]? = some (.deferred (some [])) → Q .normal { a with defers := { target := .collected D, args := #[] } :: a.defers } W) :
    (Code.rangeFunc g ps assign body).wpIn F n P Q a w := by
  refine wpIn_rangeFunc fun fn hfn => ?_
  rw [hro]
  -- the record of the loop, in whatever state; it lies in the second of two new blocks
  let record : LoopState → Option Code → Loop := fun st pe => { state := st, pending := pe, fn, tmps := a.tmps, params := ps, assign, body, defers := w.heap.size }
  have hsz : (w.alloc (.deferred (some []))).heap.size = w.heap.size + 1 := World.size_alloc _ _
  generalize hW : (w.alloc (.deferred (some []))).alloc (.loop (record .ready none)) = V
  have hrecV : V.heap[w.heap.size + 1]? = some (.loop (record .ready none)) := by
    rw [← hW, ← hsz]; exact World.alloc_heap_new _ _
  have hcolV : V.heap[w.heap.size]? = some (.deferred (some [])) := by
    rw [← hW, Below.heap_alloc _ _ _ (by omega)]; exact World.alloc_heap_new _ _
  have hIV : I [] V := hW ▸ hI.alloc _ (hI.alloc _ h0)
  have hbV : Below w.heap.size w V := hW ▸ ((Below.refl _ w).alloc (Nat.le_refl _) _).alloc (by omega) _
  have hVs : V.heap.size = w.heap.size + 2 := by rw [← hW, World.size_alloc, hsz]
  refine ⟨w.heap.size + 1, [{ target := .collected w.heap.size, args := #[] }], V, { target := .fn (.func gf) lb, args := #[.func (.yield (w.heap.size + 1)) #[] #[]] }, V, gf, #[.func (.yield (w.heap.size + 1)) #[] #[]] ++ lb, V, ?_, ?_, ?_, ?_, fun _ => h1, ?_⟩
  · rw [← hW]; exact run_enterLoop_outer _ _ _ _ _
  · simp only [resolve, hg]; simp [go_sem]
  · intro f' hf'
    simp only [Target.leads] at hf'
    cases hf'
    exact hFg
  · simp [invoke, go_sem, eg]
  -- an invariant of the iterator's: mine, and the two blocks
  have far : ∀ {A : World} {row : Option Nat}, (∀ r, row = some r → V.heap.size ≤ r ∧ ∃ o : Obj, A.heap[r]? = some o ∧ o.isWalk = true) → ∀ r, row = some r → w.heap.size ≤ r ∧ ∃ o : Obj, A.heap[r]? = some o ∧ o.isCells = false := by
    intro A row h r e
    obtain ⟨h1, o, h2, h3⟩ := h r e
    exact ⟨by omega, o, h2, Obj.not_cells_of_walk h3⟩
  have stay : ∀ {A B : World} {row : Option Nat} {k : Nat} {o : Obj}, k < V.heap.size → A.heap[k]? = some o → A.grownBy B row → (∀ r, row = some r → V.heap.size ≤ r ∧ ∃ o : Obj, A.heap[r]? = some o ∧ o.isWalk = true) → B.heap[k]? = some o := by
    intro A B row k o hk ho hg' hr
    refine (hg'.block k (Array.getElem?_eq_some_iff.1 ho).1 fun e => ?_).trans ho
    have := (hr k e.symm).1
    omega
  refine (hseq (w.heap.size + 1) (fun pre W => I pre W ∧ W.heap[w.heap.size + 1]? = some (.loop (record .ready none)) ∧ W.heap[w.heap.size]? = some (.deferred (some []))) V hbV
    (fun s A B row hs hg' hr => ⟨hI s A B row hs.1 hg' (far hr), stay (by omega) hs.2.1 hg' hr, stay (by omega) hs.2.2 hg' hr⟩) ?_ ⟨hIV, hrecV, hcolV⟩).mono ?_
  · -- one round
    rintro pre x W ⟨hi, hl, hk⟩ ht
    have hlt : w.heap.size + 1 < W.heap.size := (Array.getElem?_eq_some_iff.1 hl).1
    refine ⟨fn, _, assign, body, run_yield hl (hps x), roundIn_of_wpIn hfn (hassign _ x W _ ⟨_, run_beginRound hl rfl, ?_⟩)⟩
    generalize hU : W.putObj (w.heap.size + 1) (.loop { record .ready none with state := .busy }) = U
    have hlU : U.heap[w.heap.size + 1]? = some (.loop { record .ready none with state := .busy }) := hU ▸ World.putObj_heap_same hlt
    have hkU : U.heap[w.heap.size]? = some (.deferred (some [])) := hU ▸ (World.putObj_heap_other (by omega)).trans hk
    have hpU : Kp W U := hU ▸ hKb _ _ _ _ (by omega) hl rfl rfl
    have hiU : I pre U := hU ▸ hI.putObj _ hi (by omega) hl rfl
    have htU : T pre x U := hU ▸ (hT pre x).putObj (s := ()) _ ht (by omega) hl rfl
    refine wpIn_mono (hbody _ pre x U hiU htU) ?_
    rintro e a3 W3 hp
    cases e with
    | normal =>
      obtain ⟨hk3, hp3, hi3⟩ := hp
      have hl3 := hk3.same _ _ (by omega) hlU rfl
      have hk4 := hk3.same _ _ (Nat.le_refl _) hkU rfl
      exact ⟨_, _, run_endRound none hl3, rfl, ⟨hI.putObj _ hi3 (by omega) hl3 rfl, World.putObj_heap_same (Array.getElem?_eq_some_iff.1 hl3).1, (World.putObj_heap_other (by omega)).trans hk4⟩, hKt (hKt hpU hp3) (hKb _ _ _ _ (by omega) hl3 rfl rfl)⟩
    | _ => exact hp.elim
  · -- the iterator has returned
    rintro e W2 ⟨⟨v, rfl⟩, xs, hS, hi, hl, hk⟩
    exact ⟨none, _, run_endLoop hl (by simp [record]), hdone _ xs _ (Nat.le_refl _) hS (hI.putObj _ hi (by omega) hl rfl) ((World.putObj_heap_other (by omega)).trans hk)⟩
end
end Go.Proofs.YtbgjoefpnjgdkaaDoor
