/- tree.Above: what is above two. -/
import Derived.Test.YtbgjoefpnjgdkaaDoorOneRecover
namespace Go.Proofs.YtbgjoefpnjgdkaaDoor
open Go.RowKit
set_option linter.unusedVariables false
set_option linter.unusedSimpArgs false
set_option maxRecDepth 100000
namespace Tree
open Sha
def aboveL (X kk : Nat → Int) (a b : List UInt8) : List UInt8 := sumL X kk (1 :: a ++ b)
theorem aboveL_length (X kk : Nat → Int) (a b : List UInt8) : (aboveL X kk a b).length = 32 := sumL_length _ _ _

theorem cells_new (w : World) (l : List UInt8) (t : TypeId) (H : Nat) (hH : w.heap.size = H) : ∀ j (hj : j < l.length), (w.alloc (.cells (bytesV l).toArray t)).cell? ⟨H, 0 + j, none⟩ = some (.int .u8 (l[j].toNat : Int)) := by
  subst hH
  intro j hj
  rw [Nat.zero_add, World.cell?_alloc_mark w (bytesV l).toArray t (0, 0) j]
  simp [bytesV, hj]

theorem news_after {w w1 : World} {g h n c : Nat} {b : List UInt8} (hne : h ≠ g) (hg : w.grownBy w1 (Value.slice (some ⟨g, 0, none⟩) n c).ownBlock) (NB : ∀ j u, (bytesV b)[j]? = some u → w.cell? ((⟨h, 0, none⟩ : Addr).add j) = some u) :
    ∀ j u, (bytesV b)[j]? = some u → w1.cell? ((⟨h, 0, none⟩ : Addr).add j) = some u := fun j u hu => by
  refine hg.cell (NB j u hu) ?_
  rw [add_block]
  show some h ≠ some g
  intro e
  injection e with e
  exact hne e
theorem le_after {w w1 : World} {row : Option Nat} {k m : Nat} (hg : w.grownBy w1 row) (h : w.heap.size = m) (hk : k ≤ m) : k ≤ w1.heap.size := by have := hg.size; omega

set_option maxHeartbeats 4000000 in
theorem above_any (X kk : Nat → Int) (a b : List UInt8) (ha : a.length = 32) (hb : b.length = 32) (w : World) (hT : Tabs w X kk) :
    Calls Tryd.prog 47 #[.agg (bytesV a).toArray, .agg (bytesV b).toArray] w fun e w' => e = .returned (.agg (bytesV (aboveL X kk a b)).toArray) ∧ Below w.heap.size w w' := by
  have HT := Lib.hid hT
  clear hT
  go_enter Tryd.func47, Tryd.ntmps47
  have a0 := ArrB.zeros ((w.alloc (.cells (bytesV a).toArray 30)).alloc (.cells (bytesV b).toArray 30)) 32 _ 30 rfl
  have hz : (Array.replicate 32 (Value.int .u8 0)) = #[.int .u8 0, .int .u8 0, .int .u8 0, .int .u8 0, .int .u8 0, .int .u8 0, .int .u8 0, .int .u8 0, .int .u8 0, .int .u8 0, .int .u8 0, .int .u8 0, .int .u8 0, .int .u8 0, .int .u8 0, .int .u8 0, .int .u8 0, .int .u8 0, .int .u8 0, .int .u8 0, .int .u8 0, .int .u8 0, .int .u8 0, .int .u8 0, .int .u8 0, .int .u8 0, .int .u8 0, .int .u8 0, .int .u8 0, .int .u8 0, .int .u8 0, .int .u8 0] := rfl
  rw [hz] at a0
  clear hz
  have NA : Hid (∀ j u, (bytesV a)[j]? = some u → ((((w.alloc (.cells (bytesV a).toArray 30)).alloc (.cells (bytesV b).toArray 30)).alloc (.cells #[.int .u8 0, .int .u8 0, .int .u8 0, .int .u8 0, .int .u8 0, .int .u8 0, .int .u8 0, .int .u8 0, .int .u8 0, .int .u8 0, .int .u8 0, .int .u8 0, .int .u8 0, .int .u8 0, .int .u8 0, .int .u8 0, .int .u8 0, .int .u8 0, .int .u8 0, .int .u8 0, .int .u8 0, .int .u8 0, .int .u8 0, .int .u8 0, .int .u8 0, .int .u8 0, .int .u8 0, .int .u8 0, .int .u8 0, .int .u8 0, .int .u8 0, .int .u8 0] 30)).alloc (.cells #[.int .u8 1] 5)).cell? ((⟨w.heap.size, 0, none⟩ : Addr).add j) = some u) := by
    refine Lib.hid (fun j u hu => ?_)
    have h := Bag.news (cells_new w a 30 _ rfl) j u hu
    have hB := (((Below.refl _ (w.alloc (.cells (bytesV a).toArray 30))).alloc (Nat.le_refl _) (.cells (bytesV b).toArray 30)).alloc (by simp) (.cells #[.int .u8 0, .int .u8 0, .int .u8 0, .int .u8 0, .int .u8 0, .int .u8 0, .int .u8 0, .int .u8 0, .int .u8 0, .int .u8 0, .int .u8 0, .int .u8 0, .int .u8 0, .int .u8 0, .int .u8 0, .int .u8 0, .int .u8 0, .int .u8 0, .int .u8 0, .int .u8 0, .int .u8 0, .int .u8 0, .int .u8 0, .int .u8 0, .int .u8 0, .int .u8 0, .int .u8 0, .int .u8 0, .int .u8 0, .int .u8 0, .int .u8 0, .int .u8 0] 30)).alloc (by simp <;> omega) (.cells #[.int .u8 1] 5)
    exact (hB.cell (by rw [add_block]; simp)).trans h
  have NB : Hid (∀ j u, (bytesV b)[j]? = some u → ((((w.alloc (.cells (bytesV a).toArray 30)).alloc (.cells (bytesV b).toArray 30)).alloc (.cells #[.int .u8 0, .int .u8 0, .int .u8 0, .int .u8 0, .int .u8 0, .int .u8 0, .int .u8 0, .int .u8 0, .int .u8 0, .int .u8 0, .int .u8 0, .int .u8 0, .int .u8 0, .int .u8 0, .int .u8 0, .int .u8 0, .int .u8 0, .int .u8 0, .int .u8 0, .int .u8 0, .int .u8 0, .int .u8 0, .int .u8 0, .int .u8 0, .int .u8 0, .int .u8 0, .int .u8 0, .int .u8 0, .int .u8 0, .int .u8 0, .int .u8 0, .int .u8 0] 30)).alloc (.cells #[.int .u8 1] 5)).cell? ((⟨w.heap.size + 1, 0, none⟩ : Addr).add j) = some u) := by
    refine Lib.hid (fun j u hu => ?_)
    have h := Bag.news (cells_new (w.alloc (.cells (bytesV a).toArray 30)) b 30 (w.heap.size + 1) (by simp)) j u hu
    have hB := ((Below.refl _ ((w.alloc (.cells (bytesV a).toArray 30)).alloc (.cells (bytesV b).toArray 30))).alloc (Nat.le_refl _) (.cells #[.int .u8 0, .int .u8 0, .int .u8 0, .int .u8 0, .int .u8 0, .int .u8 0, .int .u8 0, .int .u8 0, .int .u8 0, .int .u8 0, .int .u8 0, .int .u8 0, .int .u8 0, .int .u8 0, .int .u8 0, .int .u8 0, .int .u8 0, .int .u8 0, .int .u8 0, .int .u8 0, .int .u8 0, .int .u8 0, .int .u8 0, .int .u8 0, .int .u8 0, .int .u8 0, .int .u8 0, .int .u8 0, .int .u8 0, .int .u8 0, .int .u8 0, .int .u8 0] 30)).alloc (by simp) (.cells #[.int .u8 1] 5)
    exact (hB.cell (by rw [add_block]; simp)).trans h
  have HA : Hid (ArrB (w.heap.size + 1 + 1) ((((w.alloc (.cells (bytesV a).toArray 30)).alloc (.cells (bytesV b).toArray 30)).alloc (.cells #[.int .u8 0, .int .u8 0, .int .u8 0, .int .u8 0, .int .u8 0, .int .u8 0, .int .u8 0, .int .u8 0, .int .u8 0, .int .u8 0, .int .u8 0, .int .u8 0, .int .u8 0, .int .u8 0, .int .u8 0, .int .u8 0, .int .u8 0, .int .u8 0, .int .u8 0, .int .u8 0, .int .u8 0, .int .u8 0, .int .u8 0, .int .u8 0, .int .u8 0, .int .u8 0, .int .u8 0, .int .u8 0, .int .u8 0, .int .u8 0, .int .u8 0, .int .u8 0] 30)).alloc (.cells #[.int .u8 1] 5)) (fun _ => 0) 32) := by
    have h := a0.below ((Below.refl _ _).alloc (Nat.le_refl _) (.cells #[.int .u8 1] 5))
    rw [World.size_alloc, World.size_alloc] at h
    exact Lib.hid h
  have HV : Hid (Bag (w.heap.size + 1 + 1 + 1) ((((w.alloc (.cells (bytesV a).toArray 30)).alloc (.cells (bytesV b).toArray 30)).alloc (.cells #[.int .u8 0, .int .u8 0, .int .u8 0, .int .u8 0, .int .u8 0, .int .u8 0, .int .u8 0, .int .u8 0, .int .u8 0, .int .u8 0, .int .u8 0, .int .u8 0, .int .u8 0, .int .u8 0, .int .u8 0, .int .u8 0, .int .u8 0, .int .u8 0, .int .u8 0, .int .u8 0, .int .u8 0, .int .u8 0, .int .u8 0, .int .u8 0, .int .u8 0, .int .u8 0, .int .u8 0, .int .u8 0, .int .u8 0, .int .u8 0, .int .u8 0, .int .u8 0] 30)).alloc (.cells #[.int .u8 1] 5)) (.slice (some ⟨w.heap.size + 1 + 1 + 1, 0, none⟩) 1 1) [1]) := Lib.hid (Bag.fresh _ [1] _ _ _ _ (by simp) (Nat.le_refl _) rfl)
  have HB : Hid (Below w.heap.size w ((((w.alloc (.cells (bytesV a).toArray 30)).alloc (.cells (bytesV b).toArray 30)).alloc (.cells #[.int .u8 0, .int .u8 0, .int .u8 0, .int .u8 0, .int .u8 0, .int .u8 0, .int .u8 0, .int .u8 0, .int .u8 0, .int .u8 0, .int .u8 0, .int .u8 0, .int .u8 0, .int .u8 0, .int .u8 0, .int .u8 0, .int .u8 0, .int .u8 0, .int .u8 0, .int .u8 0, .int .u8 0, .int .u8 0, .int .u8 0, .int .u8 0, .int .u8 0, .int .u8 0, .int .u8 0, .int .u8 0, .int .u8 0, .int .u8 0, .int .u8 0, .int .u8 0] 30)).alloc (.cells #[.int .u8 1] 5))) := Lib.hid (((((Below.refl w.heap.size w).alloc (by simp) _).alloc (by simp) _).alloc (by simp <;> omega) _).alloc (by simp <;> omega) _)
  have HS : Hid (((((w.alloc (.cells (bytesV a).toArray 30)).alloc (.cells (bytesV b).toArray 30)).alloc (.cells #[.int .u8 0, .int .u8 0, .int .u8 0, .int .u8 0, .int .u8 0, .int .u8 0, .int .u8 0, .int .u8 0, .int .u8 0, .int .u8 0, .int .u8 0, .int .u8 0, .int .u8 0, .int .u8 0, .int .u8 0, .int .u8 0, .int .u8 0, .int .u8 0, .int .u8 0, .int .u8 0, .int .u8 0, .int .u8 0, .int .u8 0, .int .u8 0, .int .u8 0, .int .u8 0, .int .u8 0, .int .u8 0, .int .u8 0, .int .u8 0, .int .u8 0, .int .u8 0] 30)).alloc (.cells #[.int .u8 1] 5)).heap.size = w.heap.size + 4) := Lib.hid (by simp)
  have HF1 : Hid (([1] : List UInt8).length + a.length ≤ 1099511627776) := Lib.hid (by simp; omega)
  have HF2 : Hid (([1] ++ a : List UInt8).length + b.length ≤ 1099511627776) := Lib.hid (by simp; omega)
  have HAl := Lib.hid ha
  have HBl := Lib.hid hb
  clear a0 ha hb
  go_wp2_with (first | (at_builtin; refine wpList_append_bag rfl (.tmp 6) (.tmp 7) rfl (w.heap.size + 1 + 1 + 1) _ [1] rfl HV.out (by have := HS.out; omega) ⟨w.heap.size, 0, none⟩ 32 32 a rfl HAl.out NA.out HF1.out ?_; intro v1 w1 hv1 hg1) | (at_builtin; refine wpList_append_bag rfl (.tmp 9) (.tmp 10) rfl (w.heap.size + 1 + 1 + 1) _ ([1] ++ a) rfl hv1 (le_after hg1 HS.out (by omega)) ⟨w.heap.size + 1, 0, none⟩ 32 32 b rfl HBl.out (news_after (by omega) hg1 NB.out) HF2.out ?_; intro v2 w2 hv2 hg2; have hcv := hv2.conv))
  have hs1 : w.heap.size + 4 ≤ w1.heap.size := le_after hg1 HS.out (Nat.le_refl _)
  have hA1 := HA.out.row (show some (w.heap.size + 1 + 1) ≠ some (w.heap.size + 1 + 1 + 1) by intro e; injection e with e; omega) hg1
  have hA2 := hA1.row (fun e => by have := (hv1.lt _ e.symm).1; omega) hg2
  have hB1 := HB.out.grown hg1 (by have := HS.out; omega) (fun k e => by injection e with e; simp only at e; omega)
  have hB2 := hB1.grown hg2 (by omega) (fun k e => by have := (hv1.lt k e).1; omega)
  have hs2 := hg2.size
  clear HA HB HV NA NB HF1 HF2 hv1 hg1 hv2 hg2 HS hcv hA1 hB1
  have HSM := Lib.hid (sum_any ⟨(1 :: (a ++ b)).toArray⟩ X kk w2 (HT.out.below rfl hB2))
  refine HSM.out.mono ?_
  rintro e w3 ⟨rfl, hb3⟩
  have dA := hA2.below hb3
  have dB := hB2.trans (hb3.mono (by omega))
  obtain ⟨cs, hcs⟩ : ∃ cs, cs = bytesV (sumL X kk (1 :: (a ++ b))) := ⟨_, rfl⟩
  have hcs2 : bytesV (sumL X kk (1 :: (a ++ b))) = cs := hcs.symm
  rw [hcs2]
  have hl : cs.length = 32 := by rw [hcs, bytesV_length]; exact sumL_length _ _ _
  have ht : w3.there (w.heap.size + 1 + 1) 0 cs.toArray.size := by
    intro j hj
    rw [List.size_toArray, hl] at hj
    rw [Nat.zero_add, dA.cell j hj]
    exact ⟨rfl, dA.froz j⟩
  have HI3 : Hid ((Tryd.prog.info? 30).map (·.size) = some cs.length) := by rw [hl]; exact Lib.hid (by kernel_rfl)
  have HI' : Hid ((Tryd.prog.info? 30).map (·.size) = some cs.toArray.size) := by rw [List.size_toArray]; exact HI3
  have H1 : Hid (cs.toArray.all (·.oneCell') = true) := by rw [hcs]; exact Lib.hid (bytesV_one _)
  have HCS := Lib.hid hcs
  have HT5 := Lib.hid ht
  have HSS := Lib.hid (World.rangeAt_setCells_same w3 (w.heap.size + 1 + 1) 0 cs (by rw [← List.size_toArray]; exact ht))
  have HB5 := Lib.hid dB
  clear ht hcs hcs2 hl dA dB
  go_wp2_with (with_reducible refine wpList_store_mid rfl _ _ _ rfl (w.heap.size + 1 + 1) 0 cs.toArray rfl rfl HT5.out HI'.out H1.out ?_)
  refine bodyPost_ret (v := .agg cs.toArray) ?_ rfl ⟨by rw [HCS.out]; rfl, below_setCells (by omega) _ _ _ HB5.out⟩
  exact results_cell Tryd.results47 _ _ _ (w.heap.size + 1 + 1) cs rfl (run_loadVar_mid _ (w.heap.size + 1 + 1) 0 30 cs _ HSS.out Tryd.underlying30 rfl HI3.out)
end Tree
end Go.Proofs.YtbgjoefpnjgdkaaDoor
