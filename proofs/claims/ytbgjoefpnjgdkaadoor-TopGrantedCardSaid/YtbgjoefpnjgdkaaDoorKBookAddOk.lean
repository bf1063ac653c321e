/- book.Add to none. -/
import Derived.Test.YtbgjoefpnjgdkaaDoorJ28
import Derived.Test.YtbgjoefpnjgdkaaDoorKTreeClimb
import Derived.Deep.Onto
namespace Go.Proofs.YtbgjoefpnjgdkaaDoor
open Go.RowKit
set_option linter.unusedVariables false
set_option linter.unusedSimpArgs false
set_option maxRecDepth 100000
namespace Book
/-- a grant's cells -/
def grantC (sv fr to hi : Int) (R : List UInt8) : List Value := [.int .i64 sv, .int .i64 fr, .int .i64 to, .int .i64 hi] ++ bytesV R
theorem grantV_C (sv fr to hi : Int) (R : List UInt8) : grantV sv fr to hi (bytesV R).toArray = .agg (grantC sv fr to hi R).toArray := by simp [grantV, grantC]
theorem grantC_length (sv fr to hi : Int) (R : List UInt8) (hR : R.length = 32) : (grantC sv fr to hi R).length = 36 := by simp [grantC, bytesV, hR]
theorem grantC_one (sv fr to hi : Int) (R : List UInt8) : ∀ u ∈ grantC sv fr to hi R, u.oneCell' = true := by
  intro u hu
  simp only [grantC, List.mem_append] at hu
  rcases hu with hu | hu
  · simp at hu
    rcases hu with rfl | rfl | rfl | rfl <;> rfl
  · exact bytesV_cell R u hu

set_option maxHeartbeats 1000000 in
theorem add_ok (sv fr to hi : Int) (R : List UInt8) (hR : R.length = 32) (hok : rightP sv fr to hi) (w : World) : Calls Tryd.prog 21 #[.slice none 0 0, .agg (grantC sv fr to hi R).toArray] w fun e w' => ∃ v, e = .returned (.tuple #[v, .int .i64 0]) ∧ w'.ownsRow w.heap.size 51 36 v 1 (grantC sv fr to hi R) ∧ Below w.heap.size w w' := by
  have HRI := Lib.hid (fun (W : World) => right_any sv fr to hi (bytesV R).toArray (by rw [List.size_toArray, bytesV_length, hR]) W)
  rw [show decide (rightP sv fr to hi) = true from decide_eq_true hok, grantV_C] at HRI
  have hgl := grantC_length sv fr to hi R hR
  have HO1 := Lib.hid (grantC_one sv fr to hi R)
  generalize grantC sv fr to hi R = g at *
  clear hok
  have hb := (Below.refl w.heap.size w).alloc (Nat.le_refl _) (.cells g.toArray 51)
  have hra := (Blk.made w g 51).at_
  have HI : Hid ((Tryd.prog.info? 51).map (·.size) = some g.length) := by rw [hgl]; exact Lib.hid (by kernel_rfl)
  have HRA := Lib.hid hra
  clear hra
  go_enter Tryd.func21, Tryd.ntmps21
  go_wp2_with fail
  refine (check_nil _).mono ?_
  rintro e w1 ⟨rfl, rfl⟩
  go_wp2_with fail
  refine (clone_nil _).mono ?_
  rintro e w1 ⟨rfl, rfl⟩
  generalize w.alloc (.cells g.toArray 51) = wa at *
  go_wp2_with (with_reducible refine wpList_load_mid rfl 51 _ rfl w.heap.size 0 rfl g _ HRA.out Tryd.underlying51 rfl HI.out ?_)
  refine (HRI.out _).mono ?_
  rintro e w2 ⟨rfl, hb2⟩
  have hB := hb.trans (hb2.mono hb.size)
  have hlt : w.heap.size < wa.heap.size := by
    have h := HRA.out 0 (g[0]'(by omega)) (by simp [show 0 < g.length by omega])
    exact block_lt_of_cell h
  have hs2 := hb2.size
  have HRA2 : Hid (w2.rangeAt w.heap.size 0 g) := Lib.hid (fun j u hu => (hb2.cell (p := ⟨w.heap.size, 0 + j, none⟩) hlt).trans (HRA.out j u hu))
  go_wp2_with (with_reducible refine wpList_load_mid rfl 51 _ rfl w.heap.size 0 rfl g _ HRA2.out Tryd.underlying51 rfl HI.out ?_)
  refine (search_nil g.toArray _).mono ?_
  rintro e w3 ⟨rfl, hb3⟩
  have HRA3 : Hid (w3.rangeAt w.heap.size 0 g) := Lib.hid (fun j u hu => (hb3.cell (p := ⟨w.heap.size, 0 + j, none⟩) (by show w.heap.size < w2.heap.size; omega)).trans (HRA2.out j u hu))
  have HRD : Hid (∀ n, (w3.drewN n).rangeAt w.heap.size 0 g) := Lib.hid (fun n j u hu => ((below_drewN (Below.refl w3.heap.size w3) n).cell (p := ⟨w.heap.size, 0 + j, none⟩) (by show w.heap.size < w3.heap.size; have := hb3.size; omega)).trans (HRA3.out j u hu))
  have hB3 := hB.trans (hb3.mono hB.size)
  go_wp2_with fail
  go_quiet (fail)
  have hfold : g.zipIdx.foldl (fun cs x => cs.setIfInBounds x.snd x.fst) #[Value.int .i64 0, Value.int .i64 0, Value.int .i64 0, Value.int .i64 0, Value.int .u8 0, Value.int .u8 0, Value.int .u8 0, Value.int .u8 0, Value.int .u8 0, Value.int .u8 0, Value.int .u8 0, Value.int .u8 0, Value.int .u8 0, Value.int .u8 0, Value.int .u8 0, Value.int .u8 0, Value.int .u8 0, Value.int .u8 0, Value.int .u8 0, Value.int .u8 0, Value.int .u8 0, Value.int .u8 0, Value.int .u8 0, Value.int .u8 0, Value.int .u8 0, Value.int .u8 0, Value.int .u8 0, Value.int .u8 0, Value.int .u8 0, Value.int .u8 0, Value.int .u8 0, Value.int .u8 0, Value.int .u8 0, Value.int .u8 0, Value.int .u8 0, Value.int .u8 0] = g.toArray := Tree.fold_all _ _ (by rw [hgl]; rfl)
  go_wp2_with (with_reducible refine wpList_load_mid rfl 51 _ rfl w.heap.size 0 rfl g _ (HRD.out _) Tryd.underlying51 rfl HI.out ?_)
  have hBD := (below_drewN hB3 nq).alloc (by have := hB3.size; exact this) (.cells g.toArray 51)
  have hW := (Blk.made (w3.drewN nq) g 51).at_
  refine (insert_one g hgl HO1.out _ _ _ hW).mono ?_
  rintro e w4 ⟨v, rfl, hown, hb4⟩
  have hB4 := hBD.trans (hb4.mono hBD.size)
  go_wp2_with fail
  refine bodyPost_ret (v := .tuple #[v, .int .i64 0]) (by simp [results, Tryd.f21, go_sem]) rfl ⟨v, rfl, World.ownsRow.mono hown hBD.size, hB4⟩

end Book
end Go.Proofs.YtbgjoefpnjgdkaaDoor
