/- Joined of 2 texts: their lemmas, one behind the other; each says below what it holds. -/
import Derived.Test.YtbgjoefpnjgdkaaDoorKBookFind
import Derived.Test.YtbgjoefpnjgdkaaDoorJ08
/- book.Verify by one grant. -/
namespace Go.Proofs.YtbgjoefpnjgdkaaDoor
open Go.RowKit
set_option linter.unusedVariables false
set_option linter.unusedSimpArgs false
set_option maxRecDepth 100000
namespace Book
open Sha
set_option maxHeartbeats 2000000 in
theorem verify_none (v : Value) (sx ax : Int) (t s : ByteArray) (gs : List Value) (hgl : gs.length = 36) (h1 : ∀ u ∈ gs, u.oneCell' = true) (w : World)
    (HF : Calls Tryd.prog 60 #[v, .int .i64 sx, .int .i64 ax] w fun e w' => e = .returned (.tuple #[.agg gs.toArray, .int .i64 3]) ∧ Below w.heap.size w w') :
    Calls Tryd.prog 22 #[v, .int .i64 sx, .int .i64 ax, .string t, .string s] w fun e w' => e = .returned (.int .i64 3) ∧ Below w.heap.size w w' := by
  have HIA : Hid ((Tryd.prog.info? 51).map (·.size) = some gs.toArray.size) := by rw [List.size_toArray, hgl]; exact Lib.hid (by kernel_rfl)
  have HO1 := Lib.hid (all_oneCell_toArray h1)
  have HZ : Hid (gs.toArray.size = 36) := Lib.hid (by simp [hgl])
  have HFF := Lib.hid HF
  clear HF hgl h1
  go_enter Tryd.func22, Tryd.ntmps22
  go_wp2_with fail
  refine HFF.out.mono ?_
  rintro e w2 ⟨rfl, hb2⟩
  go_wp2_with (refine wpList_store_new (o := ⟨none, .store 51 (.tmp 11) (.tmp 18), _, _, _, _⟩) rfl 51 (.tmp 11) (.tmp 18) rfl _ gs.toArray ?_ ?_ HIA.out ?_ HO1.out ?_; rfl; rfl; exact (show _ = 36 from rfl).trans HZ.out.symm)
  go_ret
  exact ⟨rfl, hb2.alloc hb2.size _⟩

set_option maxHeartbeats 2000000 in
theorem verify_found (v : Value) (sx ax : Int) (t s : ByteArray) (sv fr to hi : Int) (R : List UInt8) (hR : R.length = 32) (w : World)
    (HF : Calls Tryd.prog 60 #[v, .int .i64 sx, .int .i64 ax] w fun e w' => e = .returned (.tuple #[.agg (grantC sv fr to hi R).toArray, .int .i64 0]) ∧ Below w.heap.size w w')
    (HV : ∀ W, Below w.heap.size w W → Calls Tryd.prog 61 #[.agg (bytesV R).toArray, .int .i64 hi, .string t, .string s] W fun e w' => e = .returned (.int .i64 0) ∧ Below W.heap.size W w') :
    Calls Tryd.prog 22 #[v, .int .i64 sx, .int .i64 ax, .string t, .string s] w fun e w' => e = .returned (.int .i64 0) ∧ Below w.heap.size w w' := by
  have hgl := grantC_length sv fr to hi R hR
  have h1 := grantC_one sv fr to hi R
  have c3 : (grantC sv fr to hi R)[3]? = some (.int .i64 hi) := rfl
  have c4 : ((grantC sv fr to hi R).drop 4).take (bytesV R).length = bytesV R := by
    rw [List.take_of_length_le (by simp [grantC, bytesV])]; rfl
  generalize grantC sv fr to hi R = gs at *
  have HIA : Hid ((Tryd.prog.info? 51).map (·.size) = some gs.toArray.size) := by rw [List.size_toArray, hgl]; exact Lib.hid (by kernel_rfl)
  have HIR : Hid ((Tryd.prog.info? 30).map (·.size) = some (bytesV R).length) := by rw [bytesV_length, hR]; exact Lib.hid (by kernel_rfl)
  have HO1 := Lib.hid (all_oneCell_toArray h1)
  have HZ : Hid (gs.toArray.size = 36) := Lib.hid (by simp [hgl])
  have HFF := Lib.hid HF
  have HVV := Lib.hid HV
  clear HF hgl h1 HV
  go_enter Tryd.func22, Tryd.ntmps22
  go_wp2_with fail
  refine HFF.out.mono ?_
  rintro e w2 ⟨rfl, hb2⟩
  have K := Blk.made w2 gs 51
  have HC3 := K.cell 3 c3
  have HRR : Hid ((w2.alloc (.cells gs.toArray 51)).rangeAt w2.heap.size 4 (bytesV R)) := Lib.hid (K.part 4 (bytesV R) c4)
  have hb3 := hb2.alloc hb2.size (.cells gs.toArray 51)
  clear K c3 c4
  go_wp2_with (first | (refine wpList_store_new (o := ⟨none, .store 51 (.tmp 11) (.tmp 18), _, _, _, _⟩) rfl 51 (.tmp 11) (.tmp 18) rfl _ gs.toArray ?_ ?_ HIA.out ?_ HO1.out ?_; rfl; rfl; exact (show _ = 36 from rfl).trans HZ.out.symm) | (with_reducible refine wpList_load_mid rfl 30 _ rfl w2.heap.size 4 rfl (bytesV R) _ HRR.out Tryd.underlying30 rfl HIR.out ?_))
  refine (HVV.out _ hb3).mono ?_
  rintro e w4 ⟨rfl, hb4⟩
  go_wp2_with fail
  go_ret
  exact ⟨rfl, hb3.trans (hb4.mono hb3.size)⟩
end Book
end Go.Proofs.YtbgjoefpnjgdkaaDoor
/- The first question of each law through the layers. -/
namespace Go.Proofs.YtbgjoefpnjgdkaaDoor
open Go.RowKit
set_option linter.unusedVariables false
namespace Top
theorem num300 (w : World) : Calls Tryd.prog 38 #[.int .u64 300] w fun e w' => e = .returned (.tuple #[.string ⟨#[172, 2]⟩, .int .i64 0]) ∧ Below w.heap.size w w' := by
  refine (Oct.num_ok 300 (by omega) w).mono fun e w' h => ⟨?_, h.2⟩
  rw [h.1]
  exact congrArg (fun l : List UInt8 => Ending.returned (.tuple #[.string ⟨l.toArray⟩, .int .i64 0])) (show Oct.putL 300 = [172, 2] by decide +kernel)

theorem begins_any (w : World) : Calls Tryd.prog 9 #[] w fun e w' => e = .returned (.bool true) ∧ Below w.heap.size w w' := by
  go_enter Tryd.func9, Tryd.ntmps9
  go_wp2_with fail
  refine (num300 _).mono ?_
  rintro e w1 ⟨rfl, hb⟩
  go_wp2_with fail
  go_ret
  exact ⟨rfl, hb⟩
end Top
end Go.Proofs.YtbgjoefpnjgdkaaDoor
