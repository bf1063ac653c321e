/- tree.fits, of up to eight leaves. -/
import Derived.Test.YtbgjoefpnjgdkaaDoorJ00
import Derived.Lib.Hide
namespace Go.Proofs.YtbgjoefpnjgdkaaDoor
open Go.RowKit
set_option linter.unusedVariables false
set_option linter.unusedSimpArgs false
set_option maxRecDepth 100000
namespace Tree
theorem ones1 (w : World) : Calls Tryd.prog 134 #[.int .u64 1] w fun e w' => e = .returned (.int .i64 1) ∧ w = w' := by
  go_enter Tryd.func134, Tryd.ntmps134
  go_wp2_with fail
  go_ret
  exact ⟨by kernel_rfl, rfl⟩
theorem count1 (w : World) : Calls Tryd.prog 95 #[.int .u64 1] w fun e w' => e = .returned (.int .i64 1) ∧ w = w' := by
  go_enter Tryd.func95, Tryd.ntmps95
  go_wp2_with fail
  refine (ones1 _).mono ?_
  rintro e w1 ⟨rfl, rfl⟩
  go_wp2_with fail
  go_ret
  exact ⟨rfl, rfl⟩
theorem fits1 (w : World) : Calls Tryd.prog 46 #[.int .i64 1] w fun e w' => e = .returned (.bool true) ∧ w = w' := by
  go_enter Tryd.func46, Tryd.ntmps46
  go_wp2_with fail
  refine (count1 _).mono ?_
  rintro e w1 ⟨rfl, rfl⟩
  go_wp2_with fail
  go_ret
  exact ⟨rfl, rfl⟩
theorem ones2 (w : World) : Calls Tryd.prog 134 #[.int .u64 2] w fun e w' => e = .returned (.int .i64 1) ∧ w = w' := by
  go_enter Tryd.func134, Tryd.ntmps134
  go_wp2_with fail
  go_ret
  exact ⟨by kernel_rfl, rfl⟩
theorem count2 (w : World) : Calls Tryd.prog 95 #[.int .u64 2] w fun e w' => e = .returned (.int .i64 1) ∧ w = w' := by
  go_enter Tryd.func95, Tryd.ntmps95
  go_wp2_with fail
  refine (ones2 _).mono ?_
  rintro e w1 ⟨rfl, rfl⟩
  go_wp2_with fail
  go_ret
  exact ⟨rfl, rfl⟩
theorem fits2 (w : World) : Calls Tryd.prog 46 #[.int .i64 2] w fun e w' => e = .returned (.bool true) ∧ w = w' := by
  go_enter Tryd.func46, Tryd.ntmps46
  go_wp2_with fail
  refine (count2 _).mono ?_
  rintro e w1 ⟨rfl, rfl⟩
  go_wp2_with fail
  go_ret
  exact ⟨rfl, rfl⟩
theorem ones3 (w : World) : Calls Tryd.prog 134 #[.int .u64 3] w fun e w' => e = .returned (.int .i64 2) ∧ w = w' := by
  go_enter Tryd.func134, Tryd.ntmps134
  go_wp2_with fail
  go_ret
  exact ⟨by kernel_rfl, rfl⟩
theorem count3 (w : World) : Calls Tryd.prog 95 #[.int .u64 3] w fun e w' => e = .returned (.int .i64 2) ∧ w = w' := by
  go_enter Tryd.func95, Tryd.ntmps95
  go_wp2_with fail
  refine (ones3 _).mono ?_
  rintro e w1 ⟨rfl, rfl⟩
  go_wp2_with fail
  go_ret
  exact ⟨rfl, rfl⟩
theorem fits3 (w : World) : Calls Tryd.prog 46 #[.int .i64 3] w fun e w' => e = .returned (.bool false) ∧ w = w' := by
  go_enter Tryd.func46, Tryd.ntmps46
  go_wp2_with fail
  refine (count3 _).mono ?_
  rintro e w1 ⟨rfl, rfl⟩
  go_wp2_with fail
  go_ret
  exact ⟨rfl, rfl⟩
theorem ones4 (w : World) : Calls Tryd.prog 134 #[.int .u64 4] w fun e w' => e = .returned (.int .i64 1) ∧ w = w' := by
  go_enter Tryd.func134, Tryd.ntmps134
  go_wp2_with fail
  go_ret
  exact ⟨by kernel_rfl, rfl⟩
theorem count4 (w : World) : Calls Tryd.prog 95 #[.int .u64 4] w fun e w' => e = .returned (.int .i64 1) ∧ w = w' := by
  go_enter Tryd.func95, Tryd.ntmps95
  go_wp2_with fail
  refine (ones4 _).mono ?_
  rintro e w1 ⟨rfl, rfl⟩
  go_wp2_with fail
  go_ret
  exact ⟨rfl, rfl⟩
theorem fits4 (w : World) : Calls Tryd.prog 46 #[.int .i64 4] w fun e w' => e = .returned (.bool true) ∧ w = w' := by
  go_enter Tryd.func46, Tryd.ntmps46
  go_wp2_with fail
  refine (count4 _).mono ?_
  rintro e w1 ⟨rfl, rfl⟩
  go_wp2_with fail
  go_ret
  exact ⟨rfl, rfl⟩
theorem ones5 (w : World) : Calls Tryd.prog 134 #[.int .u64 5] w fun e w' => e = .returned (.int .i64 2) ∧ w = w' := by
  go_enter Tryd.func134, Tryd.ntmps134
  go_wp2_with fail
  go_ret
  exact ⟨by kernel_rfl, rfl⟩
theorem count5 (w : World) : Calls Tryd.prog 95 #[.int .u64 5] w fun e w' => e = .returned (.int .i64 2) ∧ w = w' := by
  go_enter Tryd.func95, Tryd.ntmps95
  go_wp2_with fail
  refine (ones5 _).mono ?_
  rintro e w1 ⟨rfl, rfl⟩
  go_wp2_with fail
  go_ret
  exact ⟨rfl, rfl⟩
theorem fits5 (w : World) : Calls Tryd.prog 46 #[.int .i64 5] w fun e w' => e = .returned (.bool false) ∧ w = w' := by
  go_enter Tryd.func46, Tryd.ntmps46
  go_wp2_with fail
  refine (count5 _).mono ?_
  rintro e w1 ⟨rfl, rfl⟩
  go_wp2_with fail
  go_ret
  exact ⟨rfl, rfl⟩
theorem ones6 (w : World) : Calls Tryd.prog 134 #[.int .u64 6] w fun e w' => e = .returned (.int .i64 2) ∧ w = w' := by
  go_enter Tryd.func134, Tryd.ntmps134
  go_wp2_with fail
  go_ret
  exact ⟨by kernel_rfl, rfl⟩
theorem count6 (w : World) : Calls Tryd.prog 95 #[.int .u64 6] w fun e w' => e = .returned (.int .i64 2) ∧ w = w' := by
  go_enter Tryd.func95, Tryd.ntmps95
  go_wp2_with fail
  refine (ones6 _).mono ?_
  rintro e w1 ⟨rfl, rfl⟩
  go_wp2_with fail
  go_ret
  exact ⟨rfl, rfl⟩
theorem fits6 (w : World) : Calls Tryd.prog 46 #[.int .i64 6] w fun e w' => e = .returned (.bool false) ∧ w = w' := by
  go_enter Tryd.func46, Tryd.ntmps46
  go_wp2_with fail
  refine (count6 _).mono ?_
  rintro e w1 ⟨rfl, rfl⟩
  go_wp2_with fail
  go_ret
  exact ⟨rfl, rfl⟩
theorem ones7 (w : World) : Calls Tryd.prog 134 #[.int .u64 7] w fun e w' => e = .returned (.int .i64 3) ∧ w = w' := by
  go_enter Tryd.func134, Tryd.ntmps134
  go_wp2_with fail
  go_ret
  exact ⟨by kernel_rfl, rfl⟩
theorem count7 (w : World) : Calls Tryd.prog 95 #[.int .u64 7] w fun e w' => e = .returned (.int .i64 3) ∧ w = w' := by
  go_enter Tryd.func95, Tryd.ntmps95
  go_wp2_with fail
  refine (ones7 _).mono ?_
  rintro e w1 ⟨rfl, rfl⟩
  go_wp2_with fail
  go_ret
  exact ⟨rfl, rfl⟩
theorem fits7 (w : World) : Calls Tryd.prog 46 #[.int .i64 7] w fun e w' => e = .returned (.bool false) ∧ w = w' := by
  go_enter Tryd.func46, Tryd.ntmps46
  go_wp2_with fail
  refine (count7 _).mono ?_
  rintro e w1 ⟨rfl, rfl⟩
  go_wp2_with fail
  go_ret
  exact ⟨rfl, rfl⟩
theorem ones8 (w : World) : Calls Tryd.prog 134 #[.int .u64 8] w fun e w' => e = .returned (.int .i64 1) ∧ w = w' := by
  go_enter Tryd.func134, Tryd.ntmps134
  go_wp2_with fail
  go_ret
  exact ⟨by kernel_rfl, rfl⟩
theorem count8 (w : World) : Calls Tryd.prog 95 #[.int .u64 8] w fun e w' => e = .returned (.int .i64 1) ∧ w = w' := by
  go_enter Tryd.func95, Tryd.ntmps95
  go_wp2_with fail
  refine (ones8 _).mono ?_
  rintro e w1 ⟨rfl, rfl⟩
  go_wp2_with fail
  go_ret
  exact ⟨rfl, rfl⟩
theorem fits8 (w : World) : Calls Tryd.prog 46 #[.int .i64 8] w fun e w' => e = .returned (.bool true) ∧ w = w' := by
  go_enter Tryd.func46, Tryd.ntmps46
  go_wp2_with fail
  refine (count8 _).mono ?_
  rintro e w1 ⟨rfl, rfl⟩
  go_wp2_with fail
  go_ret
  exact ⟨rfl, rfl⟩
theorem fits0 (w : World) : Calls Tryd.prog 46 #[.int .i64 0] w fun e w' => e = .returned (.bool false) ∧ w = w' := by
  go_enter Tryd.func46, Tryd.ntmps46
  go_wp2_with fail
  go_ret
  exact ⟨rfl, rfl⟩
def fitsB (n : Nat) : Bool := n == 1 || n == 2 || n == 4 || n == 8
theorem fits_any (n : Nat) (hn : n ≤ 8) (w : World) : Calls Tryd.prog 46 #[.int .i64 (n : Int)] w fun e w' => e = .returned (.bool (fitsB n)) ∧ w = w' := by
  match n, hn with
  | 0, _ => exact fits0 w
  | 1, _ => exact fits1 w
  | 2, _ => exact fits2 w
  | 3, _ => exact fits3 w
  | 4, _ => exact fits4 w
  | 5, _ => exact fits5 w
  | 6, _ => exact fits6 w
  | 7, _ => exact fits7 w
  | 8, _ => exact fits8 w
end Tree
end Go.Proofs.YtbgjoefpnjgdkaaDoor
