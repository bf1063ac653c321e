/- The first question of each law through the layers. -/
import Derived.Test.YtbgjoefpnjgdkaaDoorOctNum
namespace Go.Proofs.YtbgjoefpnjgdkaaDoor
open Go.RowKit
set_option linter.unusedVariables false
namespace Top
theorem num300 (w : World) : Calls Tryd.prog 38 #[.int .u64 300] w fun e w' => e = .returned (.tuple #[.string ⟨#[172, 2]⟩, .int .i64 0]) ∧ Below w.heap.size w w' := by
  refine (Oct.num_ok 300 (by omega) w).mono fun e w' h => ⟨?_, h.2⟩
  rw [h.1]
  exact congrArg (fun l : List UInt8 => Ending.returned (.tuple #[.string ⟨l.toArray⟩, .int .i64 0])) (show Oct.putL 300 = [172, 2] by decide +kernel)

theorem begins_any (w : World) : Calls Tryd.prog 9 #[] w fun e w' => e = .returned (.bool true) ∧ Below w.heap.size w w' := by
  go_enter Tryd.func9, Tryd.ntmps9
  go_wp2_with fail
  refine (num300 _).mono ?_
  rintro e w1 ⟨rfl, hb⟩
  go_wp2_with fail
  go_ret
  exact ⟨rfl, hb⟩
end Top
end Go.Proofs.YtbgjoefpnjgdkaaDoor
