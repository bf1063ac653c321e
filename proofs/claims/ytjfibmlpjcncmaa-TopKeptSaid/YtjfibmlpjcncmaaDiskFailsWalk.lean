/- The walk of the law DiskFails, by the contracts of what it calls. -/
import Derived.Test.YtjfibmlpjcncmaaDiskLives
namespace Go.Proofs.Ytjfibmlpjcncmaa
open Go.RowKit
set_option linter.unusedVariables false
namespace Disk

theorem u8_of (a : Int) (h : (Lit.int .u8 a).wf = true) : ∃ b : UInt8, a = (b.toNat : Int) := by
  have hx : 0 ≤ a ∧ a ≤ 255 := by simpa [Lit.wf, IntKind.min, IntKind.max, IntKind.signed, IntKind.bits] using h
  refine ⟨UInt8.ofNat a.toNat, ?_⟩
  rw [UInt8.toNat_ofNat', Nat.mod_eq_of_lt (by omega)]; omega

end Disk
end Go.Proofs.Ytjfibmlpjcncmaa
