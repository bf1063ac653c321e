/- The answers of chapter 1 that each law asks for. -/
import Derived.Test.YtbgjoefpnjgdkaaDoorOctAll
namespace Go.Proofs.YtbgjoefpnjgdkaaDoor
open Go.RowKit
set_option linter.unusedVariables false
set_option linter.unusedSimpArgs false
set_option maxRecDepth 4000
namespace Oct

theorem lit_list (l : List UInt8) (a : Array UInt8) (h : a = l.toArray) : (⟨l.toArray⟩ : ByteArray) = ⟨a⟩ := by rw [h]

end Oct
end Go.Proofs.YtbgjoefpnjgdkaaDoor
