/- TopOnce for every input: the slice that came in is opened; the tables are those that the row lists. -/
import Derived.Test.YtbgjoefpnjgdkaaDoorTopOnce
import Derived.Test.YtbgjoefpnjgdkaaDoorOctLaws
import Derived.Test.YtbgjoefpnjgdkaaDoorLaidTabs
import Derived.Test.YtbgjoefpnjgdkaaDoorCards
namespace Go.Proofs.YtbgjoefpnjgdkaaDoor
open Go.RowKit Go.ChangeShapes Go.WideShapes
set_option linter.unusedVariables false
set_option maxRecDepth 100000
variable {H : Type} {enc : TypeId × Value → H}
namespace Top
theorem once_laid {W : World} (h : laidMet Tryd.prog Rows.topOnceRow.laid W) : ∃ X kk, Sha.Tabs W X kk := tabs_of h (.head _) (.tail _ (.head _))
theorem toponce_top (ao : Option Addr) (n cap : Nat) (t : ByteArray) (ht : t.size ≤ maxLen) (W : World)
    {fuel : Nat} {x : DataW H × List MemPlace}
    (h : DataW.trod enc Tryd.prog W 0 (fun _ => true) true fuel 22 [.slice ao n cap] = some x) (hT : ∃ X kk, Sha.Tabs W X kk) :
    Calls Tryd.prog 4 #[.slice ao n cap, .string t] W fun e w' => e = .returned (.bool true) ∧ Below W.heap.size W w' := by
  obtain ⟨L, hL, -⟩ := Oct.strs_of ao n cap W h
  obtain ⟨X, kk, hT⟩ := hT
  exact once_top ao n cap t X kk W hT L hL
end Top
end Go.Proofs.YtbgjoefpnjgdkaaDoor
