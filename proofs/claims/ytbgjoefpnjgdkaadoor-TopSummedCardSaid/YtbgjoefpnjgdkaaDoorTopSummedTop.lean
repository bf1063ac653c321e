/- TopSummed for every input: the slices that came in are opened; the tables are those that the row lists. -/
import Derived.Test.YtbgjoefpnjgdkaaDoorTopSummed
import Derived.Test.YtbgjoefpnjgdkaaDoorOctLaws
import Derived.Test.YtbgjoefpnjgdkaaDoorLaidTabs
import Derived.Test.YtbgjoefpnjgdkaaDoorCards
namespace Go.Proofs.YtbgjoefpnjgdkaaDoor
open Go.RowKit Go.ChangeShapes Go.WideShapes
set_option linter.unusedVariables false
set_option maxRecDepth 100000
variable {H : Type} {enc : TypeId × Value → H}
namespace Top
theorem summed_laid {W : World} (h : laidMet Tryd.prog Rows.topSummedRow.laid W) : ∃ X kk, Sha.Tabs W X kk := tabs_of h (.head _) (.tail _ (.head _))
theorem topsummed_top (ao : Option Addr) (n cap : Nat) (bo : Option Addr) (n' cap' : Nat) (W : World)
    {fuel fuel' : Nat} {x x' : DataW H × List MemPlace}
    (h : DataW.trod enc Tryd.prog W 0 (fun _ => true) true fuel 22 [.slice ao n cap] = some x)
    (h' : DataW.trod enc Tryd.prog W 0 (fun _ => true) true fuel' 22 [.slice bo n' cap'] = some x') (hT : ∃ X kk, Sha.Tabs W X kk) :
    Calls Tryd.prog 3 #[.slice ao n cap, .slice bo n' cap'] W fun e w' => e = .returned (.bool true) ∧ Below W.heap.size W w' := by
  obtain ⟨L, hL, -⟩ := Oct.strs_of ao n cap W h
  obtain ⟨M, hM, -⟩ := Oct.strs_of bo n' cap' W h'
  obtain ⟨X, kk, hT⟩ := hT
  exact summed_top ao n cap bo n' cap' X kk W hT L M hL hM
end Top
end Go.Proofs.YtbgjoefpnjgdkaaDoor
