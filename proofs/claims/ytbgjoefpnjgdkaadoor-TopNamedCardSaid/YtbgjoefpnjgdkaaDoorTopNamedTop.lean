/- TopNamed for every input: the variables are those that the row lists. -/
import Derived.Test.YtbgjoefpnjgdkaaDoorTopNamed
import Derived.Test.YtbgjoefpnjgdkaaDoorLaidVars
import Derived.Test.YtbgjoefpnjgdkaaDoorCards
namespace Go.Proofs.YtbgjoefpnjgdkaaDoor
open Go.RowKit Go.ChangeShapes Go.WideShapes
set_option linter.unusedVariables false
set_option maxRecDepth 100000
namespace Named
theorem words_of {W : World} {laid : List (String × DataW Unit)} (h : laidMet Tryd.prog laid W) (hg : ("palaver/event.words", .agg (wordsL.map fun l => .lit (.string l))) ∈ laid) : Words W := by
  obtain ⟨ps, hl, _, _⟩ := h
  obtain ⟨g'', t'', cs'', fuel'', p'', l1, l2, l3, l4⟩ := laid_mem hl hg
  obtain rfl := Option.some.inj ((show Tryd.prog.globalNamed "palaver/event.words" = some 2 by kernel_rfl).symm.trans l1)
  obtain rfl := Option.some.inj ((show (Tryd.prog.globals[2]?).map (·.type) = some 153 by kernel_rfl).symm.trans l2)
  have hstr := string_of (ls := wordsL) Tryd.underlying153 l4 rfl
  intro k hk
  rw [World.var?_cell l1 l3 k, hstr k hk]
  rfl
theorem named_laid {W : World} (h : laidMet Tryd.prog Rows.topNamedRow.laid W) : Vars W ∧ Words W :=
  ⟨vars_of h (.tail _ (.tail _ (.tail _ (.head _)))) (.tail _ (.tail _ (.tail _ (.tail _ (.head _))))) (.tail _ (.tail _ (.tail _ (.tail _ (.tail _ (.head _)))))), words_of h (.tail _ (.tail _ (.tail _ (.tail _ (.tail _ (.tail _ (.head _)))))))⟩
end Named
end Go.Proofs.YtbgjoefpnjgdkaaDoor
