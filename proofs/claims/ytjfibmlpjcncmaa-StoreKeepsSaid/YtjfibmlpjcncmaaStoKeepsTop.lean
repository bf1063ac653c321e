/- StoreKeeps for every room and every slice of calls. -/
import Derived.Test.YtjfibmlpjcncmaaStoKeeps
import Derived.Test.YtjfibmlpjcncmaaActs
namespace Go.Proofs.Ytjfibmlpjcncmaa
open Go.RowKit Go.ChangeShapes Go.WideShapes
set_option linter.unusedVariables false
variable {H : Type} {enc : TypeId × Value → H}

theorem Sto.skeeps_top (room : Int) (wr : (Lit.int .i64 room).wf = true) (ao : Option Addr) (n cap : Nat) (W : World) {fuel : Nat} {x : DataW H × List MemPlace}
    (h : DataW.trod enc Try.prog W 0 (fun _ => true) true fuel 68 [.slice ao n cap] = some x) :
    Calls Try.prog 13 #[.int .i64 room, .slice ao n cap] W fun e w' => e = .returned (.bool true) ∧ Below W.heap.size W w' := by
  by_cases hr : 0 ≤ room ∧ room ≤ 1048576
  · by_cases hn : 60 < n
    · exact Sto.skeeps_long room hr.1 hr.2 ao n cap hn W
    · rcases open_acts Try.underlying68 Try.underlying69 (by kernel_rfl) rfl rfl rfl rfl (by kernel_rfl) (by kernel_rfl) (by kernel_rfl) (by kernel_rfl) Try.underlying3 Try.underlying9 Try.underlying3 Try.underlying5 h with h0 | ⟨a, cap', L, hcs, hm, hL⟩
      · simp only [List.cons.injEq, and_true] at h0
        injection h0 with e1 e2 e3
        subst e1 e2 e3
        exact Sto.skeeps_empty room hr.1 hr.2 none 0 W
      · simp only [List.cons.injEq, and_true] at hcs
        injection hcs with e1 e2 e3
        subst e1 e2 e3
        rcases hL with rfl | ⟨b, off, rfl, hA⟩
        · exact Sto.skeeps_empty room hr.1 hr.2 _ cap W
        · exact Sto.skeeps_walk room hr.1 hr.2 b off cap L (by omega) W hA
  · exact Sto.skeeps_range room hr ao n cap W
end Go.Proofs.Ytjfibmlpjcncmaa
