/- The law DiskKept's other ways: a room that may not be, too many calls, none. -/
import Derived.Test.YtobdllfddmeicaaActs
namespace Go.Proofs.Ytobdllfddmeicaa
open Go.RowKit
set_option linter.unusedVariables false
namespace Disk

set_option maxRecDepth 100000 in
set_option maxHeartbeats 4000000 in
theorem kept_range (room : Int) (h : ¬ (0 ≤ room ∧ room ≤ 1048576)) (ao : Option Addr) (n cap : Nat) (w : World) :
    Calls Try.prog 10 #[.int .i64 room, .slice ao n cap] w fun e w' => e = .returned (.bool true) ∧ Below w.heap.size w w' := by
  go_enter Try.func10, Try.ntmps10
  go_wp2_with fail
  refine (lives_any _).mono ?_
  rintro e w1 ⟨rfl, B⟩
  go_wp2_with fail
  refine (new_bad room (by omega) _).mono ?_
  rintro e w2 ⟨rfl, hb⟩
  have B2 := (B.trans (hb.mono B.size))
  go_wp2_with fail
  go_ret
  exact ⟨rfl, B2.alloc B2.size _⟩

set_option maxRecDepth 100000 in
set_option maxHeartbeats 4000000 in
theorem kept_long (room : Int) (h0 : 0 ≤ room) (hri : room ≤ 1048576) (ao : Option Addr) (n cap : Nat) (hn : 100 < n) (w : World) :
    Calls Try.prog 10 #[.int .i64 room, .slice ao n cap] w fun e w' => e = .returned (.bool true) ∧ Below w.heap.size w w' := by
  have hni : (100 : Int) < (n : Int) := by omega
  have hd : decide ((100 : Int) < (n : Int)) = true := by simp; omega
  go_enter Try.func10, Try.ntmps10
  go_wp2_with fail
  refine (lives_any _).mono ?_
  rintro e w1 ⟨rfl, B⟩
  go_wp2_with fail
  refine (new_ok room ⟨h0, hri⟩ _).mono ?_
  rintro e w2 ⟨rfl, hb⟩
  have B2 := (B.trans (hb.mono B.size))
  go_wp2_with fail
  go_ret
  exact ⟨rfl, B2.alloc B2.size _⟩

set_option maxRecDepth 100000 in
set_option maxHeartbeats 4000000 in
theorem kept_empty (room : Int) (h0 : 0 ≤ room) (hri : room ≤ 1048576) (ao : Option Addr) (cap : Nat) (w : World) :
    Calls Try.prog 10 #[.int .i64 room, .slice ao 0 cap] w fun e w' => e = .returned (.bool true) ∧ Below w.heap.size w w' := by
  go_enter Try.func10, Try.ntmps10
  go_wp2_with fail
  refine (lives_any _).mono ?_
  rintro e w1 ⟨rfl, B⟩
  go_wp2_with fail
  refine (new_ok room ⟨h0, hri⟩ _).mono ?_
  rintro e w2 ⟨rfl, hb⟩
  have B2 := (B.trans (hb.mono B.size))
  go_wp2_with fail
  refine wp_loop_rounds 1 ?_
  rw [rounds_succ]
  go_wp2_with fail
  go_ret
  exact ⟨rfl, B2.alloc B2.size _⟩
end Disk

section
open Go.ChangeShapes Go.WideShapes
variable {H : Type} {enc : TypeId × Value → H}

theorem Disk.kept_top (room : Int) (wr : (Lit.int .i64 room).wf = true) (ao : Option Addr) (n cap : Nat) (W : World) {fuel : Nat} {x : DataW H × List MemPlace}
    (h : DataW.trod enc Try.prog W 0 (fun _ => true) true fuel 43 [.slice ao n cap] = some x) :
    Calls Try.prog 10 #[.int .i64 room, .slice ao n cap] W fun e w' => e = .returned (.bool true) ∧ Below W.heap.size W w' := by
  by_cases hr : 0 ≤ room ∧ room ≤ 1048576
  · by_cases hn : 100 < n
    · exact Disk.kept_long room hr.1 hr.2 ao n cap hn W
    · rcases open_acts Try.underlying43 Try.underlying45 (by kernel_rfl) rfl rfl rfl rfl (by kernel_rfl) (by kernel_rfl) (by kernel_rfl) (by kernel_rfl) Try.underlying3 Try.underlying9 Try.underlying3 Try.underlying5 h with h0 | ⟨a, cap', L, hcs, hm, hL⟩
      · simp only [List.cons.injEq, and_true] at h0
        injection h0 with e1 e2 e3
        subst e1 e2 e3
        exact Disk.kept_empty room hr.1 hr.2 none 0 W
      · simp only [List.cons.injEq, and_true] at hcs
        injection hcs with e1 e2 e3
        subst e1 e2 e3
        rcases hL with rfl | ⟨b, off, rfl, hA⟩
        · exact Disk.kept_empty room hr.1 hr.2 _ cap W
        · exact Disk.kept_walk room hr.1 hr.2 b off cap L (by omega) W hA
  · exact Disk.kept_range room hr ao n cap W
end
end Go.Proofs.Ytobdllfddmeicaa
