/- Joined of 2 texts: their lemmas, one behind the other; each says below what it holds. -/
import Derived.Test.YtbgjoefpnjgdkaaDoorJ26
import Derived.Lib.BufferMore
/- book: what is asked of a book of no grants. -/
namespace Go.Proofs.YtbgjoefpnjgdkaaDoor
open Go.RowKit
set_option linter.unusedVariables false
set_option linter.unusedSimpArgs false
set_option maxRecDepth 100000
namespace Book
theorem clone_nil (w : World) : Calls Tryd.prog 54 #[.slice none 0 0] w fun e w' => e = .returned (.slice none 0 0) ∧ w = w' := by
  have hnil : ∀ W, (binOp .eql 47 (.slice none 0 0) (.slice none 0 0)).run Tryd.prog W = .ok (.bool true) W := fun W => Lib.run_eql_slice_nil_nil W _ _ Tryd.underlying47
  go_enter Tryd.func54, Tryd.ntmps54
  go_wp2_with fail
  go_ret
  exact ⟨rfl, rfl⟩
theorem check_nil (w : World) : Calls Tryd.prog 53 #[.slice none 0 0] w fun e w' => e = .returned (.int .i64 0) ∧ w = w' := by
  go_enter Tryd.func53, Tryd.ntmps53
  go_wp2_with fail
  go_loopw [10] (fun x wr => x = .int .i64 0 ∧ wr = w) (fun _ _ => 0)
  case atStart => exact ⟨rfl, rfl⟩
  case round =>
    obtain ⟨rfl, rfl⟩ := hrel
    go_wp2_with fail
    go_ret
    exact ⟨rfl, rfl⟩
set_option maxHeartbeats 1000000 in
theorem search_nil (g : Array Value) (w : World) : Calls Tryd.prog 56 #[.slice none 0 0, .agg g, .func (.func 57) #[] #[]] w fun e w' => e = .returned (.tuple #[.int .i64 0, .bool false]) ∧ Below w.heap.size w w' := by
  have hb := (Below.refl w.heap.size w).alloc (Nat.le_refl _) (.cells g 51)
  go_enter Tryd.func56, Tryd.ntmps56
  go_wp2_with fail
  generalize w.alloc (.cells g 51) = wa at *
  go_loopw [9, 10] (fun x y wr => x = .int .i64 0 ∧ y = .int .i64 0 ∧ wr = wa) (fun _ _ _ => 0)
  case atStart => exact ⟨rfl, rfl, rfl⟩
  case round =>
    obtain ⟨rfl, rfl, rfl⟩ := hrel
    go_wp2_with fail
    go_quiet (fail)
    go_wp2_with fail
    refine bodyPost_ret (v := .tuple #[.int .i64 0, .bool false]) (by simp [results, Tryd.f56, go_sem]) rfl ⟨rfl, below_drewN hb _⟩
end Book
end Go.Proofs.YtbgjoefpnjgdkaaDoor
/- slices.Insert of one grant into none. -/
namespace Go.Proofs.YtbgjoefpnjgdkaaDoor
open Go.RowKit
set_option linter.unusedVariables false
set_option linter.unusedSimpArgs false
set_option maxRecDepth 100000
namespace Book
theorem info_grant : (Tryd.prog.info? 51).map (fun i => (i.zero, i.size, i.bytes)) = some (some (.agg (#[.int .i64 0, .int .i64 0, .int .i64 0, .int .i64 0] ++ Array.replicate 32 (.int .u8 0))), 36, 64) := by kernel_rfl
set_option maxHeartbeats 1000000 in
theorem insert_one (g : List Value) (hg : g.length = 36) (h1 : ∀ u ∈ g, u.oneCell' = true) (b cap : Nat) (w : World) (hr : w.rangeAt b 0 g) : Calls Tryd.prog 59 #[.slice none 0 0, .int .i64 0, .slice (some ⟨b, 0, none⟩) 1 cap] w fun e w' => ∃ v, e = .returned v ∧ w'.ownsRow w.heap.size 51 36 v 1 g ∧ Below w.heap.size w w' := by
  obtain ⟨i0, hin, hz0, hz1, hz2⟩ := info_parts info_grant
  have HR : Hid (∀ j u, g[j]? = some u → w.cell? ((⟨b, 0, none⟩ : Addr).add j) = some u) := Lib.hid (fun j u hu => by
    have e : (⟨b, 0, none⟩ : Addr).add j = ⟨b, 0 + j, none⟩ := by unfold Addr.add; split <;> simp_all
    rw [e]; exact hr j u hu)
  have HG := Lib.hid hg
  have HO := Lib.hid h1
  clear hr hg h1
  go_enter Tryd.func59, Tryd.ntmps59
  go_wp2_with (at_builtin; go_must (refine wpList_append_own _ rfl _ _ _ rfl w.heap.size 51 i0 (.agg (#[.int .i64 0, .int .i64 0, .int .i64 0, .int .i64 0] ++ Array.replicate 32 (.int .u8 0))) 36 64 Tryd.underlying47 hin hz0 hz1 hz2 (by simp [Value.cells]) (by decide) _ 0 [] rfl (World.ownsRow_nil _ _ _ _) ⟨b, 0, none⟩ 1 cap g rfl (by rw [HG.out]) HR.out HO.out (by unfold maxLen; omega) (by omega) (Nat.le_refl _) ?_; intro v' w3 hown' hgrow hiff; clear hiff))
  have hb : Below w.heap.size w w3 := (Below.refl _ w).grown hgrow (Nat.le_refl _) (fun k hk => by cases hk)
  rw [List.nil_append] at hown'
  go_ret
  exact ⟨_, rfl, hown', hb⟩
end Book
end Go.Proofs.YtbgjoefpnjgdkaaDoor
