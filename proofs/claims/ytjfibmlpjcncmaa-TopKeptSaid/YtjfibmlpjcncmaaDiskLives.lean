/- What the law's own questions of known answers come to: lives of chapter 8. -/
import Derived.Test.YtjfibmlpjcncmaaDiskAny
namespace Go.Proofs.Ytjfibmlpjcncmaa
open Go.RowKit
set_option linter.unusedVariables false
set_option maxRecDepth 4000
namespace Disk

/-- a block of three cells, none of them frozen -/
structure One (n : Nat) (w : World) (a b c : Value) : Prop where
  size : n < w.heap.size
  a0 : w.cell? ⟨n, 0, none⟩ = some a
  a1 : w.cell? ⟨n, 1, none⟩ = some b
  a2 : w.cell? ⟨n, 2, none⟩ = some c
  f0 : w.frozen? ⟨n, 0, none⟩ = false
  f1 : w.frozen? ⟨n, 1, none⟩ = false
  f2 : w.frozen? ⟨n, 2, none⟩ = false

theorem One.made (w : World) (a b c : Value) (t : TypeId) : One w.heap.size (w.alloc (.cells #[a, b, c] t)) a b c :=
  ⟨by simp, World.cell?_alloc_mark w _ t (0, 0) 0, World.cell?_alloc_mark w _ t (0, 0) 1, World.cell?_alloc_mark w _ t (0, 0) 2,
    (World.frozen?_alloc_mark w _ t 0 0 0).trans (by simp), (World.frozen?_alloc_mark w _ t 0 0 1).trans (by simp), (World.frozen?_alloc_mark w _ t 0 0 2).trans (by simp)⟩

theorem One.below {n B : Nat} {w w' : World} {a b c : Value} (h : One n w a b c) (hB : n < B) (hb : Below B w w') : One n w' a b c := by
  have c1 := fun j => hb.cell (p := ⟨n, j, none⟩) hB
  have f1 := fun j => hb.frozen (p := ⟨n, j, none⟩) hB
  exact ⟨Nat.lt_of_lt_of_le h.size hb.size, (c1 0).trans h.a0, (c1 1).trans h.a1, (c1 2).trans h.a2, (f1 0).trans h.f0, (f1 1).trans h.f1, (f1 2).trans h.f2⟩

theorem One.stored {n : Nat} {w : World} {a b c : Value} (h : One n w a b c) (x y z : Value) : One n (((w.setCell ⟨n, 0, none⟩ x).setCell ⟨n, 1, none⟩ y).setCell ⟨n, 2, none⟩ z) x y z := by
  have h0 := h.a0
  have h1 := h.a1
  have h2 := h.a2
  refine ⟨by simpa [World.setCell] using h.size, ?_, ?_, ?_, ?_, ?_, ?_⟩
  · rw [World.cell?_setCell_other _ _ _ _ (by simp), World.cell?_setCell_other _ _ _ _ (by simp), World.cell?_setCell_same' _ _ _ (by rw [h0]; rfl)]
  · rw [World.cell?_setCell_other _ _ _ _ (by simp), World.cell?_setCell_same' _ _ _ (by rw [World.cell?_setCell_other _ _ _ _ (by simp), h1]; rfl)]
  · rw [World.cell?_setCell_same' _ _ _ (by rw [World.cell?_setCell_other _ _ _ _ (by simp), World.cell?_setCell_other _ _ _ _ (by simp), h2]; rfl)]
  · rw [World.frozen?_setCell, World.frozen?_setCell, World.frozen?_setCell]; exact h.f0
  · rw [World.frozen?_setCell, World.frozen?_setCell, World.frozen?_setCell]; exact h.f1
  · rw [World.frozen?_setCell, World.frozen?_setCell, World.frozen?_setCell]; exact h.f2

theorem l1 (w : World) : Calls Try.prog 40 #[.int .i64 6] w fun e w' => e = .returned (.tuple #[.agg #[.string ⟨#[]⟩, .int .i64 0, .int .i64 6], .int .i64 0]) ∧ Below w.heap.size w w' := new_ok 6 (by omega) w
theorem l2 (w : World) : Calls Try.prog 58 #[.agg #[.string ⟨#[]⟩, .int .i64 0, .int .i64 6], .string ⟨#[97, 98]⟩] w fun e w' => e = .returned (.tuple #[.agg #[.string ⟨#[97, 98]⟩, .int .i64 0, .int .i64 6], .int .i64 0]) ∧ Below w.heap.size w w' :=
  write_ok ⟨#[]⟩ 0 6 ⟨#[97, 98]⟩ ((right_iff _ _ _).1 (by decide)) (by decide) w
theorem l3 (w : World) : Calls Try.prog 41 #[.agg #[.string ⟨#[97, 98]⟩, .int .i64 0, .int .i64 6]] w fun e w' => e = .returned (.tuple #[.agg #[.string ⟨#[97, 98]⟩, .int .i64 2, .int .i64 6], .int .i64 0]) ∧ Below w.heap.size w w' :=
  sync_ok ⟨#[97, 98]⟩ 0 6 ((right_iff _ _ _).1 (by decide)) w
theorem l4 (w : World) : Calls Try.prog 58 #[.agg #[.string ⟨#[97, 98]⟩, .int .i64 2, .int .i64 6], .string ⟨#[99, 100, 101]⟩] w fun e w' => e = .returned (.tuple #[.agg #[.string ⟨#[97, 98, 99, 100, 101]⟩, .int .i64 2, .int .i64 6], .int .i64 0]) ∧ Below w.heap.size w w' :=
  write_ok ⟨#[97, 98]⟩ 2 6 ⟨#[99, 100, 101]⟩ ((right_iff _ _ _).1 (by decide)) (by decide) w
theorem l5 (w : World) : Calls Try.prog 58 #[.agg #[.string ⟨#[97, 98, 99, 100, 101]⟩, .int .i64 2, .int .i64 6], .string ⟨#[102, 103]⟩] w fun e w' => e = .returned (.tuple #[.agg #[.string ⟨#[97, 98, 99, 100, 101]⟩, .int .i64 2, .int .i64 6], .int .i64 8]) ∧ Below w.heap.size w w' :=
  write_full ⟨#[97, 98, 99, 100, 101]⟩ 2 6 ⟨#[102, 103]⟩ ((right_iff _ _ _).1 (by decide)) (by decide) w
theorem l6 (w : World) : Calls Try.prog 42 #[.agg #[.string ⟨#[97, 98, 99, 100, 101]⟩, .int .i64 2, .int .i64 6], .int .i64 2, .int .u8 1] w fun e w' => e = .returned (.tuple #[.agg #[.string ⟨#[97, 98, 99, 101]⟩, .int .i64 4, .int .i64 6], .int .i64 0]) ∧ Below w.heap.size w w' :=
  fail_some ⟨#[97, 98, 99, 100, 101]⟩ 2 2 6 2 1 ((right_iff _ _ _).1 (by decide)) (by decide) (by decide) w (fun W => by rw [run_max_int2]; rfl) (fun W => by rw [run_min_int2]; rfl)
theorem l7 (w : World) : Calls Try.prog 65 #[.agg #[.string ⟨#[97, 98, 99, 100, 101]⟩, .int .i64 2, .int .i64 6], .string ⟨#[120, 121, 122]⟩] w fun e w' => e = .returned (.tuple #[.agg #[.string ⟨#[120, 121, 122]⟩, .int .i64 3, .int .i64 6], .int .i64 0]) ∧ Below w.heap.size w w' :=
  swap_ok ⟨#[97, 98, 99, 100, 101]⟩ 2 6 ⟨#[120, 121, 122]⟩ ((right_iff _ _ _).1 (by decide)) (by decide) w
theorem l8 (w : World) : Calls Try.prog 40 #[.int .i64 (-1)] w fun e w' => e = .returned (.tuple #[.agg #[.string ⟨#[]⟩, .int .i64 0, .int .i64 0], .int .i64 1]) ∧ Below w.heap.size w w' :=
  new_bad (-1) (by decide) w
theorem l9 (w : World) : Calls Try.prog 62 #[.agg #[.string ⟨#[]⟩, .int .i64 1, .int .i64 0]] w fun e w' => e = .returned (.int .i64 2) ∧ Below w.heap.size w w' :=
  check_bad ⟨#[]⟩ 1 0 (fun h => by have := (right_iff _ _ _).2 h; revert this; decide) w

end Disk
end Go.Proofs.Ytjfibmlpjcncmaa
