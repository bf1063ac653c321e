/- What the law's own questions of known answers come to: lives of chapter 8. -/
import Derived.Test.YtobdllfddmeicaaDiskAny
namespace Go.Proofs.Ytobdllfddmeicaa
open Go.RowKit
set_option linter.unusedVariables false
namespace Disk

/-- a block of three cells, none of them frozen -/
structure One (n : Nat) (w : World) (a b c : Value) : Prop where
  size : n < w.heap.size
  a0 : w.cell? ⟨n, 0, none⟩ = some a
  a1 : w.cell? ⟨n, 1, none⟩ = some b
  a2 : w.cell? ⟨n, 2, none⟩ = some c
  f0 : w.frozen? ⟨n, 0, none⟩ = false
  f1 : w.frozen? ⟨n, 1, none⟩ = false
  f2 : w.frozen? ⟨n, 2, none⟩ = false

theorem One.made (w : World) (a b c : Value) (t : TypeId) : One w.heap.size (w.alloc (.cells #[a, b, c] t)) a b c :=
  ⟨by simp, World.cell?_alloc_mark w _ t (0, 0) 0, World.cell?_alloc_mark w _ t (0, 0) 1, World.cell?_alloc_mark w _ t (0, 0) 2,
    (World.frozen?_alloc_mark w _ t 0 0 0).trans (by simp), (World.frozen?_alloc_mark w _ t 0 0 1).trans (by simp), (World.frozen?_alloc_mark w _ t 0 0 2).trans (by simp)⟩

theorem One.below {n B : Nat} {w w' : World} {a b c : Value} (h : One n w a b c) (hB : n < B) (hb : Below B w w') : One n w' a b c := by
  have c1 := fun j => hb.cell (p := ⟨n, j, none⟩) hB
  have f1 := fun j => hb.frozen (p := ⟨n, j, none⟩) hB
  exact ⟨Nat.lt_of_lt_of_le h.size hb.size, (c1 0).trans h.a0, (c1 1).trans h.a1, (c1 2).trans h.a2, (f1 0).trans h.f0, (f1 1).trans h.f1, (f1 2).trans h.f2⟩

theorem One.stored {n : Nat} {w : World} {a b c : Value} (h : One n w a b c) (x y z : Value) : One n (((w.setCell ⟨n, 0, none⟩ x).setCell ⟨n, 1, none⟩ y).setCell ⟨n, 2, none⟩ z) x y z := by
  have h0 := h.a0
  have h1 := h.a1
  have h2 := h.a2
  refine ⟨by simpa [World.setCell] using h.size, ?_, ?_, ?_, ?_, ?_, ?_⟩
  · rw [World.cell?_setCell_other _ _ _ _ (by simp), World.cell?_setCell_other _ _ _ _ (by simp), World.cell?_setCell_same' _ _ _ (by rw [h0]; rfl)]
  · rw [World.cell?_setCell_other _ _ _ _ (by simp), World.cell?_setCell_same' _ _ _ (by rw [World.cell?_setCell_other _ _ _ _ (by simp), h1]; rfl)]
  · rw [World.cell?_setCell_same' _ _ _ (by rw [World.cell?_setCell_other _ _ _ _ (by simp), World.cell?_setCell_other _ _ _ _ (by simp), h2]; rfl)]
  · rw [World.frozen?_setCell, World.frozen?_setCell, World.frozen?_setCell]; exact h.f0
  · rw [World.frozen?_setCell, World.frozen?_setCell, World.frozen?_setCell]; exact h.f1
  · rw [World.frozen?_setCell, World.frozen?_setCell, World.frozen?_setCell]; exact h.f2

theorem l1 (w : World) : Calls Try.prog 25 #[.int .i64 6] w fun e w' => e = .returned (.tuple #[.agg #[.string ⟨#[]⟩, .int .i64 0, .int .i64 6], .int .i64 0]) ∧ Below w.heap.size w w' := new_ok 6 (by omega) w
theorem l2 (w : World) : Calls Try.prog 19 #[.agg #[.string ⟨#[]⟩, .int .i64 0, .int .i64 6], .string ⟨#[97, 98]⟩] w fun e w' => e = .returned (.tuple #[.agg #[.string ⟨#[97, 98]⟩, .int .i64 0, .int .i64 6], .int .i64 0]) ∧ Below w.heap.size w w' :=
  write_ok ⟨#[]⟩ 0 6 ⟨#[97, 98]⟩ ((right_iff _ _ _).1 (by decide)) (by decide) w
theorem l3 (w : World) : Calls Try.prog 21 #[.agg #[.string ⟨#[97, 98]⟩, .int .i64 0, .int .i64 6]] w fun e w' => e = .returned (.tuple #[.agg #[.string ⟨#[97, 98]⟩, .int .i64 2, .int .i64 6], .int .i64 0]) ∧ Below w.heap.size w w' :=
  sync_ok ⟨#[97, 98]⟩ 0 6 ((right_iff _ _ _).1 (by decide)) w
theorem l4 (w : World) : Calls Try.prog 19 #[.agg #[.string ⟨#[97, 98]⟩, .int .i64 2, .int .i64 6], .string ⟨#[99, 100, 101]⟩] w fun e w' => e = .returned (.tuple #[.agg #[.string ⟨#[97, 98, 99, 100, 101]⟩, .int .i64 2, .int .i64 6], .int .i64 0]) ∧ Below w.heap.size w w' :=
  write_ok ⟨#[97, 98]⟩ 2 6 ⟨#[99, 100, 101]⟩ ((right_iff _ _ _).1 (by decide)) (by decide) w
theorem l5 (w : World) : Calls Try.prog 19 #[.agg #[.string ⟨#[97, 98, 99, 100, 101]⟩, .int .i64 2, .int .i64 6], .string ⟨#[102, 103]⟩] w fun e w' => e = .returned (.tuple #[.agg #[.string ⟨#[97, 98, 99, 100, 101]⟩, .int .i64 2, .int .i64 6], .int .i64 8]) ∧ Below w.heap.size w w' :=
  write_full ⟨#[97, 98, 99, 100, 101]⟩ 2 6 ⟨#[102, 103]⟩ ((right_iff _ _ _).1 (by decide)) (by decide) w
theorem l6 (w : World) : Calls Try.prog 30 #[.agg #[.string ⟨#[97, 98, 99, 100, 101]⟩, .int .i64 2, .int .i64 6], .int .i64 2, .int .u8 1] w fun e w' => e = .returned (.tuple #[.agg #[.string ⟨#[97, 98, 99, 101]⟩, .int .i64 4, .int .i64 6], .int .i64 0]) ∧ Below w.heap.size w w' :=
  fail_some ⟨#[97, 98, 99, 100, 101]⟩ 2 2 6 2 1 ((right_iff _ _ _).1 (by decide)) (by decide) (by decide) w (fun W => by rw [run_max_int2]; rfl) (fun W => by rw [run_min_int2]; rfl)
theorem l7 (w : World) : Calls Try.prog 23 #[.agg #[.string ⟨#[97, 98, 99, 100, 101]⟩, .int .i64 2, .int .i64 6], .string ⟨#[120, 121, 122]⟩] w fun e w' => e = .returned (.tuple #[.agg #[.string ⟨#[120, 121, 122]⟩, .int .i64 3, .int .i64 6], .int .i64 0]) ∧ Below w.heap.size w w' :=
  swap_ok ⟨#[97, 98, 99, 100, 101]⟩ 2 6 ⟨#[120, 121, 122]⟩ ((right_iff _ _ _).1 (by decide)) (by decide) w
theorem l8 (w : World) : Calls Try.prog 25 #[.int .i64 (-1)] w fun e w' => e = .returned (.tuple #[.agg #[.string ⟨#[]⟩, .int .i64 0, .int .i64 0], .int .i64 1]) ∧ Below w.heap.size w w' :=
  new_bad (-1) (by decide) w
theorem l9 (w : World) : Calls Try.prog 28 #[.agg #[.string ⟨#[]⟩, .int .i64 1, .int .i64 0]] w fun e w' => e = .returned (.int .i64 2) ∧ Below w.heap.size w w' :=
  check_bad ⟨#[]⟩ 1 0 (fun h => by have := (right_iff _ _ _).2 h; revert this; decide) w

set_option maxHeartbeats 2000000 in
theorem lives_any (w : World) : Calls Try.prog 27 #[] w fun e w' => e = .returned (.bool true) ∧ Below w.heap.size w w' := by
  go_enter Try.func27, Try.ntmps27
  go_wp2_with fail
  refine (l1 _).mono ?_
  rintro e w1 ⟨rfl, hb1⟩
  go_wp2_with fail
  refine (l2 _).mono ?_
  rintro e w2 ⟨rfl, hb⟩
  obtain ⟨n, hn⟩ : ∃ n, n = w1.heap.size := ⟨_, rfl⟩
  have hwn : w.heap.size ≤ n := by have := hb1.size; omega
  have T := (One.made w1 _ _ _ _).below (by simp) hb
  have B : Below w.heap.size w w2 := (hb1.alloc hb1.size _).trans (hb.mono (by simp; omega))
  rw [← hn] at T ⊢
  clear hb hb1 hn
  have T' := Lib.hid (T.stored (.string ⟨#[97, 98]⟩) (.int .i64 0) (.int .i64 6))
  obtain ⟨z, a0, a1, a2, f0, f1, f2⟩ := T
  go_wp2_with fail
  refine (l3 _).mono ?_
  rintro e w3 ⟨rfl, hb⟩
  have T := T'.out.below T'.out.size hb
  have B' := B
  replace B : Below w.heap.size w w3 := (((B'.setCell hwn _).setCell hwn _).setCell hwn _).trans (hb.mono (by have := B'.size; simpa [World.setCell] using this))
  clear z a0 a1 a2 f0 f1 f2 hb T' B'
  have T' := Lib.hid (T.stored (.string ⟨#[97, 98]⟩) (.int .i64 2) (.int .i64 6))
  obtain ⟨z, a0, a1, a2, f0, f1, f2⟩ := T
  go_wp2_with fail
  refine (l4 _).mono ?_
  rintro e w4 ⟨rfl, hb⟩
  have T := T'.out.below T'.out.size hb
  have B' := B
  replace B : Below w.heap.size w w4 := (((B'.setCell hwn _).setCell hwn _).setCell hwn _).trans (hb.mono (by have := B'.size; simpa [World.setCell] using this))
  clear z a0 a1 a2 f0 f1 f2 hb T' B'
  have T' := Lib.hid (T.stored (.string ⟨#[97, 98, 99, 100, 101]⟩) (.int .i64 2) (.int .i64 6))
  obtain ⟨z, a0, a1, a2, f0, f1, f2⟩ := T
  go_wp2_with fail
  refine (l5 _).mono ?_
  rintro e w5 ⟨rfl, hb⟩
  have T := T'.out.below T'.out.size hb
  have B' := B
  replace B : Below w.heap.size w w5 := (((B'.setCell hwn _).setCell hwn _).setCell hwn _).trans (hb.mono (by have := B'.size; simpa [World.setCell] using this))
  clear z a0 a1 a2 f0 f1 f2 hb T' B'
  obtain ⟨z, a0, a1, a2, f0, f1, f2⟩ := T
  go_wp2_with fail
  refine (l6 _).mono ?_
  rintro e w6 ⟨rfl, hb⟩
  have hb' : Below w5.heap.size w5 w6 := ((Below.refl _ _).alloc (Nat.le_refl _) _).trans (hb.mono (by simp))
  have T := (One.mk z a0 a1 a2 f0 f1 f2).below z hb'
  have T5 := (One.made w5 _ _ _ _).below (by simp) hb
  have B' := B
  replace B : Below w.heap.size w w6 := B'.trans (hb'.mono B'.size)
  obtain ⟨n5, hn⟩ : ∃ x, x = w5.heap.size := ⟨_, rfl⟩
  have o5 : n < n5 := by rw [hn]; exact z
  rw [← hn] at T5 ⊢
  clear z a0 a1 a2 f0 f1 f2 hb hb' B' hn
  have q5 := T5.size
  obtain ⟨z, a0, a1, a2, f0, f1, f2⟩ := T
  go_wp2_with fail
  refine (l7 _).mono ?_
  rintro e w7 ⟨rfl, hb⟩
  have hb' : Below w6.heap.size w6 w7 := ((Below.refl _ _).alloc (Nat.le_refl _) _).trans (hb.mono (by simp))
  have T := (One.mk z a0 a1 a2 f0 f1 f2).below z hb'
  replace T5 := T5.below T5.size hb'
  have T6 := (One.made w6 _ _ _ _).below (by simp) hb
  have B' := B
  replace B : Below w.heap.size w w7 := B'.trans (hb'.mono B'.size)
  obtain ⟨n6, hn⟩ : ∃ x, x = w6.heap.size := ⟨_, rfl⟩
  have o6 : n < n6 := by rw [hn]; exact z
  have o5_6 : n5 < n6 := by rw [hn]; exact q5
  rw [← hn] at T6 ⊢
  clear z a0 a1 a2 f0 f1 f2 hb hb' B' hn q5
  have q5 := T5.size
  have q6 := T6.size
  obtain ⟨z, a0, a1, a2, f0, f1, f2⟩ := T
  go_wp2_with fail
  refine (l8 _).mono ?_
  rintro e w8 ⟨rfl, hb⟩
  have hb' : Below w7.heap.size w7 w8 := ((Below.refl _ _).alloc (Nat.le_refl _) _).trans (hb.mono (by simp))
  have T := (One.mk z a0 a1 a2 f0 f1 f2).below z hb'
  replace T5 := T5.below T5.size hb'
  replace T6 := T6.below T6.size hb'
  have T7 := (One.made w7 _ _ _ _).below (by simp) hb
  have B' := B
  replace B : Below w.heap.size w w8 := B'.trans (hb'.mono B'.size)
  obtain ⟨n7, hn⟩ : ∃ x, x = w7.heap.size := ⟨_, rfl⟩
  have o7 : n < n7 := by rw [hn]; exact z
  have o5_7 : n5 < n7 := by rw [hn]; exact q5
  have o6_7 : n6 < n7 := by rw [hn]; exact q6
  rw [← hn] at T7 ⊢
  clear z a0 a1 a2 f0 f1 f2 hb hb' B' hn q5 q6
  have q5 := T5.size
  have q6 := T6.size
  have q7 := T7.size
  obtain ⟨z, a0, a1, a2, f0, f1, f2⟩ := T
  obtain ⟨x5, b0, b1, b2, g0, g1, g2⟩ := T5
  obtain ⟨x6, c0, c1, c2, h0, h1, h2⟩ := T6
  obtain ⟨x7, d0, d1, d2, i0, i1, i2⟩ := T7
  go_wp2_with fail
  refine (l9 _).mono ?_
  rintro e w9 ⟨rfl, hb⟩
  go_wp2_with fail
  go_ret
  exact ⟨rfl, (B.alloc B.size _).trans (hb.mono (by have := B.size; simp; omega))⟩
end Disk
end Go.Proofs.Ytobdllfddmeicaa
