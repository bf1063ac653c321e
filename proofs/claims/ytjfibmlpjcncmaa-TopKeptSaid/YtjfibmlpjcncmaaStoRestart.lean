/- The walks of store.Restart and of the document's. -/
import Derived.Test.YtjfibmlpjcncmaaStoRefLoad
import Derived.Deep.RegionHeld3
import Derived.Deep.DrawnRows
namespace Go.Proofs.Ytjfibmlpjcncmaa
open Go.RowKit
set_option linter.unusedVariables false
set_option linter.unusedSimpArgs false
set_option maxRecDepth 4000
attribute [local go_sem ↓] Go.wp_at_zero Go.wp_at_succ
namespace Sto
open Oct Crc Disk Jrn

/-- what a restart gives: the disk and why, the entries, the count -/
def restR (D : ByteArray) (S R : Int) : Res × List (List UInt8) × Nat :=
  if (mendR D S R).e ≠ 0 then (Disk.zero (mendR D S R).e, [], 0)
  else if (loadR (mendR D S R).d.data.toList).2.2 ≠ 0 then (Disk.zero (loadR (mendR D S R).d.data.toList).2.2, [], 0)
  else (mendR D S R, (loadR (mendR D S R).d.data.toList).1, (loadR (mendR D S R).d.data.toList).2.1)

theorem Pair.below' {n : Nat} {w w' : World} {a b : Value} (h : Pair n w a b) (hb : Below w.heap.size w w') : Pair n w' a b := h.below h.size hb
theorem _root_.Go.Proofs.Ytjfibmlpjcncmaa.Disk.One.below' {n : Nat} {w w' : World} {a b c : Value} (h : One n w a b c) (hb : Below w.heap.size w w') : One n w' a b c := h.below h.size hb
theorem low_alloc (w : World) (o : Obj) : Below w.heap.size w (w.alloc o) := (Below.refl _ _).alloc (Nat.le_refl _) _

theorem mend_d (D : ByteArray) (S R : Int) (hD : (D.size : Int) ≤ 2097152) : (((mendR D S R).d.data.toList).length : Int) ≤ 2097152 := by
  unfold mendR
  split
  · rw [List.length_take]
    have h1 : D.data.toList.length = D.size := by rw [Array.length_toList]; rfl
    have h2 := Nat.min_le_right (readR D.data.toList).2 D.data.toList.length
    omega
  · show ((([] : List UInt8).length : Nat) : Int) ≤ 2097152
    decide

set_option maxHeartbeats 4000000 in
theorem restart_any (D : ByteArray) (S R : Int) (hD : (D.size : Int) ≤ 2097152) (w : World) :
    Calls Try.prog 52 #[.agg #[.string D, .int .i64 S, .int .i64 R]] w fun e w' => ∃ v, e = .returned (.tuple #[.agg #[.string (restR D S R).1.d, .int .i64 (restR D S R).1.s, .int .i64 (restR D S R).1.r], .agg #[v, .int .i64 ((restR D S R).2.2 : Int)], .int .i64 (restR D S R).1.e]) ∧ OwnS w.heap.size w' v (restR D S R).2.1 ∧ Below w.heap.size w w' := by
  have c1 := fun w => mend_any D S R hD w
  have hl := mend_d D S R hD
  unfold restR
  generalize mendR D S R = m at *
  obtain ⟨md, ms, mr, me⟩ := m
  dsimp only at c1 hl ⊢
  obtain ⟨l, rfl, -⟩ := Jrn.bytes_of md
  have c2 := fun w => load_any l hl w
  dsimp only
  generalize loadR l = q at *
  obtain ⟨es, c, er⟩ := q
  dsimp only at c2 ⊢
  by_cases he : me = 0
  · subst he
    rw [if_neg (by simp)]
    by_cases hr : er = 0
    · subst hr
      rw [if_neg (by simp)]
      have HD := Lib.hid hD
      clear hD hl
      go_enter Try.func52, Try.ntmps52
      go_wp2_with fail
      refine (c1 _).mono ?_
      rintro e w1 ⟨rfl, hb⟩
      have R0 := ((One.made (w.alloc (.cells #[.string D, .int .i64 S, .int .i64 R] 47)) (.string ⟨#[]⟩) (.int .i64 0) (.int .i64 0) 47).below' (low_alloc _ (.cells #[.slice none 0 0, .int .i64 0] 61))).below' hb
      have R1 := (Pair.made ((w.alloc (.cells #[.string D, .int .i64 S, .int .i64 R] 47)).alloc (.cells #[.string ⟨#[]⟩, .int .i64 0, .int .i64 0] 47)) (.slice none 0 0) (.int .i64 0) 61).below' hb
      have B : Below w.heap.size w w1 := ((((Below.refl _ _).alloc (Nat.le_refl _) _).alloc (by simp) _).alloc (by simp <;> omega) _).trans (hb.mono (by simp <;> omega))
      rw [World.size_alloc] at R0
      rw [World.size_alloc, World.size_alloc] at R1
      have R0' := Lib.hid R0
      have R1' := Lib.hid R1
      have R1z := R1.size
      clear hb
      obtain ⟨z0, x0, x1, x2, y0, y1, y2⟩ := R0
      obtain ⟨z1, u0, u1, v0, v1⟩ := R1
      have R0 := R0'.out
      have R1 := R1'.out
      clear z1
      go_wp2_with fail
      refine (c2 _).mono ?_
      rintro e w2 ⟨v, rfl, o, hb⟩
      have hA := low_alloc w1 (.cells #[.string ⟨l.toArray⟩, .int .i64 ms, .int .i64 mr] 47)
      have R0 := (R0.below' hA).below' hb
      have R1 := (R1.below' hA).below' hb
      have E := (One.made w1 (.string ⟨l.toArray⟩) (.int .i64 ms) (.int .i64 mr) 47).below' hb
      replace B := (B.alloc B.size _).trans (hb.mono (by have := B.size; simp; omega))
      obtain ⟨n1, hn⟩ : ∃ x, x = w1.heap.size := ⟨_, rfl⟩
      have hn1 : w.heap.size + 2 < n1 := by rw [hn]; exact R1z
      unfold OwnS at o
      rw [World.size_alloc] at o
      rw [← hn] at E o ⊢
      clear R0' R1' R1z hb hA hn c1 c2 x0 x1 x2 y0 y1 y2 u0 u1 v0 v1 z0
      have R0' := Lib.hid R0
      have R1' := Lib.hid R1
      have E' := Lib.hid E
      have O' := Lib.hid o
      have B' := Lib.hid B
      obtain ⟨z0, x0, x1, x2, y0, y1, y2⟩ := R0
      obtain ⟨z1, u0, u1, v0, v1⟩ := R1
      obtain ⟨z2, p0, p1, p2, q0, q1, q2⟩ := E
      obtain ⟨pv, cv, rfl⟩ := own_of o
      have hB2 : w.heap.size ≤ w2.heap.size := B'.out.size
      clear o B
      go_wp2_with fail
      have hmo : Try.prog.follows .mixedOrders = true := by kernel_rfl
      have hne1 : ¬ n1 = w.heap.size + 1 := by omega
      have hne2 : ¬ n1 = w.heap.size + 1 + 1 := by omega
      go_region
      go_wp2
      refine bodyPost_ret (v := .tuple #[.agg #[.string ⟨l.toArray⟩, .int .i64 ms, .int .i64 mr], .agg #[.slice pv es.length cv, .int .i64 (c : Int)], .int .i64 0]) (by simp [results, Try.results52, go_sem, *]) rfl ⟨_, rfl, ?_, ?_⟩
      · unfold OwnS
        refine ownsRow_mono (show w.heap.size ≤ n1 + 1 by omega) (World.ownsRow.drew (World.ownsRow.alloc ?_ _))
        exact ((((O'.out.kept (grownBy_at _ _ _ _) (.inr (low_ne_row O'.out (by omega)).symm)).kept (grownBy_at _ _ _ _) (.inr (low_ne_row O'.out (by omega)).symm)).kept (grownBy_at _ _ _ _) (.inr (low_ne_row O'.out (by omega)).symm)).kept (grownBy_at _ _ _ _) (.inr (low_ne_row O'.out (by omega)).symm)).kept (grownBy_at _ _ _ _) (.inr (low_ne_row O'.out (by omega)).symm)
      · repeat' (first | (with_reducible exact B'.out) | (with_reducible refine Below.setCell ?_ ?_ _) | (with_reducible refine Below.alloc ?_ ?_ _) | (with_reducible refine Below.drew ?_) | (simp; done) | (simp; omega) | omega)
    · rw [if_pos (by simpa using hr)]
      simp only [Disk.zero]
      have hri : ¬ (er : Int) = 0 := by omega
      clear hr
      have HD := Lib.hid hD
      clear hD hl
      go_enter Try.func52, Try.ntmps52
      go_wp2_with fail
      refine (c1 _).mono ?_
      rintro e w1 ⟨rfl, hb⟩
      have R0 := ((One.made (w.alloc (.cells #[.string D, .int .i64 S, .int .i64 R] 47)) (.string ⟨#[]⟩) (.int .i64 0) (.int .i64 0) 47).below' (low_alloc _ (.cells #[.slice none 0 0, .int .i64 0] 61))).below' hb
      have R1 := (Pair.made ((w.alloc (.cells #[.string D, .int .i64 S, .int .i64 R] 47)).alloc (.cells #[.string ⟨#[]⟩, .int .i64 0, .int .i64 0] 47)) (.slice none 0 0) (.int .i64 0) 61).below' hb
      have B : Below w.heap.size w w1 := ((((Below.refl _ _).alloc (Nat.le_refl _) _).alloc (by simp) _).alloc (by simp <;> omega) _).trans (hb.mono (by simp <;> omega))
      rw [World.size_alloc] at R0
      rw [World.size_alloc, World.size_alloc] at R1
      have R0' := Lib.hid R0
      have R1' := Lib.hid R1
      have R1z := R1.size
      clear hb
      obtain ⟨z0, x0, x1, x2, y0, y1, y2⟩ := R0
      obtain ⟨z1, u0, u1, v0, v1⟩ := R1
      have R0 := R0'.out
      have R1 := R1'.out
      clear z1
      go_wp2_with fail
      refine (c2 _).mono ?_
      rintro e w2 ⟨v, rfl, o, hb⟩
      have hA := low_alloc w1 (.cells #[.string ⟨l.toArray⟩, .int .i64 ms, .int .i64 mr] 47)
      have R0 := (R0.below' hA).below' hb
      have R1 := (R1.below' hA).below' hb
      have E := (One.made w1 (.string ⟨l.toArray⟩) (.int .i64 ms) (.int .i64 mr) 47).below' hb
      replace B := (B.alloc B.size _).trans (hb.mono (by have := B.size; simp; omega))
      obtain ⟨n1, hn⟩ : ∃ x, x = w1.heap.size := ⟨_, rfl⟩
      have hn1 : w.heap.size + 2 < n1 := by rw [hn]; exact R1z
      unfold OwnS at o
      rw [World.size_alloc] at o
      rw [← hn] at E o ⊢
      clear R0' R1' R1z hb hA hn c1 c2 x0 x1 x2 y0 y1 y2 u0 u1 v0 v1 z0
      obtain ⟨z0, x0, x1, x2, y0, y1, y2⟩ := R0
      obtain ⟨z1, u0, u1, v0, v1⟩ := R1
      have hB2 : w.heap.size ≤ w2.heap.size := B.size
      obtain ⟨pv, cv, rfl⟩ := own_of o
      clear E o
      go_wp2_with fail
      refine bodyPost_ret (v := .tuple #[.agg #[.string ⟨#[]⟩, .int .i64 0, .int .i64 0], .agg #[.slice none 0 0, .int .i64 0], .int .i64 (er : Int)]) (by simp [results, Try.results52, go_sem, *]) rfl ⟨_, rfl, OwnS.nil _ _, ?_⟩
      repeat' (first | (with_reducible exact B) | (with_reducible refine Below.setCell ?_ ?_ _) | (with_reducible refine Below.alloc ?_ ?_ _) | (with_reducible refine Below.drew ?_) | (simp; done) | (simp; omega) | omega)
  · rw [if_pos he]
    simp only [Disk.zero]
    clear c2 hl hD
    go_enter Try.func52, Try.ntmps52
    go_wp2_with fail
    refine (c1 _).mono ?_
    rintro e w1 ⟨rfl, hb⟩
    have R0 := ((One.made (w.alloc (.cells #[.string D, .int .i64 S, .int .i64 R] 47)) (.string ⟨#[]⟩) (.int .i64 0) (.int .i64 0) 47).below' (low_alloc _ (.cells #[.slice none 0 0, .int .i64 0] 61))).below' hb
    have R1 := (Pair.made ((w.alloc (.cells #[.string D, .int .i64 S, .int .i64 R] 47)).alloc (.cells #[.string ⟨#[]⟩, .int .i64 0, .int .i64 0] 47)) (.slice none 0 0) (.int .i64 0) 61).below' hb
    have B : Below w.heap.size w w1 := ((((Below.refl _ _).alloc (Nat.le_refl _) _).alloc (by simp) _).alloc (by simp <;> omega) _).trans (hb.mono (by simp <;> omega))
    rw [World.size_alloc] at R0
    rw [World.size_alloc, World.size_alloc] at R1
    have R0' := Lib.hid R0
    have R1' := Lib.hid R1
    have R1z := R1.size
    clear hb
    obtain ⟨z0, x0, x1, x2, y0, y1, y2⟩ := R0
    obtain ⟨z1, u0, u1, v0, v1⟩ := R1
    have R0 := R0'.out
    have R1 := R1'.out
    clear z1
    clear R0' R1'
    have hB2 : w.heap.size ≤ w1.heap.size := B.size
    go_wp2_with fail
    refine bodyPost_ret (v := .tuple #[.agg #[.string ⟨#[]⟩, .int .i64 0, .int .i64 0], .agg #[.slice none 0 0, .int .i64 0], .int .i64 me]) (by simp [results, Try.results52, go_sem, *]) rfl ⟨_, rfl, OwnS.nil _ _, ?_⟩
    repeat' (first | (with_reducible exact B) | (with_reducible refine Below.setCell ?_ ?_ _) | (with_reducible refine Below.alloc ?_ ?_ _) | (with_reducible refine Below.drew ?_) | (simp; done) | (simp; omega) | omega)

set_option maxHeartbeats 4000000 in
theorem refRestart_any (D : ByteArray) (S R : Int) (hD : (D.size : Int) ≤ 2097152) (w : World) :
    Calls Try.prog 53 #[.agg #[.string D, .int .i64 S, .int .i64 R]] w fun e w' => ∃ v, e = .returned (.tuple #[.agg #[.string (restR D S R).1.d, .int .i64 (restR D S R).1.s, .int .i64 (restR D S R).1.r], .agg #[v, .int .i64 ((restR D S R).2.2 : Int)], .int .i64 (restR D S R).1.e]) ∧ OwnS w.heap.size w' v (restR D S R).2.1 ∧ Below w.heap.size w w' := by
  have c1 := fun w => refMend_any D S R hD w
  have hl := mend_d D S R hD
  unfold restR
  generalize mendR D S R = m at *
  obtain ⟨md, ms, mr, me⟩ := m
  dsimp only at c1 hl ⊢
  obtain ⟨l, rfl, -⟩ := Jrn.bytes_of md
  have c2 := fun w => refLoad_any l hl w
  dsimp only
  generalize loadR l = q at *
  obtain ⟨es, c, er⟩ := q
  dsimp only at c2 ⊢
  by_cases he : me = 0
  · subst he
    rw [if_neg (by simp)]
    by_cases hr : er = 0
    · subst hr
      rw [if_neg (by simp)]
      have HD := Lib.hid hD
      clear hD hl
      go_enter Try.func53, Try.ntmps53
      go_wp2_with fail
      refine (c1 _).mono ?_
      rintro e w1 ⟨rfl, hb⟩
      have R0 := ((One.made (w.alloc (.cells #[.string D, .int .i64 S, .int .i64 R] 47)) (.string ⟨#[]⟩) (.int .i64 0) (.int .i64 0) 47).below' (low_alloc _ (.cells #[.slice none 0 0, .int .i64 0] 61))).below' hb
      have R1 := (Pair.made ((w.alloc (.cells #[.string D, .int .i64 S, .int .i64 R] 47)).alloc (.cells #[.string ⟨#[]⟩, .int .i64 0, .int .i64 0] 47)) (.slice none 0 0) (.int .i64 0) 61).below' hb
      have B : Below w.heap.size w w1 := ((((Below.refl _ _).alloc (Nat.le_refl _) _).alloc (by simp) _).alloc (by simp <;> omega) _).trans (hb.mono (by simp <;> omega))
      rw [World.size_alloc] at R0
      rw [World.size_alloc, World.size_alloc] at R1
      have R0' := Lib.hid R0
      have R1' := Lib.hid R1
      have R1z := R1.size
      clear hb
      obtain ⟨z0, x0, x1, x2, y0, y1, y2⟩ := R0
      obtain ⟨z1, u0, u1, v0, v1⟩ := R1
      have R0 := R0'.out
      have R1 := R1'.out
      clear z1
      go_wp2_with fail
      refine (c2 _).mono ?_
      rintro e w2 ⟨v, rfl, o, hb⟩
      have hA := low_alloc w1 (.cells #[.string ⟨l.toArray⟩, .int .i64 ms, .int .i64 mr] 47)
      have R0 := (R0.below' hA).below' hb
      have R1 := (R1.below' hA).below' hb
      have E := (One.made w1 (.string ⟨l.toArray⟩) (.int .i64 ms) (.int .i64 mr) 47).below' hb
      replace B := (B.alloc B.size _).trans (hb.mono (by have := B.size; simp; omega))
      obtain ⟨n1, hn⟩ : ∃ x, x = w1.heap.size := ⟨_, rfl⟩
      have hn1 : w.heap.size + 2 < n1 := by rw [hn]; exact R1z
      unfold OwnS at o
      rw [World.size_alloc] at o
      rw [← hn] at E o ⊢
      clear R0' R1' R1z hb hA hn c1 c2 x0 x1 x2 y0 y1 y2 u0 u1 v0 v1 z0
      have R0' := Lib.hid R0
      have R1' := Lib.hid R1
      have E' := Lib.hid E
      have O' := Lib.hid o
      have B' := Lib.hid B
      obtain ⟨z0, x0, x1, x2, y0, y1, y2⟩ := R0
      obtain ⟨z1, u0, u1, v0, v1⟩ := R1
      obtain ⟨z2, p0, p1, p2, q0, q1, q2⟩ := E
      obtain ⟨pv, cv, rfl⟩ := own_of o
      have hB2 : w.heap.size ≤ w2.heap.size := B'.out.size
      clear o B
      go_wp2_with fail
      have hmo : Try.prog.follows .mixedOrders = true := by kernel_rfl
      have hne1 : ¬ n1 = w.heap.size + 1 := by omega
      have hne2 : ¬ n1 = w.heap.size + 1 + 1 := by omega
      go_region
      go_wp2
      refine bodyPost_ret (v := .tuple #[.agg #[.string ⟨l.toArray⟩, .int .i64 ms, .int .i64 mr], .agg #[.slice pv es.length cv, .int .i64 (c : Int)], .int .i64 0]) (by simp [results, Try.results53, go_sem, *]) rfl ⟨_, rfl, ?_, ?_⟩
      · unfold OwnS
        refine ownsRow_mono (show w.heap.size ≤ n1 + 1 by omega) (World.ownsRow.drew (World.ownsRow.alloc ?_ _))
        exact ((((O'.out.kept (grownBy_at _ _ _ _) (.inr (low_ne_row O'.out (by omega)).symm)).kept (grownBy_at _ _ _ _) (.inr (low_ne_row O'.out (by omega)).symm)).kept (grownBy_at _ _ _ _) (.inr (low_ne_row O'.out (by omega)).symm)).kept (grownBy_at _ _ _ _) (.inr (low_ne_row O'.out (by omega)).symm)).kept (grownBy_at _ _ _ _) (.inr (low_ne_row O'.out (by omega)).symm)
      · repeat' (first | (with_reducible exact B'.out) | (with_reducible refine Below.setCell ?_ ?_ _) | (with_reducible refine Below.alloc ?_ ?_ _) | (with_reducible refine Below.drew ?_) | (simp; done) | (simp; omega) | omega)
    · rw [if_pos (by simpa using hr)]
      simp only [Disk.zero]
      have hri : ¬ (er : Int) = 0 := by omega
      clear hr
      have HD := Lib.hid hD
      clear hD hl
      go_enter Try.func53, Try.ntmps53
      go_wp2_with fail
      refine (c1 _).mono ?_
      rintro e w1 ⟨rfl, hb⟩
      have R0 := ((One.made (w.alloc (.cells #[.string D, .int .i64 S, .int .i64 R] 47)) (.string ⟨#[]⟩) (.int .i64 0) (.int .i64 0) 47).below' (low_alloc _ (.cells #[.slice none 0 0, .int .i64 0] 61))).below' hb
      have R1 := (Pair.made ((w.alloc (.cells #[.string D, .int .i64 S, .int .i64 R] 47)).alloc (.cells #[.string ⟨#[]⟩, .int .i64 0, .int .i64 0] 47)) (.slice none 0 0) (.int .i64 0) 61).below' hb
      have B : Below w.heap.size w w1 := ((((Below.refl _ _).alloc (Nat.le_refl _) _).alloc (by simp) _).alloc (by simp <;> omega) _).trans (hb.mono (by simp <;> omega))
      rw [World.size_alloc] at R0
      rw [World.size_alloc, World.size_alloc] at R1
      have R0' := Lib.hid R0
      have R1' := Lib.hid R1
      have R1z := R1.size
      clear hb
      obtain ⟨z0, x0, x1, x2, y0, y1, y2⟩ := R0
      obtain ⟨z1, u0, u1, v0, v1⟩ := R1
      have R0 := R0'.out
      have R1 := R1'.out
      clear z1
      go_wp2_with fail
      refine (c2 _).mono ?_
      rintro e w2 ⟨v, rfl, o, hb⟩
      have hA := low_alloc w1 (.cells #[.string ⟨l.toArray⟩, .int .i64 ms, .int .i64 mr] 47)
      have R0 := (R0.below' hA).below' hb
      have R1 := (R1.below' hA).below' hb
      have E := (One.made w1 (.string ⟨l.toArray⟩) (.int .i64 ms) (.int .i64 mr) 47).below' hb
      replace B := (B.alloc B.size _).trans (hb.mono (by have := B.size; simp; omega))
      obtain ⟨n1, hn⟩ : ∃ x, x = w1.heap.size := ⟨_, rfl⟩
      have hn1 : w.heap.size + 2 < n1 := by rw [hn]; exact R1z
      unfold OwnS at o
      rw [World.size_alloc] at o
      rw [← hn] at E o ⊢
      clear R0' R1' R1z hb hA hn c1 c2 x0 x1 x2 y0 y1 y2 u0 u1 v0 v1 z0
      obtain ⟨z0, x0, x1, x2, y0, y1, y2⟩ := R0
      obtain ⟨z1, u0, u1, v0, v1⟩ := R1
      have hB2 : w.heap.size ≤ w2.heap.size := B.size
      obtain ⟨pv, cv, rfl⟩ := own_of o
      clear E o
      go_wp2_with fail
      refine bodyPost_ret (v := .tuple #[.agg #[.string ⟨#[]⟩, .int .i64 0, .int .i64 0], .agg #[.slice none 0 0, .int .i64 0], .int .i64 (er : Int)]) (by simp [results, Try.results53, go_sem, *]) rfl ⟨_, rfl, OwnS.nil _ _, ?_⟩
      repeat' (first | (with_reducible exact B) | (with_reducible refine Below.setCell ?_ ?_ _) | (with_reducible refine Below.alloc ?_ ?_ _) | (with_reducible refine Below.drew ?_) | (simp; done) | (simp; omega) | omega)
  · rw [if_pos he]
    simp only [Disk.zero]
    clear c2 hl hD
    go_enter Try.func53, Try.ntmps53
    go_wp2_with fail
    refine (c1 _).mono ?_
    rintro e w1 ⟨rfl, hb⟩
    have R0 := ((One.made (w.alloc (.cells #[.string D, .int .i64 S, .int .i64 R] 47)) (.string ⟨#[]⟩) (.int .i64 0) (.int .i64 0) 47).below' (low_alloc _ (.cells #[.slice none 0 0, .int .i64 0] 61))).below' hb
    have R1 := (Pair.made ((w.alloc (.cells #[.string D, .int .i64 S, .int .i64 R] 47)).alloc (.cells #[.string ⟨#[]⟩, .int .i64 0, .int .i64 0] 47)) (.slice none 0 0) (.int .i64 0) 61).below' hb
    have B : Below w.heap.size w w1 := ((((Below.refl _ _).alloc (Nat.le_refl _) _).alloc (by simp) _).alloc (by simp <;> omega) _).trans (hb.mono (by simp <;> omega))
    rw [World.size_alloc] at R0
    rw [World.size_alloc, World.size_alloc] at R1
    have R0' := Lib.hid R0
    have R1' := Lib.hid R1
    have R1z := R1.size
    clear hb
    obtain ⟨z0, x0, x1, x2, y0, y1, y2⟩ := R0
    obtain ⟨z1, u0, u1, v0, v1⟩ := R1
    have R0 := R0'.out
    have R1 := R1'.out
    clear z1
    clear R0' R1'
    have hB2 : w.heap.size ≤ w1.heap.size := B.size
    go_wp2_with fail
    refine bodyPost_ret (v := .tuple #[.agg #[.string ⟨#[]⟩, .int .i64 0, .int .i64 0], .agg #[.slice none 0 0, .int .i64 0], .int .i64 me]) (by simp [results, Try.results53, go_sem, *]) rfl ⟨_, rfl, OwnS.nil _ _, ?_⟩
    repeat' (first | (with_reducible exact B) | (with_reducible refine Below.setCell ?_ ?_ _) | (with_reducible refine Below.alloc ?_ ?_ _) | (with_reducible refine Below.drew ?_) | (simp; done) | (simp; omega) | omega)
end Sto
end Go.Proofs.Ytjfibmlpjcncmaa
