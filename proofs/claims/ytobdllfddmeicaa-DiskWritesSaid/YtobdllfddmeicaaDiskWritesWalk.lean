/- The walk of the law DiskWrites, by the contracts of what it calls. -/
import Derived.Test.YtobdllfddmeicaaDiskFailsWalk
import Derived.BigQuiet
import Derived.Lib.QuietBelow
namespace Go.Proofs.Ytobdllfddmeicaa
open Go.RowKit
set_option linter.unusedVariables false
namespace Disk

set_option maxHeartbeats 8000000 in
theorem writes_walk (D : ByteArray) (S R : Int) (t : ByteArray) (room : Int) (w : World) :
    Calls Try.prog 7 #[.agg #[.string D, .int .i64 S, .int .i64 R], .string t, .int .i64 room] w fun e w' => e = .returned (.bool true) ∧ Below w.heap.size w w' := by
  go_enter Try.func7, Try.ntmps7
  go_wp2_with fail
  refine (write_any D S R t _).mono ?_
  rintro e w1 ⟨rfl, hb⟩
  have B : Below w.heap.size w w1 := ((Below.refl _ _).alloc (Nat.le_refl _) _).trans (hb.mono (by simp))
  have T0 := (One.made w _ _ _ _).below (by simp) hb
  obtain ⟨n0, hn0⟩ : ∃ x, x = w.heap.size := ⟨_, rfl⟩
  rw [← hn0] at T0 ⊢
  have HN0 := Lib.hid hn0
  clear hb hn0
  obtain ⟨kz, ka, kb, kc, kf, kg, kh⟩ := T0
  go_wp2_with fail
  refine (rwrite_any D S R t _).mono ?_
  rintro e w2 ⟨rfl, hb⟩
  generalize writeR D S R t = r1 at *
  have hb' : Below w1.heap.size w1 w2 := ((Below.refl _ _).alloc (Nat.le_refl _) _).trans (hb.mono (by simp))
  have T0 := (One.mk kz ka kb kc kf kg kh).below kz hb'
  have T1 := (One.made w1 _ _ _ _).below (by simp) hb
  have B' := B
  replace B : Below w.heap.size w w2 := B'.trans (hb'.mono B'.size)
  obtain ⟨n1, hn⟩ : ∃ x, x = w1.heap.size := ⟨_, rfl⟩
  have o0_1 : n0 < n1 := by rw [hn]; exact kz
  rw [← hn] at T1 ⊢
  clear kz ka kb kc kf kg kh hb hb' B' hn
  have q1 := T1.size
  obtain ⟨kz, ka, kb, kc, kf, kg, kh⟩ := T0
  go_wp2_with fail
  refine (sync_any D S R _).mono ?_
  rintro e w3 ⟨rfl, hb⟩
  have hb' : Below w2.heap.size w2 w3 := ((Below.refl _ _).alloc (Nat.le_refl _) _).trans (hb.mono (by simp))
  have T0 := (One.mk kz ka kb kc kf kg kh).below kz hb'
  replace T1 := T1.below T1.size hb'
  have T2 := (One.made w2 _ _ _ _).below (by simp) hb
  have B' := B
  replace B : Below w.heap.size w w3 := B'.trans (hb'.mono B'.size)
  obtain ⟨n2, hn⟩ : ∃ x, x = w2.heap.size := ⟨_, rfl⟩
  have o0_2 : n0 < n2 := by rw [hn]; exact kz
  have o1_2 : n1 < n2 := by rw [hn]; exact q1
  rw [← hn] at T2 ⊢
  clear kz ka kb kc kf kg kh hb hb' B' hn q1
  have q1 := T1.size
  have q2 := T2.size
  obtain ⟨kz, ka, kb, kc, kf, kg, kh⟩ := T0
  go_wp2_with fail
  refine (rsync_any D S R _).mono ?_
  rintro e w4 ⟨rfl, hb⟩
  generalize syncR D S R = r2 at *
  have hb' : Below w3.heap.size w3 w4 := ((Below.refl _ _).alloc (Nat.le_refl _) _).trans (hb.mono (by simp))
  have T0 := (One.mk kz ka kb kc kf kg kh).below kz hb'
  replace T1 := T1.below T1.size hb'
  replace T2 := T2.below T2.size hb'
  have T3 := (One.made w3 _ _ _ _).below (by simp) hb
  have B' := B
  replace B : Below w.heap.size w w4 := B'.trans (hb'.mono B'.size)
  obtain ⟨n3, hn⟩ : ∃ x, x = w3.heap.size := ⟨_, rfl⟩
  have o0_3 : n0 < n3 := by rw [hn]; exact kz
  have o1_3 : n1 < n3 := by rw [hn]; exact q1
  have o2_3 : n2 < n3 := by rw [hn]; exact q2
  rw [← hn] at T3 ⊢
  clear kz ka kb kc kf kg kh hb hb' B' hn q1 q2
  have q1 := T1.size
  have q2 := T2.size
  have q3 := T3.size
  obtain ⟨kz, ka, kb, kc, kf, kg, kh⟩ := T0
  go_wp2_with fail
  refine (swap_any D S R t _).mono ?_
  rintro e w5 ⟨rfl, hb⟩
  have hb' : Below w4.heap.size w4 w5 := ((Below.refl _ _).alloc (Nat.le_refl _) _).trans (hb.mono (by simp))
  have T0 := (One.mk kz ka kb kc kf kg kh).below kz hb'
  replace T1 := T1.below T1.size hb'
  replace T2 := T2.below T2.size hb'
  replace T3 := T3.below T3.size hb'
  have T4 := (One.made w4 _ _ _ _).below (by simp) hb
  have B' := B
  replace B : Below w.heap.size w w5 := B'.trans (hb'.mono B'.size)
  obtain ⟨n4, hn⟩ : ∃ x, x = w4.heap.size := ⟨_, rfl⟩
  have o0_4 : n0 < n4 := by rw [hn]; exact kz
  have o1_4 : n1 < n4 := by rw [hn]; exact q1
  have o2_4 : n2 < n4 := by rw [hn]; exact q2
  have o3_4 : n3 < n4 := by rw [hn]; exact q3
  rw [← hn] at T4 ⊢
  clear kz ka kb kc kf kg kh hb hb' B' hn q1 q2 q3
  have q1 := T1.size
  have q2 := T2.size
  have q3 := T3.size
  have q4 := T4.size
  obtain ⟨kz, ka, kb, kc, kf, kg, kh⟩ := T0
  go_wp2_with fail
  refine (rswap_any D S R t _).mono ?_
  rintro e w6 ⟨rfl, hb⟩
  generalize swapR D S R t = r3 at *
  have hb' : Below w5.heap.size w5 w6 := ((Below.refl _ _).alloc (Nat.le_refl _) _).trans (hb.mono (by simp))
  have T0 := (One.mk kz ka kb kc kf kg kh).below kz hb'
  replace T1 := T1.below T1.size hb'
  replace T2 := T2.below T2.size hb'
  replace T3 := T3.below T3.size hb'
  replace T4 := T4.below T4.size hb'
  have T5 := (One.made w5 _ _ _ _).below (by simp) hb
  have B' := B
  replace B : Below w.heap.size w w6 := B'.trans (hb'.mono B'.size)
  obtain ⟨n5, hn⟩ : ∃ x, x = w5.heap.size := ⟨_, rfl⟩
  have o0_5 : n0 < n5 := by rw [hn]; exact kz
  have o1_5 : n1 < n5 := by rw [hn]; exact q1
  have o2_5 : n2 < n5 := by rw [hn]; exact q2
  have o3_5 : n3 < n5 := by rw [hn]; exact q3
  have o4_5 : n4 < n5 := by rw [hn]; exact q4
  rw [← hn] at T5 ⊢
  clear kz ka kb kc kf kg kh hb hb' B' hn q1 q2 q3 q4
  have q1 := T1.size
  have q2 := T2.size
  have q3 := T3.size
  have q4 := T4.size
  have q5 := T5.size
  obtain ⟨kz, ka, kb, kc, kf, kg, kh⟩ := T0
  go_wp2_with fail
  refine (new_any room _).mono ?_
  rintro e w7 ⟨rfl, hb⟩
  have hb' : Below w6.heap.size w6 w7 := ((Below.refl _ _).alloc (Nat.le_refl _) _).trans (hb.mono (by simp))
  have T0 := (One.mk kz ka kb kc kf kg kh).below kz hb'
  replace T1 := T1.below T1.size hb'
  replace T2 := T2.below T2.size hb'
  replace T3 := T3.below T3.size hb'
  replace T4 := T4.below T4.size hb'
  replace T5 := T5.below T5.size hb'
  have T6 := (One.made w6 _ _ _ _).below (by simp) hb
  have B' := B
  replace B : Below w.heap.size w w7 := B'.trans (hb'.mono B'.size)
  obtain ⟨n6, hn⟩ : ∃ x, x = w6.heap.size := ⟨_, rfl⟩
  have o0_6 : n0 < n6 := by rw [hn]; exact kz
  have o1_6 : n1 < n6 := by rw [hn]; exact q1
  have o2_6 : n2 < n6 := by rw [hn]; exact q2
  have o3_6 : n3 < n6 := by rw [hn]; exact q3
  have o4_6 : n4 < n6 := by rw [hn]; exact q4
  have o5_6 : n5 < n6 := by rw [hn]; exact q5
  rw [← hn] at T6 ⊢
  clear kz ka kb kc kf kg kh hb hb' B' hn q1 q2 q3 q4 q5
  have q1 := T1.size
  have q2 := T2.size
  have q3 := T3.size
  have q4 := T4.size
  have q5 := T5.size
  have q6 := T6.size
  obtain ⟨kz, ka, kb, kc, kf, kg, kh⟩ := T0
  go_wp2_with fail
  refine (rnew_any room _).mono ?_
  rintro e w8 ⟨rfl, hb⟩
  generalize newR room = r4 at *
  have hb' : Below w7.heap.size w7 w8 := ((Below.refl _ _).alloc (Nat.le_refl _) _).trans (hb.mono (by simp))
  have T0 := (One.mk kz ka kb kc kf kg kh).below kz hb'
  replace T1 := T1.below T1.size hb'
  replace T2 := T2.below T2.size hb'
  replace T3 := T3.below T3.size hb'
  replace T4 := T4.below T4.size hb'
  replace T5 := T5.below T5.size hb'
  replace T6 := T6.below T6.size hb'
  have T7 := (One.made w7 _ _ _ _).below (by simp) hb
  have B' := B
  replace B : Below w.heap.size w w8 := B'.trans (hb'.mono B'.size)
  obtain ⟨n7, hn⟩ : ∃ x, x = w7.heap.size := ⟨_, rfl⟩
  have o0_7 : n0 < n7 := by rw [hn]; exact kz
  have o1_7 : n1 < n7 := by rw [hn]; exact q1
  have o2_7 : n2 < n7 := by rw [hn]; exact q2
  have o3_7 : n3 < n7 := by rw [hn]; exact q3
  have o4_7 : n4 < n7 := by rw [hn]; exact q4
  have o5_7 : n5 < n7 := by rw [hn]; exact q5
  have o6_7 : n6 < n7 := by rw [hn]; exact q6
  rw [← hn] at T7 ⊢
  clear kz ka kb kc kf kg kh hb hb' B' hn q1 q2 q3 q4 q5 q6
  have q1 := T1.size
  have q2 := T2.size
  have q3 := T3.size
  have q4 := T4.size
  have q5 := T5.size
  have q6 := T6.size
  have q7 := T7.size
  have hb' : Below w8.heap.size w8 (w8.alloc (.cells #[.string r4.d, .int .i64 r4.s, .int .i64 r4.r] 32)) := (Below.refl _ _).alloc (Nat.le_refl _) _
  have U0 := T0.below T0.size hb'
  have U1 := T1.below T1.size hb'
  have U2 := T2.below T2.size hb'
  have U3 := T3.below T3.size hb'
  have U4 := T4.below T4.size hb'
  have U5 := T5.below T5.size hb'
  have U6 := T6.below T6.size hb'
  have U7 := T7.below T7.size hb'
  have U8 := One.made w8 (.string r4.d) (.int .i64 r4.s) (.int .i64 r4.r) 32
  have BW : Below w.heap.size w (w8.alloc (.cells #[.string r4.d, .int .i64 r4.s, .int .i64 r4.r] 32)) := B.alloc B.size _
  obtain ⟨kz, ka, kb, kc, kf, kg, kh⟩ := T0
  go_wp2_with fail
  clear kz ka kb kc kf kg kh hb' B T1 T2 T3 T4 T5 T6 T7
  obtain ⟨n8, hn⟩ : ∃ x, x = w8.heap.size := ⟨_, rfl⟩
  rw [← hn] at U8 ⊢
  clear hn q1 q2 q3 q4 q5 q6 q7
  generalize w8.alloc (.cells #[.string r4.d, .int .i64 r4.s, .int .i64 r4.r] 32) = W at *
  have k00 := cell_regrown U0.a0
  have k01 := cell_regrown U0.a1
  have k02 := cell_regrown U0.a2
  clear U0
  have k10 := cell_regrown U1.a0
  have k11 := cell_regrown U1.a1
  have k12 := cell_regrown U1.a2
  clear U1
  have k20 := cell_regrown U2.a0
  have k21 := cell_regrown U2.a1
  have k22 := cell_regrown U2.a2
  clear U2
  have k30 := cell_regrown U3.a0
  have k31 := cell_regrown U3.a1
  have k32 := cell_regrown U3.a2
  clear U3
  have k40 := cell_regrown U4.a0
  have k41 := cell_regrown U4.a1
  have k42 := cell_regrown U4.a2
  clear U4
  have k50 := cell_regrown U5.a0
  have k51 := cell_regrown U5.a1
  have k52 := cell_regrown U5.a2
  clear U5
  have k60 := cell_regrown U6.a0
  have k61 := cell_regrown U6.a1
  have k62 := cell_regrown U6.a2
  clear U6
  have k70 := cell_regrown U7.a0
  have k71 := cell_regrown U7.a1
  have k72 := cell_regrown U7.a2
  clear U7
  have k80 := cell_regrown U8.a0
  have k81 := cell_regrown U8.a1
  have k82 := cell_regrown U8.a2
  clear U8
  clear o0_1 o0_2 o0_3 o0_4 o0_5 o0_6 o0_7 o1_2 o1_3 o1_4 o1_5 o1_6 o1_7 o2_3 o2_4 o2_5 o2_6 o2_7 o3_4 o3_5 o3_6 o3_7 o4_5 o4_6 o4_7 o5_6 o5_7 o6_7
  refine wp_region_quiet_below (by kernel_rfl) (by kernel_rfl) ?_
  repeat (go_big_quiet_step ((first | (go_at_call 28; exact Calls.regrown_of (check_any D S R _)) | (go_at_call 29; exact Calls.regrown_of (rcheck_any D S R _)) | (go_at_call 27; exact Calls.regrown_of (lives_any _)))))
  refine wpQuiet_nil ?_
  intro _ hw'
  obtain ⟨⟨dq, osq⟩, hw''⟩ := hw'
  subst hw''
  go_wp2
  go_ret
  exact ⟨rfl, BW.trans ((below_regrown W dq osq).mono BW.size)⟩

theorem writes_top (D : ByteArray) (S R : Int) (wD : D.size ≤ maxLen) (wS : (Lit.int .i64 S).wf = true) (wR : (Lit.int .i64 R).wf = true) (t : ByteArray) (wt : t.size ≤ maxLen) (room : Int) (wr : (Lit.int .i64 room).wf = true) (w : World) :
    Calls Try.prog 7 #[.agg #[.string D, .int .i64 S, .int .i64 R], .string t, .int .i64 room] w fun e w' => e = .returned (.bool true) ∧ Below w.heap.size w w' := writes_walk D S R t room w
end Disk
end Go.Proofs.Ytobdllfddmeicaa
