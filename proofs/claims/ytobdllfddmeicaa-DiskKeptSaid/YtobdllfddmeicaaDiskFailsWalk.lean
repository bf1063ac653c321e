/- The walk of the law DiskFails, by the contracts of what it calls. -/
import Derived.Test.YtobdllfddmeicaaDiskLives
namespace Go.Proofs.Ytobdllfddmeicaa
open Go.RowKit
set_option linter.unusedVariables false
namespace Disk

set_option maxHeartbeats 1000000 in
theorem fails_walk (D : ByteArray) (S R k : Int) (b : UInt8) (w : World) :
    Calls Try.prog 8 #[.agg #[.string D, .int .i64 S, .int .i64 R], .int .i64 k, .int .u8 (b.toNat : Int)] w fun e w' => e = .returned (.bool true) ∧ Below w.heap.size w w' := by
  go_enter Try.func8, Try.ntmps8
  go_wp2_with fail
  refine (fail_any D S R k b _).mono ?_
  rintro e w1 ⟨rfl, hb⟩
  have B : Below w.heap.size w w1 := ((Below.refl _ _).alloc (Nat.le_refl _) _).trans (hb.mono (by simp))
  have T := (One.made w _ _ _ _).below (by simp) hb
  obtain ⟨z, a0, a1, a2, f0, f1, f2⟩ := T
  clear hb
  go_wp2_with fail
  refine (rfail_any D S R k b _).mono ?_
  rintro e w2 ⟨rfl, hb⟩
  generalize failR D S R k b = r at *
  have B2 : Below w.heap.size w w2 := (B.alloc B.size _).trans (hb.mono (by have := B.size; simp; omega))
  have T1 := (One.made w1 _ _ _ _).below (by simp) hb
  obtain ⟨n1, hn⟩ : ∃ x, x = w1.heap.size := ⟨_, rfl⟩
  rw [← hn] at T1 ⊢
  clear hb hn z a0 a1 a2 f0 f1 f2 B
  have o1 := T1.size
  go_wp2_with fail
  refine (lives_any _).mono ?_
  rintro e w3 ⟨rfl, hb⟩
  have T2 := (One.made w2 _ _ _ _).below (by simp) hb
  have hb' : Below w2.heap.size w2 w3 := ((Below.refl _ _).alloc (Nat.le_refl _) _).trans (hb.mono (by simp))
  have T3 := T1.below T1.size hb'
  obtain ⟨z, a0, a1, a2, f0, f1, f2⟩ := T2
  obtain ⟨y, c0, c1, c2, g0, g1, g2⟩ := T3
  have B3 : Below w.heap.size w w3 := B2.trans (hb'.mono B2.size)
  clear hb hb' T1 B2
  go_wp2_with fail
  go_ret
  exact ⟨rfl, B3⟩
theorem u8_of (a : Int) (h : (Lit.int .u8 a).wf = true) : ∃ b : UInt8, a = (b.toNat : Int) := by
  have hx : 0 ≤ a ∧ a ≤ 255 := by simpa [Lit.wf, IntKind.min, IntKind.max, IntKind.signed, IntKind.bits] using h
  refine ⟨UInt8.ofNat a.toNat, ?_⟩
  rw [UInt8.toNat_ofNat', Nat.mod_eq_of_lt (by omega)]; omega

theorem fails_top (D : ByteArray) (S R : Int) (wD : D.size ≤ maxLen) (wS : (Lit.int .i64 S).wf = true) (wR : (Lit.int .i64 R).wf = true) (k : Int) (wk : (Lit.int .i64 k).wf = true) (b : Int) (wb : (Lit.int .u8 b).wf = true) (w : World) :
    Calls Try.prog 8 #[.agg #[.string D, .int .i64 S, .int .i64 R], .int .i64 k, .int .u8 b] w fun e w' => e = .returned (.bool true) ∧ Below w.heap.size w w' := by
  obtain ⟨c, rfl⟩ := u8_of b wb
  exact fails_walk D S R k c w
end Disk
end Go.Proofs.Ytobdllfddmeicaa
