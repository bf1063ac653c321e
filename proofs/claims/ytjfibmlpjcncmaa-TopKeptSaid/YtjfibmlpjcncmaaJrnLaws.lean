/- The walks of chapter 9's laws JournalReads and JournalAdds. -/
import Derived.Test.YtjfibmlpjcncmaaJrnLives
import Derived.Test.YtjfibmlpjcncmaaOctLaws
namespace Go.Proofs.Ytjfibmlpjcncmaa
open Go.RowKit
set_option linter.unusedVariables false
set_option linter.unusedSimpArgs false
set_option maxRecDepth 4000
namespace Jrn
open Oct Crc Disk

theorem readR_length (l : List UInt8) : 5 * (readR l).1.length ≤ l.length := by
  have := recs_length (l.length + 1) 0 l (by omega)
  simp only [readR, List.length_map]
  omega

theorem reads_long (s : ByteArray) (r : ByteArray) (hs : (262144 : Int) < (s.size : Int)) (w : World) :
    Calls Try.prog 8 #[.string s, .string r] w fun e w' => e = .returned (.bool true) ∧ Below w.heap.size w w' := by
  go_enter Try.func8, Try.ntmps8
  go_wp2_with fail
  refine (jrn_lives _).mono ?_
  rintro e w1 ⟨rfl, B⟩
  go_wp2_with fail
  go_ret
  exact ⟨rfl, B⟩

set_option maxHeartbeats 2000000 in
theorem reads_walk (l t : List UInt8) (hl : (l.length : Int) ≤ 262144) (w : World) :
    Calls Try.prog 8 #[.string ⟨l.toArray⟩, .string ⟨t.toArray⟩] w fun e w' => e = .returned (.bool true) ∧ Below w.heap.size w w' := by
  have c1 := fun w => read_any l (by omega) w
  have c2 := fun w => refRead_any l (by omega) w
  have hg := readR_length l
  generalize readR l = g at c1 c2 hg
  have c3 := fun w => bytes_any t w
  have c4 := fun w => refBytes_any t w
  generalize bytesR t = r at c3 c4
  have HG := Lib.hid (show (g.1.length : Int) ≤ 2097152 by omega)
  clear hg
  go_enter Try.func8, Try.ntmps8
  go_wp2_with fail
  refine (c1 _).mono ?_
  rintro e w1 ⟨v1, rfl, o1, B⟩
  have R1 := o1.row
  clear o1
  go_wp2_with fail
  refine (c2 _).mono ?_
  rintro e w2 ⟨v2, rfl, o2, hb⟩
  have R2 := o2.row
  replace R1 := R1.below rfl hb
  replace B := B.trans (hb.mono B.size)
  clear hb o2
  go_wp2_with fail
  refine (c3 _).mono ?_
  rintro e w3 ⟨rfl, hb⟩
  replace R1 := R1.below rfl hb
  replace R2 := R2.below rfl hb
  replace B := B.trans (hb.mono B.size)
  clear hb
  go_wp2_with fail
  refine (c4 _).mono ?_
  rintro e w4 ⟨rfl, hb⟩
  replace R1 := R1.below rfl hb
  replace R2 := R2.below rfl hb
  replace B := B.trans (hb.mono B.size)
  clear hb
  go_wp2_with fail
  refine (jrn_lives _).mono ?_
  rintro e w5 ⟨rfl, hb⟩
  replace R1 := R1.below rfl hb
  replace R2 := R2.below rfl hb
  replace B := B.trans (hb.mono B.size)
  clear hb c1 c2 c3 c4
  go_wp2_with fail
  refine (same_big v1 v2 g.1 g.1 _ R1 R2 HG.out).mono ?_
  rintro e w6 ⟨rfl, hb⟩
  replace B := B.trans (hb.mono B.size)
  rw [decide_eq_true rfl]
  clear hb R1 R2
  go_wp2_with fail
  go_ret
  exact ⟨rfl, B⟩

theorem reads_top (s : ByteArray) (ws : s.size ≤ maxLen) (r : ByteArray) (wr : r.size ≤ maxLen) (w : World) :
    Calls Try.prog 8 #[.string s, .string r] w fun e w' => e = .returned (.bool true) ∧ Below w.heap.size w w' := by
  by_cases h : (262144 : Int) < (s.size : Int)
  · exact reads_long s r h w
  · obtain ⟨l, rfl, hl⟩ := Jrn.bytes_of s
    obtain ⟨t, rfl, -⟩ := Jrn.bytes_of r
    exact reads_walk l t (by omega) w

theorem adds_long (D : ByteArray) (S R : Int) (r : ByteArray) (hs : (262144 : Int) < (D.size : Int)) (w : World) :
    Calls Try.prog 9 #[.agg #[.string D, .int .i64 S, .int .i64 R], .string r] w fun e w' => e = .returned (.bool true) ∧ Below w.heap.size w w' := by
  go_enter Try.func9, Try.ntmps9
  go_wp2_with fail
  refine (jrn_lives _).mono ?_
  rintro e w1 ⟨rfl, hb⟩
  go_wp2_with fail
  go_ret
  exact ⟨rfl, ((Below.refl _ _).alloc (Nat.le_refl _) _).trans (hb.mono (by simp))⟩

set_option maxHeartbeats 4000000 in
theorem adds_walk (D : ByteArray) (S R : Int) (t : List UInt8) (hs : (D.size : Int) ≤ 262144) (w : World) :
    Calls Try.prog 9 #[.agg #[.string D, .int .i64 S, .int .i64 R], .string ⟨t.toArray⟩] w fun e w' => e = .returned (.bool true) ∧ Below w.heap.size w w' := by
  have c1 := fun w => add_any D S R t w
  have c2 := fun w => refAdd_any D S R t w
  generalize addR D S R t = r at c1 c2
  have c3 := fun w => mend_any D S R (by omega) w
  have c4 := fun w => refMend_any D S R (by omega) w
  generalize mendR D S R = q at c3 c4
  go_enter Try.func9, Try.ntmps9
  go_wp2_with fail
  refine (c1 _).mono ?_
  rintro e w1 ⟨rfl, hb⟩
  have B : Below w.heap.size w w1 := ((Below.refl _ _).alloc (Nat.le_refl _) _).trans (hb.mono (by simp))
  have T0 := (One.made w _ _ _ _).below (by simp) hb
  have Q := T0
  have K0 := T0
  obtain ⟨z0, a00, a01, a02, f00, f01, f02⟩ := Q
  clear hb c1 T0
  go_wp2_with fail
  refine (c2 _).mono ?_
  rintro e w2 ⟨rfl, hb⟩
  have hb' : Below w1.heap.size w1 w2 := ((Below.refl _ _).alloc (Nat.le_refl _) _).trans (hb.mono (by simp))
  replace K0 := K0.below K0.size hb'
  have K1 := (One.made w1 _ _ _ _).below (by simp) hb
  obtain ⟨n1, hn⟩ : ∃ x, x = w1.heap.size := ⟨_, rfl⟩
  have o0_1 : w.heap.size < n1 := by rw [hn]; exact z0
  rw [← hn] at K1 ⊢
  replace B : Below w.heap.size w w2 := B.trans (hb'.mono B.size)
  clear hb hb' hn c2 z0 a00 a01 a02 f00 f01 f02 
  have Q := K0
  obtain ⟨z0, a00, a01, a02, f00, f01, f02⟩ := Q
  have Q := K1
  obtain ⟨z1, a10, a11, a12, f10, f11, f12⟩ := Q
  go_wp2_with fail
  refine (c3 _).mono ?_
  rintro e w3 ⟨rfl, hb⟩
  have hb' : Below w2.heap.size w2 w3 := ((Below.refl _ _).alloc (Nat.le_refl _) _).trans (hb.mono (by simp))
  replace K0 := K0.below K0.size hb'
  replace K1 := K1.below K1.size hb'
  have K2 := (One.made w2 _ _ _ _).below (by simp) hb
  obtain ⟨n2, hn⟩ : ∃ x, x = w2.heap.size := ⟨_, rfl⟩
  have o0_2 : w.heap.size < n2 := by rw [hn]; exact z0
  have o1_2 : n1 < n2 := by rw [hn]; exact z1
  rw [← hn] at K2 ⊢
  replace B : Below w.heap.size w w3 := B.trans (hb'.mono B.size)
  clear hb hb' hn c3 z0 a00 a01 a02 f00 f01 f02 z1 a10 a11 a12 f10 f11 f12 
  have Q := K0
  obtain ⟨z0, a00, a01, a02, f00, f01, f02⟩ := Q
  have Q := K1
  obtain ⟨z1, a10, a11, a12, f10, f11, f12⟩ := Q
  have Q := K2
  obtain ⟨z2, a20, a21, a22, f20, f21, f22⟩ := Q
  go_wp2_with fail
  refine (c4 _).mono ?_
  rintro e w4 ⟨rfl, hb⟩
  have hb' : Below w3.heap.size w3 w4 := ((Below.refl _ _).alloc (Nat.le_refl _) _).trans (hb.mono (by simp))
  replace K0 := K0.below K0.size hb'
  replace K1 := K1.below K1.size hb'
  replace K2 := K2.below K2.size hb'
  have K3 := (One.made w3 _ _ _ _).below (by simp) hb
  obtain ⟨n3, hn⟩ : ∃ x, x = w3.heap.size := ⟨_, rfl⟩
  have o0_3 : w.heap.size < n3 := by rw [hn]; exact z0
  have o1_3 : n1 < n3 := by rw [hn]; exact z1
  have o2_3 : n2 < n3 := by rw [hn]; exact z2
  rw [← hn] at K3 ⊢
  replace B : Below w.heap.size w w4 := B.trans (hb'.mono B.size)
  clear hb hb' hn c4 z0 a00 a01 a02 f00 f01 f02 z1 a10 a11 a12 f10 f11 f12 z2 a20 a21 a22 f20 f21 f22 
  have Q := K0
  obtain ⟨z0, a00, a01, a02, f00, f01, f02⟩ := Q
  have Q := K1
  obtain ⟨z1, a10, a11, a12, f10, f11, f12⟩ := Q
  have Q := K2
  obtain ⟨z2, a20, a21, a22, f20, f21, f22⟩ := Q
  have Q := K3
  obtain ⟨z3, a30, a31, a32, f30, f31, f32⟩ := Q
  go_wp2_with fail
  refine (jrn_lives _).mono ?_
  rintro e w5 ⟨rfl, hb⟩
  have hb' : Below w4.heap.size w4 w5 := ((Below.refl _ _).alloc (Nat.le_refl _) _).trans (hb.mono (by simp))
  replace K0 := K0.below K0.size hb'
  replace K1 := K1.below K1.size hb'
  replace K2 := K2.below K2.size hb'
  replace K3 := K3.below K3.size hb'
  have K4 := (One.made w4 _ _ _ _).below (by simp) hb
  obtain ⟨n4, hn⟩ : ∃ x, x = w4.heap.size := ⟨_, rfl⟩
  have o0_4 : w.heap.size < n4 := by rw [hn]; exact z0
  have o1_4 : n1 < n4 := by rw [hn]; exact z1
  have o2_4 : n2 < n4 := by rw [hn]; exact z2
  have o3_4 : n3 < n4 := by rw [hn]; exact z3
  rw [← hn] at K4 ⊢
  replace B : Below w.heap.size w w5 := B.trans (hb'.mono B.size)
  clear hb hb' hn  z0 a00 a01 a02 f00 f01 f02 z1 a10 a11 a12 f10 f11 f12 z2 a20 a21 a22 f20 f21 f22 z3 a30 a31 a32 f30 f31 f32 
  have Q := K0
  obtain ⟨z0, a00, a01, a02, f00, f01, f02⟩ := Q
  have Q := K1
  obtain ⟨z1, a10, a11, a12, f10, f11, f12⟩ := Q
  have Q := K2
  obtain ⟨z2, a20, a21, a22, f20, f21, f22⟩ := Q
  have Q := K3
  obtain ⟨z3, a30, a31, a32, f30, f31, f32⟩ := Q
  have Q := K4
  obtain ⟨z4, a40, a41, a42, f40, f41, f42⟩ := Q
  go_wp2_with fail
  go_ret
  exact ⟨rfl, B⟩

theorem adds_top (D : ByteArray) (S R : Int) (wD : D.size ≤ maxLen) (wS : (Lit.int .i64 S).wf = true) (wR : (Lit.int .i64 R).wf = true) (r : ByteArray) (wr : r.size ≤ maxLen) (w : World) :
    Calls Try.prog 9 #[.agg #[.string D, .int .i64 S, .int .i64 R], .string r] w fun e w' => e = .returned (.bool true) ∧ Below w.heap.size w w' := by
  by_cases h : (262144 : Int) < (D.size : Int)
  · exact adds_long D S R r h w
  · obtain ⟨t, rfl, -⟩ := Jrn.bytes_of r
    exact adds_walk D S R t (by omega) w
end Jrn
end Go.Proofs.Ytjfibmlpjcncmaa
