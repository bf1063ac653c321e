/- The walk of the law TopTorn, by the contracts of what it calls. -/
import Derived.Test.YtobdllfddmeicaaOctPut
import Derived.Test.YtobdllfddmeicaaDiskFailsWalk
import Derived.Test.YtobdllfddmeicaaCrcNoughtWalk
import Derived.BigQuiet
import Derived.Lib.Strings
namespace Go.Proofs.Ytobdllfddmeicaa
open Go.RowKit
set_option linter.unusedVariables false
namespace Torn
open Disk Crc

theorem num300 (w : World) : Calls Try.prog 35 #[.int .u64 300] w fun e w' => e = .returned (.tuple #[.string ⟨#[172, 2]⟩, .int .i64 0]) ∧ Below w.heap.size w w' := by
  refine (Oct.num_ok 300 (by omega) w).mono fun e w' h => ⟨?_, h.2⟩
  rw [h.1]
  exact congrArg (fun l : List UInt8 => Ending.returned (.tuple #[.string ⟨l.toArray⟩, .int .i64 0])) (show Oct.putL 300 = [172, 2] by decide +kernel)

theorem begins_any (w : World) : Calls Try.prog 32 #[] w fun e w' => e = .returned (.bool true) ∧ Below w.heap.size w w' := by
  go_enter Try.func32, Try.ntmps32
  go_wp2_with fail
  refine (num300 _).mono ?_
  rintro e w1 ⟨rfl, hb⟩
  go_wp2_with fail
  go_ret
  exact ⟨rfl, hb⟩

theorem empty_append (T : ByteArray) : (⟨#[]⟩ ++ T : ByteArray) = T := by
  apply ByteArray.ext; simp [ByteArray.data_append]

theorem t_write (T : ByteArray) (R : Int) (h : (T.size : Int) ≤ R) (hR : R ≤ 1048576) (w : World) :
    Calls Try.prog 19 #[.agg #[.string ⟨#[]⟩, .int .i64 0, .int .i64 R], .string T] w fun e w' => e = .returned (.tuple #[.agg #[.string T, .int .i64 0, .int .i64 R], .int .i64 0]) ∧ Below w.heap.size w w' := by
  have hr : Right ⟨#[]⟩ 0 R := ⟨by omega, by decide, by show (0 : Int) ≤ R; omega, hR⟩
  refine (write_ok ⟨#[]⟩ 0 R T hr (by show _ ≤ R - (0 : Int); omega) w).mono fun e w' hh => ⟨?_, hh.2⟩
  rw [hh.1, empty_append]

theorem t_full (T : ByteArray) (R : Int) (h : R < (T.size : Int)) (h0 : 0 ≤ R) (hR : R ≤ 1048576) (w : World) :
    Calls Try.prog 19 #[.agg #[.string ⟨#[]⟩, .int .i64 0, .int .i64 R], .string T] w fun e w' => e = .returned (.tuple #[.agg #[.string ⟨#[]⟩, .int .i64 0, .int .i64 R], .int .i64 8]) ∧ Below w.heap.size w w' :=
  write_full ⟨#[]⟩ 0 R T ⟨by omega, by decide, by show (0 : Int) ≤ R; omega, hR⟩ (by show R - (0 : Int) < _; omega) w

theorem t_fail0 (T : ByteArray) (R k : Int) (b : UInt8) (hT : (T.size : Int) ≤ R) (hR : R ≤ 1048576) (hk : k ≤ 0) (w : World) :
    Calls Try.prog 30 #[.agg #[.string T, .int .i64 0, .int .i64 R], .int .i64 k, .int .u8 (b.toNat : Int)] w fun e w' => e = .returned (.tuple #[.agg #[.string ⟨#[]⟩, .int .i64 0, .int .i64 R], .int .i64 0]) ∧ Below w.heap.size w w' := by
  refine (fail_none T 0 R k b ⟨by omega, by omega, hT, hR⟩ w (fun W => by rw [run_max_int2]; congr 2; split <;> omega) (fun W => by rw [run_min_int2]; congr 2; split <;> omega)).mono fun e w' hh => ⟨?_, hh.2⟩
  rw [hh.1]; rfl

theorem t_fail (T : ByteArray) (q : Nat) (R k : Int) (b : UInt8) (hT : (T.size : Int) ≤ R) (hR : R ≤ 1048576) (hq : 0 < q) (hqT : q ≤ T.size) (hk : (q : Int) = min (max k 0) (T.size : Int)) (w : World) :
    Calls Try.prog 30 #[.agg #[.string T, .int .i64 0, .int .i64 R], .int .i64 k, .int .u8 (b.toNat : Int)] w fun e w' => e = .returned (.tuple #[.agg #[.string ⟨(lastXor (T.data.toList.take q) b).toArray⟩, .int .i64 (q : Int), .int .i64 R], .int .i64 0]) ∧ Below w.heap.size w w' := by
  refine (fail_some T 0 q R k b ⟨by omega, by omega, hT, hR⟩ hq (by omega) w (fun W => by rw [run_max_int2]; congr 2; split <;> omega) (fun W => by rw [run_min_int2]; congr 2; split <;> omega)).mono fun e w' hh => ⟨?_, hh.2⟩
  rw [hh.1, Nat.zero_add]
  have : ((0 : Nat) : Int) + (q : Int) = (q : Int) := by omega
  rw [this]

/-- what is left of good bytes of which the last was turned -/
theorem torn_good (l : List UInt8) (b : UInt8) : good (lastXor (l ++ top4 (crc l)) b) = decide (b = 0) := by
  have hg := nought_good l
  obtain ⟨p, c, hp⟩ : ∃ p c, l ++ top4 (crc l) = p ++ [c] := by
    have hne : l ++ top4 (crc l) ≠ [] := by simp [top4]
    exact ⟨_, _, (List.dropLast_concat_getLast hne).symm⟩
  rw [hp] at hg ⊢
  have hx : lastXor (p ++ [c]) b = p ++ [c ^^^ b] := by
    unfold lastXor
    simp
  rw [hx]
  unfold good at hg ⊢
  simp only [Bool.and_eq_true, decide_eq_true_eq, List.length_append, List.length_singleton] at hg ⊢
  have h2 := crc_last p (c ^^^ b) c
  rw [hg.2] at h2
  rw [Bool.eq_iff_iff]
  simp only [Bool.and_eq_true, decide_eq_true_eq]
  rw [h2]
  constructor
  · intro h
    have h3 := h.2
    have h4 : c ^^^ (c ^^^ b) = c ^^^ c := by rw [h3]
    rw [← UInt8.xor_assoc, UInt8.xor_self, UInt8.zero_xor] at h4
    exact h4
  · intro h
    subst h
    exact ⟨hg.1, by simp⟩
set_option maxHeartbeats 1000000 in
theorem torn_long (R : Int) (s : ByteArray) (k : Int) (b : UInt8) (hs : (65536 : Int) < (s.size : Int)) (w : World) :
    Calls Try.prog 9 #[.int .i64 R, .string s, .int .i64 k, .int .u8 (b.toNat : Int)] w fun e w' => e = .returned (.bool true) ∧ Below w.heap.size w w' := by
  go_enter Try.func9, Try.ntmps9
  go_wp2_with fail
  refine (begins_any _).mono ?_
  rintro e w1 ⟨rfl, B⟩
  go_wp2_with fail
  go_ret
  exact ⟨rfl, B⟩

set_option maxHeartbeats 1000000 in
theorem torn_range (R : Int) (s : ByteArray) (k : Int) (b : UInt8) (hs : s.size ≤ 65536) (hR : R < 0 ∨ (¬ R < 0 ∧ 1048576 < R)) (w : World) :
    Calls Try.prog 9 #[.int .i64 R, .string s, .int .i64 k, .int .u8 (b.toNat : Int)] w fun e w' => e = .returned (.bool true) ∧ Below w.heap.size w w' := by
  have ht4 : (top4 (crc s.data.toList)).length ≤ 4 := Nat.le_refl 4
  have hTs : (s ++ ⟨(top4 (crc s.data.toList)).toArray⟩ : ByteArray).size = s.size + 4 := by rw [ByteArray.size_append']; rfl
  have hsi : (s.size : Int) ≤ 65536 := by omega
  go_enter Try.func9, Try.ntmps9
  go_wp2_with fail
  refine (begins_any _).mono ?_
  rintro e w1 ⟨rfl, B⟩
  go_wp2_with fail
  refine (new_bad R (by omega) _).mono ?_
  rintro e w2 ⟨rfl, hb⟩
  replace B : Below w.heap.size w w2 := B.trans (hb.mono B.size)
  clear hb
  go_wp2_with fail
  refine (bytes_any _ _ (by omega)).mono ?_
  rintro e w3 ⟨rfl, hb⟩
  have hb' : Below w2.heap.size w2 w3 := ((Below.refl _ _).alloc (Nat.le_refl _) _).trans (hb.mono (by simp))
  have T2 := (One.made w2 _ _ _ _).below (by simp) hb
  have B' := B
  replace B : Below w.heap.size w w3 := B'.trans (hb'.mono B'.size)
  obtain ⟨n2, hn⟩ : ∃ x, x = w2.heap.size := ⟨_, rfl⟩
  rw [← hn] at T2 ⊢
  clear hb hb' B' hn
  have q2 := T2.size
  have ht2 := T2
  obtain ⟨kz, ka, kb, kc, kf, kg, kh⟩ := T2
  go_wp2_with fail
  have HTs := Lib.hid hTs
  clear hTs
  generalize s ++ ⟨(top4 (crc s.data.toList)).toArray⟩ = T at *
  refine (t_full T 0 (by have := HTs.out; omega) (by omega) (by omega) _).mono ?_
  rintro e w4 ⟨rfl, hb⟩
  have T3 := ht2.below ht2.size hb
  replace B : Below w.heap.size w w4 := B.trans (hb.mono B.size)
  clear hb ht2 kz ka kb kc kf kg kh
  obtain ⟨kz, ka, kb, kc, kf, kg, kh⟩ := T3
  go_wp2_with fail
  go_ret
  exact ⟨rfl, B.alloc B.size _⟩

set_option maxHeartbeats 1000000 in
theorem torn_full (R : Int) (s : ByteArray) (k : Int) (b : UInt8) (hs : s.size ≤ 65536) (h0 : 0 ≤ R) (h1 : R ≤ 1048576) (hR : R < (s.size : Int) + 4) (w : World) :
    Calls Try.prog 9 #[.int .i64 R, .string s, .int .i64 k, .int .u8 (b.toNat : Int)] w fun e w' => e = .returned (.bool true) ∧ Below w.heap.size w w' := by
  have ht4 : (top4 (crc s.data.toList)).length ≤ 4 := Nat.le_refl 4
  have hTs : (s ++ ⟨(top4 (crc s.data.toList)).toArray⟩ : ByteArray).size = s.size + 4 := by rw [ByteArray.size_append']; rfl
  have hTl := Lib.hid (show (s ++ ⟨(top4 (crc s.data.toList)).toArray⟩ : ByteArray).data.toList = s.data.toList ++ top4 (crc s.data.toList) by simp)
  have hsi : (s.size : Int) ≤ 65536 := by omega
  go_enter Try.func9, Try.ntmps9
  go_wp2_with fail
  refine (begins_any _).mono ?_
  rintro e w1 ⟨rfl, B⟩
  go_wp2_with fail
  refine (new_ok R (by omega) _).mono ?_
  rintro e w2 ⟨rfl, hb⟩
  replace B : Below w.heap.size w w2 := B.trans (hb.mono B.size)
  clear hb
  go_wp2_with fail
  refine (bytes_any _ _ (by omega)).mono ?_
  rintro e w3 ⟨rfl, hb⟩
  have hb' : Below w2.heap.size w2 w3 := ((Below.refl _ _).alloc (Nat.le_refl _) _).trans (hb.mono (by simp))
  have T2 := (One.made w2 _ _ _ _).below (by simp) hb
  have B' := B
  replace B : Below w.heap.size w w3 := B'.trans (hb'.mono B'.size)
  obtain ⟨n2, hn⟩ : ∃ x, x = w2.heap.size := ⟨_, rfl⟩
  rw [← hn] at T2 ⊢
  clear hb hb' B' hn
  have q2 := T2.size
  have ht2 := T2
  obtain ⟨kz, ka, kb, kc, kf, kg, kh⟩ := T2
  go_wp2_with fail
  have HTs := Lib.hid hTs
  clear hTs
  generalize s ++ ⟨(top4 (crc s.data.toList)).toArray⟩ = T at *
  refine (t_full T R (by have := HTs.out; omega) (by omega) (by omega) _).mono ?_
  rintro e w4 ⟨rfl, hb⟩
  have T2 := ht2.below ht2.size hb
  replace B : Below w.heap.size w w4 := B.trans (hb.mono B.size)
  clear hb ht2 kz ka kb kc kf kg kh
  have q2 := T2.size
  obtain ⟨kz, ka, kb, kc, kf, kg, kh⟩ := T2
  have hTi : R < (T.size : Int) := by have := HTs.out; omega
  go_wp2_with fail
  go_ret
  exact ⟨rfl, B.alloc B.size _⟩

theorem torn_head (T : ByteArray) (q : Nat) (b : UInt8) (h : q ≤ T.size) (F : ByteArray) (hF : F.data.toList = lastXor (T.data.toList.take q) b) : ((F.extract 0 (q - 1)).toList == (T.extract 0 (q - 1)).toList) = true := by
  have hl : (T.data.toList.take q).length = q := by simp; omega
  rw [beq_iff_eq, Lib.extract_toList, Lib.extract_toList, hF]
  unfold lastXor
  rw [hl]
  simp only [List.drop_zero, Nat.sub_zero]
  rw [List.take_set_of_le (by omega), List.take_take]
  congr 1
  omega

set_option maxHeartbeats 1000000 in
theorem torn_none (R : Int) (s : ByteArray) (k : Int) (b : UInt8) (hs : s.size ≤ 65536) (h0 : 0 ≤ R) (h1 : R ≤ 1048576) (hR : (s.size : Int) + 4 ≤ R) (hk : k ≤ 0) (w : World) :
    Calls Try.prog 9 #[.int .i64 R, .string s, .int .i64 k, .int .u8 (b.toNat : Int)] w fun e w' => e = .returned (.bool true) ∧ Below w.heap.size w w' := by
  have ht4 : (top4 (crc s.data.toList)).length ≤ 4 := Nat.le_refl 4
  have hTs : (s ++ ⟨(top4 (crc s.data.toList)).toArray⟩ : ByteArray).size = s.size + 4 := by rw [ByteArray.size_append']; rfl
  have hTl := Lib.hid (show (s ++ ⟨(top4 (crc s.data.toList)).toArray⟩ : ByteArray).data.toList = s.data.toList ++ top4 (crc s.data.toList) by simp)
  have hsi : (s.size : Int) ≤ 65536 := by omega
  go_enter Try.func9, Try.ntmps9
  go_wp2_with fail
  refine (begins_any _).mono ?_
  rintro e w1 ⟨rfl, B⟩
  go_wp2_with fail
  refine (new_ok R (by omega) _).mono ?_
  rintro e w2 ⟨rfl, hb⟩
  replace B : Below w.heap.size w w2 := B.trans (hb.mono B.size)
  clear hb
  go_wp2_with fail
  refine (bytes_any _ _ (by omega)).mono ?_
  rintro e w3 ⟨rfl, hb⟩
  have hb' : Below w2.heap.size w2 w3 := ((Below.refl _ _).alloc (Nat.le_refl _) _).trans (hb.mono (by simp))
  have T2 := (One.made w2 _ _ _ _).below (by simp) hb
  have B' := B
  replace B : Below w.heap.size w w3 := B'.trans (hb'.mono B'.size)
  obtain ⟨n2, hn⟩ : ∃ x, x = w2.heap.size := ⟨_, rfl⟩
  rw [← hn] at T2 ⊢
  clear hb hb' B' hn
  have q2 := T2.size
  have ht2 := T2
  obtain ⟨kz, ka, kb, kc, kf, kg, kh⟩ := T2
  go_wp2_with fail
  have HTs := Lib.hid hTs
  clear hTs
  generalize s ++ ⟨(top4 (crc s.data.toList)).toArray⟩ = T at *
  refine (t_write T R (by have := HTs.out; omega) (by omega) _).mono ?_
  rintro e w4 ⟨rfl, hb⟩
  have T2 := ht2.below ht2.size hb
  replace B : Below w.heap.size w w4 := B.trans (hb.mono B.size)
  clear hb ht2 kz ka kb kc kf kg kh
  have q2 := T2.size
  have hTi : (4 : Int) ≤ (T.size : Int) := by have := HTs.out; omega
  have hT0 : 0 < T.size := by omega
  have hmx : ∀ W, (Builtin.max_ #[3, 3] 3 #[.int .i64 k, .int .i64 0]).run Try.prog W = .ok (.int .i64 0) W := fun W => by rw [run_max_int2]; congr 2; split <;> (first | rfl | omega)
  have hmn : ∀ W, (Builtin.min_ #[3, 3] 3 #[.int .i64 0, .int .i64 (T.size : Int)]).run Try.prog W = .ok (.int .i64 0) W := fun W => by rw [run_min_int2, if_neg (by omega)]
  clear q2
  obtain ⟨kz, ka, kb, kc, kf, kg, kh⟩ := T2
  go_wp2_with fail
  refine (t_fail0 T R k b (by have := HTs.out; omega) (by omega) hk _).mono ?_
  rintro e w5 ⟨rfl, hb⟩
  have hb' : Below w4.heap.size w4 w5 := ((Below.refl _ _).alloc (Nat.le_refl _) _).trans (hb.mono (by simp))
  replace B : Below w.heap.size w w5 := B.trans (hb'.mono B.size)
  clear hb hb' kz ka kb kc kf kg kh
  go_wp2_with fail
  have BW := B.alloc B.size (.cells #[.string ⟨#[]⟩, .int .i64 0, .int .i64 R] 32)
  have U := One.made w5 (.string ⟨#[]⟩) (.int .i64 0) (.int .i64 R) 32
  obtain ⟨kz, ka, kb, kc, kf, kg, kh⟩ := U
  obtain ⟨n5, hn⟩ : ∃ x, x = w5.heap.size := ⟨_, rfl⟩
  rw [← hn] at ka kb kc kf kg kh ⊢
  clear hn kz
  generalize w5.alloc (.cells #[.string ⟨#[]⟩, .int .i64 0, .int .i64 R] 32) = W at *
  go_quiet (fail)
  go_wp2_with fail
  go_ret
  exact ⟨rfl, below_drewN BW _⟩

set_option maxHeartbeats 1000000 in
theorem torn_some (R : Int) (s : ByteArray) (k : Int) (b : UInt8) (hs : s.size ≤ 65536) (h0 : 0 ≤ R) (h1 : R ≤ 1048576) (hR : (s.size : Int) + 4 ≤ R) (q : Nat) (hq0 : 0 < q) (hk : (q : Int) = min k ((s.size : Int) + 4)) (hlt : (q : Int) < (s.size : Int) + 4) (w : World) :
    Calls Try.prog 9 #[.int .i64 R, .string s, .int .i64 k, .int .u8 (b.toNat : Int)] w fun e w' => e = .returned (.bool true) ∧ Below w.heap.size w w' := by
  have HK := Lib.hid hk
  have hqb : (q : Int) ≤ (s.size : Int) + 4 ∧ (q : Int) ≤ k ∧ 0 < k := by omega
  obtain ⟨hqb1, hqb2, hqb3⟩ := hqb
  clear hk
  have ht4 : (top4 (crc s.data.toList)).length ≤ 4 := Nat.le_refl 4
  have hTs : (s ++ ⟨(top4 (crc s.data.toList)).toArray⟩ : ByteArray).size = s.size + 4 := by rw [ByteArray.size_append']; rfl
  have hTl := Lib.hid (show (s ++ ⟨(top4 (crc s.data.toList)).toArray⟩ : ByteArray).data.toList = s.data.toList ++ top4 (crc s.data.toList) by simp)
  have hsi : (s.size : Int) ≤ 65536 := by omega
  go_enter Try.func9, Try.ntmps9
  go_wp2_with fail
  refine (begins_any _).mono ?_
  rintro e w1 ⟨rfl, B⟩
  go_wp2_with fail
  refine (new_ok R (by omega) _).mono ?_
  rintro e w2 ⟨rfl, hb⟩
  replace B : Below w.heap.size w w2 := B.trans (hb.mono B.size)
  clear hb
  go_wp2_with fail
  refine (bytes_any _ _ (by omega)).mono ?_
  rintro e w3 ⟨rfl, hb⟩
  have hb' : Below w2.heap.size w2 w3 := ((Below.refl _ _).alloc (Nat.le_refl _) _).trans (hb.mono (by simp))
  have T2 := (One.made w2 _ _ _ _).below (by simp) hb
  have B' := B
  replace B : Below w.heap.size w w3 := B'.trans (hb'.mono B'.size)
  obtain ⟨n2, hn⟩ : ∃ x, x = w2.heap.size := ⟨_, rfl⟩
  rw [← hn] at T2 ⊢
  clear hb hb' B' hn
  have q2 := T2.size
  have ht2 := T2
  obtain ⟨kz, ka, kb, kc, kf, kg, kh⟩ := T2
  go_wp2_with fail
  have HTs := Lib.hid hTs
  clear hTs
  generalize s ++ ⟨(top4 (crc s.data.toList)).toArray⟩ = T at *
  refine (t_write T R (by have := HTs.out; omega) (by omega) _).mono ?_
  rintro e w4 ⟨rfl, hb⟩
  have T2 := ht2.below ht2.size hb
  replace B : Below w.heap.size w w4 := B.trans (hb.mono B.size)
  clear hb ht2 kz ka kb kc kf kg kh
  have q2 := T2.size
  have hTi : (4 : Int) ≤ (T.size : Int) := by have := HTs.out; omega
  have hT0 : 0 < T.size := by omega
  have hqT : q ≤ T.size := by have := HTs.out; omega
  have hmx : ∀ W, (Builtin.max_ #[3, 3] 3 #[.int .i64 k, .int .i64 0]).run Try.prog W = .ok (.int .i64 k) W := fun W => by rw [run_max_int2]; congr 2; split <;> (first | rfl | omega)
  have hmn : ∀ W, (Builtin.min_ #[3, 3] 3 #[.int .i64 k, .int .i64 (T.size : Int)]).run Try.prog W = .ok (.int .i64 (q : Int)) W := fun W => by rw [run_min_int2]; congr 2; have := HTs.out; have := HK.out; split <;> omega
  clear q2
  obtain ⟨kz, ka, kb, kc, kf, kg, kh⟩ := T2
  go_wp2_with fail
  refine (t_fail T q R k b (by have := HTs.out; omega) (by omega) hq0 hqT (by have := HTs.out; have := HK.out; omega) _).mono ?_
  rintro e w5 ⟨rfl, hb⟩
  have hlen : (lastXor (T.data.toList.take q) b).length = q := by rw [lastXor_length]; simp; omega
  obtain ⟨F, hF⟩ : ∃ F : ByteArray, F = ⟨(lastXor (T.data.toList.take q) b).toArray⟩ := ⟨_, rfl⟩
  have hFs : F.size = q := by rw [hF, ByteArray.size_mk', List.size_toArray, hlen]
  have hFl : F.data.toList = lastXor (T.data.toList.take q) b := by rw [hF]
  have hE := torn_head T q b hqT F hFl
  rw [← hF]
  have HFL := Lib.hid hFl
  have hqlt : q < T.size := by have := HTs.out; omega
  have hqlti : (q : Int) < (T.size : Int) := by omega
  have hqd : decide (q < T.size) = true := by simp; omega
  clear hF hlen hFl
  have hq1 : (1 : Int) ≤ (q : Int) := by omega
  have hq2 : (q : Int) - 1 ≤ (q : Int) := by omega
  have hq3 : (q : Int) - 1 ≤ (T.size : Int) := by omega
  have hq4 : decide (0 < q) = true := by simp; omega
  have hb' : Below w4.heap.size w4 w5 := ((Below.refl _ _).alloc (Nat.le_refl _) _).trans (hb.mono (by simp))
  replace B : Below w.heap.size w w5 := B.trans (hb'.mono B.size)
  clear hb hb' kz ka kb kc kf kg kh
  go_wp2_with fail
  have BW := B.alloc B.size (.cells #[.string F, .int .i64 (q : Int), .int .i64 R] 32)
  have U := One.made w5 (.string F) (.int .i64 (q : Int)) (.int .i64 R) 32
  obtain ⟨kz, ka, kb, kc, kf, kg, kh⟩ := U
  obtain ⟨n5, hn⟩ : ∃ x, x = w5.heap.size := ⟨_, rfl⟩
  rw [← hn] at ka kb kc kf kg kh ⊢
  clear hn kz
  generalize w5.alloc (.cells #[.string F, .int .i64 (q : Int), .int .i64 R] 32) = W at *
  go_quiet (fail)
  go_wp2_with fail
  go_ret
  exact ⟨rfl, below_drewN BW _⟩

set_option maxHeartbeats 1000000 in
theorem torn_whole (R : Int) (s : ByteArray) (k : Int) (b : UInt8) (hs : s.size ≤ 65536) (h0 : 0 ≤ R) (h1 : R ≤ 1048576) (hR : (s.size : Int) + 4 ≤ R) (q : Nat) (hq0 : 0 < q) (hk : (q : Int) = min k ((s.size : Int) + 4)) (hge : (q : Int) = (s.size : Int) + 4) (w : World) :
    Calls Try.prog 9 #[.int .i64 R, .string s, .int .i64 k, .int .u8 (b.toNat : Int)] w fun e w' => e = .returned (.bool true) ∧ Below w.heap.size w w' := by
  have HK := Lib.hid hk
  have HG := Lib.hid hge
  clear hge
  have hqb : (q : Int) ≤ (s.size : Int) + 4 ∧ (q : Int) ≤ k ∧ 0 < k := by omega
  obtain ⟨hqb1, hqb2, hqb3⟩ := hqb
  clear hk
  have ht4 : (top4 (crc s.data.toList)).length ≤ 4 := Nat.le_refl 4
  have hTs : (s ++ ⟨(top4 (crc s.data.toList)).toArray⟩ : ByteArray).size = s.size + 4 := by rw [ByteArray.size_append']; rfl
  have hTl := Lib.hid (show (s ++ ⟨(top4 (crc s.data.toList)).toArray⟩ : ByteArray).data.toList = s.data.toList ++ top4 (crc s.data.toList) by simp)
  have hsi : (s.size : Int) ≤ 65536 := by omega
  go_enter Try.func9, Try.ntmps9
  go_wp2_with fail
  refine (begins_any _).mono ?_
  rintro e w1 ⟨rfl, B⟩
  go_wp2_with fail
  refine (new_ok R (by omega) _).mono ?_
  rintro e w2 ⟨rfl, hb⟩
  replace B : Below w.heap.size w w2 := B.trans (hb.mono B.size)
  clear hb
  go_wp2_with fail
  refine (bytes_any _ _ (by omega)).mono ?_
  rintro e w3 ⟨rfl, hb⟩
  have hb' : Below w2.heap.size w2 w3 := ((Below.refl _ _).alloc (Nat.le_refl _) _).trans (hb.mono (by simp))
  have T2 := (One.made w2 _ _ _ _).below (by simp) hb
  have B' := B
  replace B : Below w.heap.size w w3 := B'.trans (hb'.mono B'.size)
  obtain ⟨n2, hn⟩ : ∃ x, x = w2.heap.size := ⟨_, rfl⟩
  rw [← hn] at T2 ⊢
  clear hb hb' B' hn
  have q2 := T2.size
  have ht2 := T2
  obtain ⟨kz, ka, kb, kc, kf, kg, kh⟩ := T2
  go_wp2_with fail
  have HTs := Lib.hid hTs
  clear hTs
  generalize s ++ ⟨(top4 (crc s.data.toList)).toArray⟩ = T at *
  refine (t_write T R (by have := HTs.out; omega) (by omega) _).mono ?_
  rintro e w4 ⟨rfl, hb⟩
  have T2 := ht2.below ht2.size hb
  replace B : Below w.heap.size w w4 := B.trans (hb.mono B.size)
  clear hb ht2 kz ka kb kc kf kg kh
  have q2 := T2.size
  have hTi : (4 : Int) ≤ (T.size : Int) := by have := HTs.out; omega
  have hT0 : 0 < T.size := by omega
  have hqT : q ≤ T.size := by have := HTs.out; omega
  have hmx : ∀ W, (Builtin.max_ #[3, 3] 3 #[.int .i64 k, .int .i64 0]).run Try.prog W = .ok (.int .i64 k) W := fun W => by rw [run_max_int2]; congr 2; split <;> (first | rfl | omega)
  have hmn : ∀ W, (Builtin.min_ #[3, 3] 3 #[.int .i64 k, .int .i64 (T.size : Int)]).run Try.prog W = .ok (.int .i64 (q : Int)) W := fun W => by rw [run_min_int2]; congr 2; have := HTs.out; have := HK.out; split <;> omega
  clear q2
  obtain ⟨kz, ka, kb, kc, kf, kg, kh⟩ := T2
  go_wp2_with fail
  refine (t_fail T q R k b (by have := HTs.out; omega) (by omega) hq0 hqT (by have := HTs.out; have := HK.out; omega) _).mono ?_
  rintro e w5 ⟨rfl, hb⟩
  have hlen : (lastXor (T.data.toList.take q) b).length = q := by rw [lastXor_length]; simp; omega
  obtain ⟨F, hF⟩ : ∃ F : ByteArray, F = ⟨(lastXor (T.data.toList.take q) b).toArray⟩ := ⟨_, rfl⟩
  have hFs : F.size = q := by rw [hF, ByteArray.size_mk', List.size_toArray, hlen]
  have hFl : F.data.toList = lastXor (T.data.toList.take q) b := by rw [hF]
  have hE := torn_head T q b hqT F hFl
  rw [← hF]
  have HFL := Lib.hid hFl
  have hqge : T.size ≤ q := by have := HTs.out; have := HG.out; omega
  have hqd : decide (q < T.size) = false := by simp; omega
  clear hF hlen hFl
  have hq1 : (1 : Int) ≤ (q : Int) := by omega
  have hq2 : (q : Int) - 1 ≤ (q : Int) := by omega
  have hq3 : (q : Int) - 1 ≤ (T.size : Int) := by omega
  have hq4 : decide (0 < q) = true := by simp; omega
  have hb' : Below w4.heap.size w4 w5 := ((Below.refl _ _).alloc (Nat.le_refl _) _).trans (hb.mono (by simp))
  replace B : Below w.heap.size w w5 := B.trans (hb'.mono B.size)
  clear hb hb' kz ka kb kc kf kg kh
  go_wp2_with fail
  have BW := B.alloc B.size (.cells #[.string F, .int .i64 (q : Int), .int .i64 R] 32)
  have U := One.made w5 (.string F) (.int .i64 (q : Int)) (.int .i64 R) 32
  obtain ⟨kz, ka, kb, kc, kf, kg, kh⟩ := U
  obtain ⟨n5, hn⟩ : ∃ x, x = w5.heap.size := ⟨_, rfl⟩
  rw [← hn] at ka kb kc kf kg kh ⊢
  clear hn kz
  generalize w5.alloc (.cells #[.string F, .int .i64 (q : Int), .int .i64 R] 32) = W at *
  go_quiet (fail)
  go_wp2_with fail
  refine (good_any F _ (by omega)).mono ?_
  rintro e w6 ⟨rfl, rfl⟩
  go_wp2_with fail
  go_ret
  refine ⟨congrArg (fun c => Ending.returned (Value.bool c)) (?_ : (good F.data.toList == ((b.toNat : Int) == 0)) = true), below_drewN BW _⟩
  have hx : T.data.toList.take q = s.data.toList ++ top4 (crc s.data.toList) := by
    rw [List.take_of_length_le (by simp; omega)]
    exact hTl.out
  rw [HFL.out, hx, torn_good, beq_iff_eq, Bool.eq_iff_iff, decide_eq_true_eq, beq_iff_eq]
  constructor
  · intro h; rw [h]; rfl
  · intro h; apply UInt8.toNat_inj.1; have : (0 : UInt8).toNat = 0 := rfl; omega

theorem torn_top (R : Int) (wR : (Lit.int .i64 R).wf = true) (s : ByteArray) (ws : s.size ≤ maxLen) (k : Int) (wk : (Lit.int .i64 k).wf = true) (bb : Int) (wb : (Lit.int .u8 bb).wf = true) (w : World) :
    Calls Try.prog 9 #[.int .i64 R, .string s, .int .i64 k, .int .u8 bb] w fun e w' => e = .returned (.bool true) ∧ Below w.heap.size w w' := by
  obtain ⟨b, rfl⟩ := u8_of bb wb
  by_cases hs : s.size ≤ 65536
  · by_cases hR : 0 ≤ R ∧ R ≤ 1048576
    · obtain ⟨h0, h1⟩ := hR
      by_cases hf : R < (s.size : Int) + 4
      · exact torn_full R s k b hs h0 h1 hf w
      · by_cases hk : k ≤ 0
        · exact torn_none R s k b hs h0 h1 (by omega) hk w
        · by_cases hq : k < (s.size : Int) + 4
          · exact torn_some R s k b hs h0 h1 (by omega) k.toNat (by omega) (by omega) (by omega) w
          · exact torn_whole R s k b hs h0 h1 (by omega) (s.size + 4) (by omega) (by omega) (by omega) w
    · exact torn_range R s k b hs (by omega) w
  · exact torn_long R s k b (by omega) w
end Torn
end Go.Proofs.Ytobdllfddmeicaa
