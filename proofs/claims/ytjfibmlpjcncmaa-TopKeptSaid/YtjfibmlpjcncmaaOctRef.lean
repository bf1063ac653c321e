/- The walk of the document's GetNum. -/
import Derived.Test.YtjfibmlpjcncmaaOctNum
import Derived.Lib.Strings
namespace Go.Proofs.Ytjfibmlpjcncmaa
open Go.RowKit
set_option linter.unusedVariables false
set_option maxRecDepth 4000
namespace Oct

def val : List UInt8 → Nat
  | [] => 0
  | b :: t => b.toNat % 128 + 128 * val t

theorem val_append (l : List UInt8) (b : UInt8) : val (l ++ [b]) = val l + b.toNat % 128 * 128 ^ l.length := by
  induction l with
  | nil => simp [val]
  | cons c l ih =>
    rw [List.cons_append, val, val, ih, List.length_cons, Nat.pow_succ, Nat.mul_add, ← Nat.add_assoc]
    congr 1
    rw [← Nat.mul_assoc, Nat.mul_comm 128, Nat.mul_assoc, Nat.mul_comm 128]

theorem canon (pre : List UInt8) : ∀ (b : UInt8) (f : Nat), (∀ c ∈ pre, 128 ≤ c.toNat) → b.toNat < 128 → pre.length ≤ f → (putF f (val (pre ++ [b])) = pre ++ [b] ↔ ¬ (b.toNat = 0 ∧ 0 < pre.length)) := by
  induction pre with
  | nil =>
    intro b f _ hb _
    have hv : val ([] ++ [b]) = b.toNat := by simp [val]; omega
    rw [hv]
    have : putF f b.toNat = [b] := by
      have he : UInt8.ofNat b.toNat = b := by simp
      cases f with
      | zero => rw [putF, he]
      | succ f => rw [putF, if_neg (by omega), he]
    rw [this]; simp
  | cons c pre ih =>
    intro b f hc hb hf
    obtain ⟨f', rfl⟩ : ∃ f', f = f' + 1 := ⟨f - 1, by simp at hf; omega⟩
    have h := ih b f' (fun d hd => hc d (by simp [hd])) hb (by simp at hf; omega)
    have hc1 := hc c (by simp)
    have hc2 := c.toNat_lt
    have ha := val_append pre b
    rw [List.cons_append, val]
    generalize hV : val (pre ++ [b]) = V at *
    rw [putF]
    by_cases hV0 : V = 0
    · rw [if_neg (by omega)]
      have hp : 0 < 128 ^ pre.length := Nat.pow_pos (by omega)
      have hb0 : b.toNat = 0 := by
        rcases Nat.eq_zero_or_pos b.toNat with h0 | h0
        · exact h0
        · have := Nat.mul_le_mul_left (b.toNat % 128) hp
          have : 0 < b.toNat % 128 * 128 ^ pre.length := Nat.mul_pos (by omega) hp
          omega
      constructor
      · intro hh; have := congrArg List.length hh; simp at this
      · intro hh; exact absurd ⟨hb0, by simp⟩ hh
    · rw [if_pos (by omega), show (c.toNat % 128 + 128 * V) % 128 + 128 = c.toNat by omega, show (c.toNat % 128 + 128 * V) / 128 = V by omega, show UInt8.ofNat c.toNat = c by simp]
      rw [List.cons.injEq, h]
      constructor
      · rintro ⟨-, hh⟩ ⟨h1, -⟩
        refine hh ⟨h1, ?_⟩
        rcases Nat.eq_zero_or_pos pre.length with h0 | h0
        · rw [List.length_eq_zero_iff.1 h0] at ha hV; simp [h1, val] at ha; omega
        · exact h0
      · intro hh; exact ⟨rfl, fun h' => hh ⟨h'.1, by simp⟩⟩

/-- the document's test of the bytes -/
theorem canon_at (l : List UInt8) (k : Nat) (hk : k < l.length) (h7 : k < 7) (hall : ∀ c ∈ l.take k, 128 ≤ c.toNat) (hb : (l[k]).toNat < 128) (acc : Nat) (hacc : acc = val (l.take k)) :
    putL (acc + (l[k]).toNat % 128 * 128 ^ k) = l.take (k + 1) ↔ ¬ ((l[k]).toNat = 0 ∧ 0 < k) := by
  have hlen : (l.take k).length = k := by simp; omega
  have h := canon (l.take k) (l[k]) 10 hall hb (by omega)
  rw [val_append, hlen, ← hacc] at h
  rw [List.take_succ_eq_append_getElem hk]
  exact h

/-- one round's numbers, by a unit -/
theorem gn_unit (k acc u : Nat) (b : UInt8) (hk : k < 7) (ha : acc < 128 ^ k) (hu : u = 128 ^ k) : ∃ y z : Nat, (z : Int) < 562949953421312 ∧ (u : Int) ≤ 4398046511104 ∧ z = acc + b.toNat % 128 * 128 ^ k ∧ z < 128 ^ (k + 1) ∧ u * 128 = 128 ^ (k + 1) ∧
    IntKind.u64.wrap ((b.toNat : Int) % 128 * (u : Int)) = (y : Int) ∧ (acc : Int) + (y : Int) = (z : Int) := by
  have hb := b.toNat_lt
  have hp : (128 : Nat) ^ k ≤ 128 ^ 6 := Nat.pow_le_pow_right (by omega) (by omega)
  have hp6 : (128 : Nat) ^ 6 = 4398046511104 := by decide
  have hy : b.toNat % 128 * 128 ^ k ≤ 127 * 128 ^ k := Nat.mul_le_mul_right _ (by omega)
  have hz : acc + b.toNat % 128 * 128 ^ k < 128 ^ (k + 1) := by rw [Nat.pow_succ]; omega
  refine ⟨b.toNat % 128 * 128 ^ k, acc + b.toNat % 128 * 128 ^ k, by omega, by omega, rfl, hz, by rw [hu, Nat.pow_succ], ?_, by push_cast; rfl⟩
  rw [hu, show (b.toNat : Int) % 128 * ((128 ^ k : Nat) : Int) = ((b.toNat % 128 * 128 ^ k : Nat) : Int) by push_cast; rfl, IntKind.wrap_u64]
  omega

theorem cmp_take (a l : List UInt8) (n : Nat) : (a == ((⟨l.toArray⟩ : ByteArray).extract 0 n).toList) = decide (a = l.take n) := by
  rw [Lib.extract_toList, List.drop_zero, Nat.sub_zero, Bool.eq_iff_iff]
  simp

set_option maxHeartbeats 1000000 in
theorem refGetNum_any (l : List UInt8) (w : World) :
    Calls Try.prog 18 #[.string ⟨l.toArray⟩] w fun e w' => e = .returned (.tuple #[.int .u64 ((getNum l).1 : Int), .int .i64 ((getNum l).2.1 : Int), .int .i64 ((getNum l).2.2 : Int)]) ∧ Below w.heap.size w w' := by
  go_enter Try.func18, Try.ntmps18
  go_wp2
  go_loopw [5, 6, 7] (fun n u i wr => ∃ (k acc un : Nat), k ≤ 7 ∧ k ≤ l.length ∧ n = .int .u64 (acc : Int) ∧ u = .int .u64 (un : Int) ∧ i = .int .i64 (k : Int) ∧ wr = w ∧ Hid (un = 128 ^ k) ∧ Hid (acc < 128 ^ k) ∧ Hid (acc = val (l.take k)) ∧ Hid (∀ c ∈ l.take k, 128 ≤ c.toNat) ∧ Hid (gn (7 - k) k acc (l.drop k) = getNum l)) (fun _ _ i _ => 8 - (intOf i).toNat)
  case atStart => exact ⟨0, 0, 1, by omega, by omega, rfl, rfl, rfl, rfl, Lib.hid rfl, Lib.hid (by simp), Lib.hid (by simp [val]), Lib.hid (by simp), Lib.hid rfl⟩
  case round =>
    obtain ⟨k, acc, un, hk, hkl, rfl, rfl, rfl, rfl, HU, HA, HV, HC, HG⟩ := hrel
    by_cases hend : k < 7 ∧ k < l.length
    · obtain ⟨hk7, hkl'⟩ := hend
      have hk7i : (k : Int) < 7 := by omega
      have hkli : (k : Int) < (l.length : Int) := by omega
      obtain ⟨b, hb⟩ : ∃ b, l[k]'hkl' = b := ⟨_, rfl⟩
      obtain ⟨y, z, hz, hun, ez, hzp, hu1, h1, h2⟩ := gn_unit k acc un b hk7 HA.out HU.out
      have HZ := Lib.hid hzp
      have HU1 := Lib.hid hu1
      have HE := Lib.hid (show 7 - k = (7 - (k+1)) + 1 by omega)
      have HD := Lib.hid (show l.drop k = b :: l.drop (k + 1) by rw [← hb]; exact List.drop_eq_getElem_cons hkl')
      have HT := Lib.hid (show l.take (k + 1) = l.take k ++ [b] by rw [← hb]; exact List.take_succ_eq_append_getElem hkl')
      have HCan : Hid (b.toNat < 128 → (putL z = l.take (k + 1) ↔ ¬ (b.toNat = 0 ∧ 0 < k))) := Lib.hid (fun h => by rw [ez, ← hb]; exact canon_at l k hkl' hk7 HC.out (by rw [hb]; exact h) acc HV.out)
      have HZV : Hid (z = val (l.take (k + 1))) := by
        rw [HT.out, val_append, ← HV.out, ez]; exact Lib.hid (by simp; rw [Nat.min_eq_left hkl])
      have EZ := Lib.hid ez
      have hw1 : IntKind.u64.wrap (z : Int) = (z : Int) := by rw [IntKind.wrap_u64]; omega
      obtain ⟨u2, hu2⟩ : ∃ u2, u2 = un * 128 := ⟨_, rfl⟩
      have hw2 : IntKind.u64.wrap ((un : Int) * 128) = (u2 : Int) := by rw [IntKind.wrap_u64, hu2]; omega
      have HU2 := Lib.hid (show u2 = 128 ^ (k + 1) by rw [hu2, hu1])
      clear ez hzp hu1 hz hun hu2 HU1
      have hbl := b.toNat_lt
      have hbk : ∀ h, (⟨l.toArray⟩ : ByteArray)[k]'h = b := fun _ => hb
      have hG := HG.out
      rw [HE.out, HD.out, gn, ← EZ.out] at hG
      have HG2 := Lib.hid hG
      clear hG
      by_cases hb1 : 128 ≤ b.toNat
      · have hbi : (128 : Int) ≤ (b.toNat : Int) := by omega
        go_wp2
        have hG := HG2.out
        rw [if_pos hb1] at hG
        go_round
        case rel =>
          refine ⟨k + 1, z, u2, by omega, by omega, rfl, rfl, rfl, trivial, HU2, HZ, HZV, Lib.hid fun c hc => ?_, Lib.hid hG⟩
          rw [HT.out] at hc
          rcases List.mem_append.1 hc with h | h
          · exact HC.out c h
          · rw [List.mem_singleton] at h; rw [h]; exact hb1
        case measure => simp [intOf]; omega
      · have hbi : (b.toNat : Int) < 128 := by omega
        have hG := HG2.out
        rw [if_neg hb1] at hG
        have hcan := HCan.out (by omega)
        have HCan := Lib.hid hcan
        clear hcan
        by_cases hbig0 : (281474976710656 : Int) < (z : Int)
        · rw [if_pos (Or.inr (by omega))] at hG
          have HG3 := Lib.hid hG
          have HB := Lib.hid hbig0
          clear hG hbig0
          go_wp2_with fail
          refine (refNum_bad z HB.out _).mono ?_
          rintro e w1 ⟨rfl, rfl⟩
          go_wp2
          go_ret3
          rw [← HG3.out]
          exact ⟨rfl, Below.refl _ _⟩
        · have HB := Lib.hid hbig0
          by_cases hz0 : b.toNat = 0 ∧ 0 < k
          · rw [if_pos (Or.inl hz0)] at hG
            have HG3 := Lib.hid hG
            have hne : putL z ≠ l.take (k + 1) := fun h => HCan.out.1 h hz0
            have hcmp : (putL z == ((⟨l.toArray⟩ : ByteArray).extract 0 (k + 1)).toList) = false := by rw [cmp_take]; exact decide_eq_false hne
            clear hG hbig0 hz0 hne
            go_wp2_with fail
            refine (refNum_ok z (by have := HB.out; omega) _).mono ?_
            rintro e w1 ⟨rfl, hbw⟩
            go_wp2
            go_ret3
            rw [← HG3.out]
            exact ⟨rfl, hbw⟩
          · rw [if_neg (by omega)] at hG
            have HG3 := Lib.hid hG
            have hne : putL z = l.take (k + 1) := HCan.out.2 hz0
            have hcmp : (putL z == ((⟨l.toArray⟩ : ByteArray).extract 0 (k + 1)).toList) = true := by rw [cmp_take]; exact decide_eq_true hne
            clear hG hbig0 hz0 hne
            go_wp2_with fail
            refine (refNum_ok z (by have := HB.out; omega) _).mono ?_
            rintro e w1 ⟨rfl, hbw⟩
            go_wp2
            go_ret3
            rw [← HG3.out]
            exact ⟨rfl, hbw⟩
    · have hG := HG.out
      by_cases hk7 : k = 7
      · subst hk7
        rw [gn] at hG
        have HG3 := Lib.hid hG
        clear hG hend
        by_cases hlt : 7 < l.length
        · go_wp2
          go_ret3
          rw [← HG3.out]
          exact ⟨rfl, Below.refl _ _⟩
        · have hll : (l.length : Int) = 7 := by omega
          go_wp2
          go_ret3
          rw [← HG3.out]
          exact ⟨rfl, Below.refl _ _⟩
      · have hkl' : k = l.length := by omega
        have hk7i : (k : Int) < 7 := by omega
        subst hkl'
        rw [show 7 - l.length = (6 - l.length) + 1 by omega, List.drop_length, gn] at hG
        have HG3 := Lib.hid hG
        clear hG hend
        go_wp2
        go_ret3
        rw [← HG3.out]
        exact ⟨rfl, Below.refl _ _⟩
end Oct
end Go.Proofs.Ytjfibmlpjcncmaa
