/- Joined of 2 texts: their lemmas, one behind the other; each says below what it holds. -/
import Derived.Test.YtbgjoefpnjgdkaaDoorJ01
import Derived.Lib.Strings
/- The walks of the document's Num and of octet.GetNum. -/
namespace Go.Proofs.YtbgjoefpnjgdkaaDoor
open Go.RowKit
set_option linter.unusedVariables false
set_option maxRecDepth 4000
namespace Oct

theorem ba_app (a b : List UInt8) : (⟨a.toArray⟩ : ByteArray) ++ ⟨b.toArray⟩ = ⟨(a ++ b).toArray⟩ := ByteArray.ext (by simp)

/-- a row of one byte, made anew, reads back -/
theorem conv_one (w : World) (z : Int) (b : UInt8) (hz : z = (b.toNat : Int)) :
    Sem.run Tryd.prog (convert 96 9 (.slice (some ⟨w.heap.size, 0, none⟩) 1 1)) (w.alloc (.cells #[.int .u8 z] 5)) = .ok (.string ⟨#[b]⟩) (w.alloc (.cells #[.int .u8 z] 5)) := by
  subst hz
  refine run_convert_bytes_back (P := Tryd.prog) _ 96 9 5 ⟨w.heap.size, 0, none⟩ 1 [b] Tryd.underlying96 Tryd.underlying5 Tryd.underlying9 fun j hj => ?_
  exact cell_one_new _ _ _ j _ (by cases j with
    | zero => rfl
    | succ j => simp at hj)

/-- the number that bytes begin with: the number, how many bytes, and why not -/
def gn : Nat → Nat → Nat → List UInt8 → Nat × Nat × Nat
  | 0, _, _, _ => (0, 0, 6)
  | _ + 1, _, _, [] => (0, 0, 5)
  | f + 1, i, acc, b :: t =>
    if 128 ≤ b.toNat then gn f (i + 1) (acc + b.toNat % 128 * 128 ^ i) t
    else if (b.toNat = 0 ∧ 0 < i) ∨ 281474976710656 < acc + b.toNat % 128 * 128 ^ i then (0, 0, 6)
    else (acc + b.toNat % 128 * 128 ^ i, i + 1, 0)
def getNum (l : List UInt8) : Nat × Nat × Nat := gn 7 0 0 l

theorem or_shift (i n b : Nat) (h : n < 128 ^ i) : n ||| (b <<< (7 * i)) = n + b * 128 ^ i := by
  have e : (128 : Nat) ^ i = 2 ^ (7 * i) := by rw [Nat.pow_mul]
  rw [e] at h ⊢
  rw [Nat.or_comm, Nat.shiftLeft_eq, Nat.mul_comm, ← Nat.two_pow_add_eq_or_of_lt h, Nat.add_comm]

/-- one round's numbers -/
theorem gn_round (k acc : Nat) (b : UInt8) (hk : k < 7) (ha : acc < 128 ^ k) : ∃ x y z : Nat, x < 128 ∧ (z : Int) < 562949953421312 ∧ x = b.toNat % 128 ∧ z = acc + b.toNat % 128 * 128 ^ k ∧ z < 128 ^ (k + 1) ∧
    bits .and .u8 (b.toNat : Int) 127 = (x : Int) ∧ IntKind.u64.wrap ((x : Int) * 2 ^ (7 * k)) = (y : Int) ∧ bits .or .u64 (acc : Int) (y : Int) = (z : Int) := by
  have hb := b.toNat_lt
  have hp : (128 : Nat) ^ k ≤ 128 ^ 6 := Nat.pow_le_pow_right (by omega) (by omega)
  have hp6 : (128 : Nat) ^ 6 = 4398046511104 := by decide
  have e : (128 : Nat) ^ k = 2 ^ (7 * k) := by rw [Nat.pow_mul]
  have hx : b.toNat % 128 < 128 := Nat.mod_lt _ (by omega)
  have hy : b.toNat % 128 * 128 ^ k ≤ 127 * 128 ^ k := Nat.mul_le_mul_right _ (by omega)
  have hz : acc + b.toNat % 128 * 128 ^ k < 128 ^ (k + 1) := by rw [Nat.pow_succ]; omega
  refine ⟨b.toNat % 128, b.toNat % 128 * 128 ^ k, acc + b.toNat % 128 * 128 ^ k, hx, ?_, rfl, rfl, hz, ?_, ?_, ?_⟩
  · omega
  · rw [show (127 : Int) = ((127 : Nat) : Int) from rfl, u8_and_nat _ _ (by omega) (by omega), show (127 : Nat) = 2 ^ 7 - 1 from rfl, Nat.and_two_pow_sub_one_eq_mod]
  · rw [show ((b.toNat % 128 : Nat) : Int) * 2 ^ (7 * k) = ((b.toNat % 128 * 128 ^ k : Nat) : Int) by rw [e]; push_cast; rfl, IntKind.wrap_u64]
    omega
  · rw [u64_or_nat _ _ (by omega) (by omega)]
    congr 1
    have h := or_shift k acc (b.toNat % 128) ha
    rw [Nat.shiftLeft_eq, ← e] at h
    exact h

set_option maxHeartbeats 1000000 in
theorem getNum_any (l : List UInt8) (w : World) :
    Calls Tryd.prog 62 #[.string ⟨l.toArray⟩] w fun e w' => e = .returned (.tuple #[.int .u64 ((getNum l).1 : Int), .int .i64 ((getNum l).2.1 : Int), .int .i64 ((getNum l).2.2 : Int)]) ∧ w = w' := by
  go_enter Tryd.func62, Tryd.ntmps62
  go_wp2
  all_goals
    go_loop [5, 11] (fun n i => ∃ (k acc : Nat), k ≤ 7 ∧ k ≤ l.length ∧ n = .int .u64 (acc : Int) ∧ i = .int .i64 (k : Int) ∧ Hid (acc < 128 ^ k) ∧ Hid (gn (7 - k) k acc (l.drop k) = getNum l)) (fun _ i => 7 - (intOf i).toNat)
    case atStart => exact ⟨0, 0, by omega, by omega, rfl, rfl, Lib.hid (by simp), Lib.hid rfl⟩
    case round =>
      obtain ⟨k, acc, hk, hkl, rfl, rfl, HA, HG⟩ := hrel
      by_cases hend : k < 7 ∧ k < l.length
      · obtain ⟨hk7, hkl'⟩ := hend
        have hk7i : (k : Int) < 7 := by omega
        have hkli : (k : Int) < (l.length : Int) := by omega
        obtain ⟨b, hb⟩ : ∃ b, l[k]'hkl' = b := ⟨_, rfl⟩
        obtain ⟨x, y, z, hx, hz, ex, ez, hzp, h1, h2, h3⟩ := gn_round k acc b hk7 HA.out
        have HZ := Lib.hid hzp
        have HE := Lib.hid (show 7 - k = (7 - (k+1)) + 1 by omega)
        have HD := Lib.hid (show l.drop k = b :: l.drop (k + 1) by rw [← hb]; exact List.drop_eq_getElem_cons hkl')
        have EX := Lib.hid ex
        have EZ := Lib.hid ez
        clear ex ez hz hzp
        have hbl := b.toNat_lt
        have hbk : ∀ h, (⟨l.toArray⟩ : ByteArray)[k]'h = b := fun _ => hb
        have hG := HG.out
        rw [HE.out, HD.out, gn, ← EZ.out] at hG
        have HG2 := Lib.hid hG
        clear hG
        by_cases hb1 : 128 ≤ b.toNat
        · have hbi : (128 : Int) ≤ (b.toNat : Int) := by omega
          go_wp2
          have hG := HG2.out
          rw [if_pos hb1] at hG
          refine ⟨⟨k + 1, z, by omega, by omega, rfl, rfl, HZ, Lib.hid hG⟩, by simp [intOf]; omega⟩
        · have hbi : (b.toNat : Int) < 128 := by omega
          have hG := HG2.out
          rw [if_neg hb1] at hG
          by_cases hz0 : b.toNat = 0 ∧ 0 < k
          · obtain ⟨hb0, hk0⟩ := hz0
            rw [if_pos (Or.inl ⟨hb0, hk0⟩)] at hG
            have hb0i : (b.toNat : Int) = 0 := by omega
            go_wp2
            go_ret3
            rw [← hG]
            exact ⟨rfl, rfl⟩
          · by_cases hbig0 : (281474976710656 : Int) < (z : Int)
            · rw [if_pos (Or.inr (by omega))] at hG
              have hbig : decide ((281474976710656 : Int) < (z : Int)) = true := decide_eq_true hbig0
              clear hbig0
              by_cases hk0 : 0 < k
              · have hb0 : ¬ b.toNat = 0 := by omega
                go_wp2
                go_ret3
                rw [← hG]
                exact ⟨rfl, rfl⟩
              · have hk0 : k = 0 := by omega
                subst hk0
                have hyx : y = x := by
                  rw [IntKind.wrap_u64] at h2
                  simp at h2
                  omega
                subst hyx
                clear h2 hz0
                go_wp2
                all_goals
                  go_ret3
                  rw [← hG]
                  exact ⟨rfl, rfl⟩
            · rw [if_neg (by omega)] at hG
              have hbig : decide ((281474976710656 : Int) < (z : Int)) = false := decide_eq_false hbig0
              clear hbig0
              by_cases hk0 : 0 < k
              · have hb0 : ¬ b.toNat = 0 := by omega
                go_wp2
                go_ret3
                rw [← hG]
                exact ⟨rfl, rfl⟩
              · have hk0 : k = 0 := by omega
                subst hk0
                have hyx : y = x := by
                  rw [IntKind.wrap_u64] at h2
                  simp at h2
                  omega
                subst hyx
                clear h2 hz0
                go_wp2
                all_goals
                  go_ret3
                  rw [← hG]
                  exact ⟨rfl, rfl⟩
      · have hG := HG.out
        by_cases hk7 : k = 7
        · subst hk7
          rw [gn] at hG
          go_wp2
          go_ret3
          rw [← hG]
          exact ⟨rfl, rfl⟩
        · have hkl' : k = l.length := by omega
          have hk7i : (k : Int) < 7 := by omega
          subst hkl'
          rw [show 7 - l.length = (6 - l.length) + 1 by omega, List.drop_length, gn] at hG
          first
            | (exfalso; omega)
            | (go_wp2; go_ret3; rw [← hG]; exact ⟨rfl, rfl⟩)
end Oct
end Go.Proofs.YtbgjoefpnjgdkaaDoor
/- The walk of the document's GetNum. -/
namespace Go.Proofs.YtbgjoefpnjgdkaaDoor
open Go.RowKit
set_option linter.unusedVariables false
set_option maxRecDepth 4000
namespace Oct

def val : List UInt8 → Nat
  | [] => 0
  | b :: t => b.toNat % 128 + 128 * val t

theorem val_append (l : List UInt8) (b : UInt8) : val (l ++ [b]) = val l + b.toNat % 128 * 128 ^ l.length := by
  induction l with
  | nil => simp [val]
  | cons c l ih =>
    rw [List.cons_append, val, val, ih, List.length_cons, Nat.pow_succ, Nat.mul_add, ← Nat.add_assoc]
    congr 1
    rw [← Nat.mul_assoc, Nat.mul_comm 128, Nat.mul_assoc, Nat.mul_comm 128]

theorem canon (pre : List UInt8) : ∀ (b : UInt8) (f : Nat), (∀ c ∈ pre, 128 ≤ c.toNat) → b.toNat < 128 → pre.length ≤ f → (putF f (val (pre ++ [b])) = pre ++ [b] ↔ ¬ (b.toNat = 0 ∧ 0 < pre.length)) := by
  induction pre with
  | nil =>
    intro b f _ hb _
    have hv : val ([] ++ [b]) = b.toNat := by simp [val]; omega
    rw [hv]
    have : putF f b.toNat = [b] := by
      have he : UInt8.ofNat b.toNat = b := by simp
      cases f with
      | zero => rw [putF, he]
      | succ f => rw [putF, if_neg (by omega), he]
    rw [this]; simp
  | cons c pre ih =>
    intro b f hc hb hf
    obtain ⟨f', rfl⟩ : ∃ f', f = f' + 1 := ⟨f - 1, by simp at hf; omega⟩
    have h := ih b f' (fun d hd => hc d (by simp [hd])) hb (by simp at hf; omega)
    have hc1 := hc c (by simp)
    have hc2 := c.toNat_lt
    have ha := val_append pre b
    rw [List.cons_append, val]
    generalize hV : val (pre ++ [b]) = V at *
    rw [putF]
    by_cases hV0 : V = 0
    · rw [if_neg (by omega)]
      have hp : 0 < 128 ^ pre.length := Nat.pow_pos (by omega)
      have hb0 : b.toNat = 0 := by
        rcases Nat.eq_zero_or_pos b.toNat with h0 | h0
        · exact h0
        · have := Nat.mul_le_mul_left (b.toNat % 128) hp
          have : 0 < b.toNat % 128 * 128 ^ pre.length := Nat.mul_pos (by omega) hp
          omega
      constructor
      · intro hh; have := congrArg List.length hh; simp at this
      · intro hh; exact absurd ⟨hb0, by simp⟩ hh
    · rw [if_pos (by omega), show (c.toNat % 128 + 128 * V) % 128 + 128 = c.toNat by omega, show (c.toNat % 128 + 128 * V) / 128 = V by omega, show UInt8.ofNat c.toNat = c by simp]
      rw [List.cons.injEq, h]
      constructor
      · rintro ⟨-, hh⟩ ⟨h1, -⟩
        refine hh ⟨h1, ?_⟩
        rcases Nat.eq_zero_or_pos pre.length with h0 | h0
        · rw [List.length_eq_zero_iff.1 h0] at ha hV; simp [h1, val] at ha; omega
        · exact h0
      · intro hh; exact ⟨rfl, fun h' => hh ⟨h'.1, by simp⟩⟩

/-- the document's test of the bytes -/
theorem canon_at (l : List UInt8) (k : Nat) (hk : k < l.length) (h7 : k < 7) (hall : ∀ c ∈ l.take k, 128 ≤ c.toNat) (hb : (l[k]).toNat < 128) (acc : Nat) (hacc : acc = val (l.take k)) :
    putL (acc + (l[k]).toNat % 128 * 128 ^ k) = l.take (k + 1) ↔ ¬ ((l[k]).toNat = 0 ∧ 0 < k) := by
  have hlen : (l.take k).length = k := by simp; omega
  have h := canon (l.take k) (l[k]) 10 hall hb (by omega)
  rw [val_append, hlen, ← hacc] at h
  rw [List.take_succ_eq_append_getElem hk]
  exact h

/-- one round's numbers, by a unit -/
theorem gn_unit (k acc u : Nat) (b : UInt8) (hk : k < 7) (ha : acc < 128 ^ k) (hu : u = 128 ^ k) : ∃ y z : Nat, (z : Int) < 562949953421312 ∧ (u : Int) ≤ 4398046511104 ∧ z = acc + b.toNat % 128 * 128 ^ k ∧ z < 128 ^ (k + 1) ∧ u * 128 = 128 ^ (k + 1) ∧
    IntKind.u64.wrap ((b.toNat : Int) % 128 * (u : Int)) = (y : Int) ∧ (acc : Int) + (y : Int) = (z : Int) := by
  have hb := b.toNat_lt
  have hp : (128 : Nat) ^ k ≤ 128 ^ 6 := Nat.pow_le_pow_right (by omega) (by omega)
  have hp6 : (128 : Nat) ^ 6 = 4398046511104 := by decide
  have hy : b.toNat % 128 * 128 ^ k ≤ 127 * 128 ^ k := Nat.mul_le_mul_right _ (by omega)
  have hz : acc + b.toNat % 128 * 128 ^ k < 128 ^ (k + 1) := by rw [Nat.pow_succ]; omega
  refine ⟨b.toNat % 128 * 128 ^ k, acc + b.toNat % 128 * 128 ^ k, by omega, by omega, rfl, hz, by rw [hu, Nat.pow_succ], ?_, by push_cast; rfl⟩
  rw [hu, show (b.toNat : Int) % 128 * ((128 ^ k : Nat) : Int) = ((b.toNat % 128 * 128 ^ k : Nat) : Int) by push_cast; rfl, IntKind.wrap_u64]
  omega

theorem cmp_take (a l : List UInt8) (n : Nat) : (a == ((⟨l.toArray⟩ : ByteArray).extract 0 n).toList) = decide (a = l.take n) := by
  rw [Lib.extract_toList, List.drop_zero, Nat.sub_zero, Bool.eq_iff_iff]
  simp

end Oct
end Go.Proofs.YtbgjoefpnjgdkaaDoor
