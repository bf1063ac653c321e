/- The walk of the document's GetNum. -/
import Derived.Test.YtbgjoefpnjgdkaaDoorOctNum
import Derived.Lib.Strings
namespace Go.Proofs.YtbgjoefpnjgdkaaDoor
open Go.RowKit
set_option linter.unusedVariables false
set_option maxRecDepth 4000
namespace Oct

def val : List UInt8 → Nat
  | [] => 0
  | b :: t => b.toNat % 128 + 128 * val t

theorem val_append (l : List UInt8) (b : UInt8) : val (l ++ [b]) = val l + b.toNat % 128 * 128 ^ l.length := by
  induction l with
  | nil => simp [val]
  | cons c l ih =>
    rw [List.cons_append, val, val, ih, List.length_cons, Nat.pow_succ, Nat.mul_add, ← Nat.add_assoc]
    congr 1
    rw [← Nat.mul_assoc, Nat.mul_comm 128, Nat.mul_assoc, Nat.mul_comm 128]

theorem canon (pre : List UInt8) : ∀ (b : UInt8) (f : Nat), (∀ c ∈ pre, 128 ≤ c.toNat) → b.toNat < 128 → pre.length ≤ f → (putF f (val (pre ++ [b])) = pre ++ [b] ↔ ¬ (b.toNat = 0 ∧ 0 < pre.length)) := by
  induction pre with
  | nil =>
    intro b f _ hb _
    have hv : val ([] ++ [b]) = b.toNat := by simp [val]; omega
    rw [hv]
    have : putF f b.toNat = [b] := by
      have he : UInt8.ofNat b.toNat = b := by simp
      cases f with
      | zero => rw [putF, he]
      | succ f => rw [putF, if_neg (by omega), he]
    rw [this]; simp
  | cons c pre ih =>
    intro b f hc hb hf
    obtain ⟨f', rfl⟩ : ∃ f', f = f' + 1 := ⟨f - 1, by simp at hf; omega⟩
    have h := ih b f' (fun d hd => hc d (by simp [hd])) hb (by simp at hf; omega)
    have hc1 := hc c (by simp)
    have hc2 := c.toNat_lt
    have ha := val_append pre b
    rw [List.cons_append, val]
    generalize hV : val (pre ++ [b]) = V at *
    rw [putF]
    by_cases hV0 : V = 0
    · rw [if_neg (by omega)]
      have hp : 0 < 128 ^ pre.length := Nat.pow_pos (by omega)
      have hb0 : b.toNat = 0 := by
        rcases Nat.eq_zero_or_pos b.toNat with h0 | h0
        · exact h0
        · have := Nat.mul_le_mul_left (b.toNat % 128) hp
          have : 0 < b.toNat % 128 * 128 ^ pre.length := Nat.mul_pos (by omega) hp
          omega
      constructor
      · intro hh; have := congrArg List.length hh; simp at this
      · intro hh; exact absurd ⟨hb0, by simp⟩ hh
    · rw [if_pos (by omega), show (c.toNat % 128 + 128 * V) % 128 + 128 = c.toNat by omega, show (c.toNat % 128 + 128 * V) / 128 = V by omega, show UInt8.ofNat c.toNat = c by simp]
      rw [List.cons.injEq, h]
      constructor
      · rintro ⟨-, hh⟩ ⟨h1, -⟩
        refine hh ⟨h1, ?_⟩
        rcases Nat.eq_zero_or_pos pre.length with h0 | h0
        · rw [List.length_eq_zero_iff.1 h0] at ha hV; simp [h1, val] at ha; omega
        · exact h0
      · intro hh; exact ⟨rfl, fun h' => hh ⟨h'.1, by simp⟩⟩

/-- the document's test of the bytes -/
theorem canon_at (l : List UInt8) (k : Nat) (hk : k < l.length) (h7 : k < 7) (hall : ∀ c ∈ l.take k, 128 ≤ c.toNat) (hb : (l[k]).toNat < 128) (acc : Nat) (hacc : acc = val (l.take k)) :
    putL (acc + (l[k]).toNat % 128 * 128 ^ k) = l.take (k + 1) ↔ ¬ ((l[k]).toNat = 0 ∧ 0 < k) := by
  have hlen : (l.take k).length = k := by simp; omega
  have h := canon (l.take k) (l[k]) 10 hall hb (by omega)
  rw [val_append, hlen, ← hacc] at h
  rw [List.take_succ_eq_append_getElem hk]
  exact h

/-- one round's numbers, by a unit -/
theorem gn_unit (k acc u : Nat) (b : UInt8) (hk : k < 7) (ha : acc < 128 ^ k) (hu : u = 128 ^ k) : ∃ y z : Nat, (z : Int) < 562949953421312 ∧ (u : Int) ≤ 4398046511104 ∧ z = acc + b.toNat % 128 * 128 ^ k ∧ z < 128 ^ (k + 1) ∧ u * 128 = 128 ^ (k + 1) ∧
    IntKind.u64.wrap ((b.toNat : Int) % 128 * (u : Int)) = (y : Int) ∧ (acc : Int) + (y : Int) = (z : Int) := by
  have hb := b.toNat_lt
  have hp : (128 : Nat) ^ k ≤ 128 ^ 6 := Nat.pow_le_pow_right (by omega) (by omega)
  have hp6 : (128 : Nat) ^ 6 = 4398046511104 := by decide
  have hy : b.toNat % 128 * 128 ^ k ≤ 127 * 128 ^ k := Nat.mul_le_mul_right _ (by omega)
  have hz : acc + b.toNat % 128 * 128 ^ k < 128 ^ (k + 1) := by rw [Nat.pow_succ]; omega
  refine ⟨b.toNat % 128 * 128 ^ k, acc + b.toNat % 128 * 128 ^ k, by omega, by omega, rfl, hz, by rw [hu, Nat.pow_succ], ?_, by push_cast; rfl⟩
  rw [hu, show (b.toNat : Int) % 128 * ((128 ^ k : Nat) : Int) = ((b.toNat % 128 * 128 ^ k : Nat) : Int) by push_cast; rfl, IntKind.wrap_u64]
  omega

theorem cmp_take (a l : List UInt8) (n : Nat) : (a == ((⟨l.toArray⟩ : ByteArray).extract 0 n).toList) = decide (a = l.take n) := by
  rw [Lib.extract_toList, List.drop_zero, Nat.sub_zero, Bool.eq_iff_iff]
  simp

end Oct
end Go.Proofs.YtbgjoefpnjgdkaaDoor
