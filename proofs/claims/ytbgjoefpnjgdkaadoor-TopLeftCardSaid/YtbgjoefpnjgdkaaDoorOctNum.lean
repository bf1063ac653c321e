/- The walks of the document's Num and of octet.GetNum. -/
import Derived.Test.YtbgjoefpnjgdkaaDoorOctPut
namespace Go.Proofs.YtbgjoefpnjgdkaaDoor
open Go.RowKit
set_option linter.unusedVariables false
set_option maxRecDepth 4000
namespace Oct

theorem ba_app (a b : List UInt8) : (⟨a.toArray⟩ : ByteArray) ++ ⟨b.toArray⟩ = ⟨(a ++ b).toArray⟩ := ByteArray.ext (by simp)

/-- a row of one byte, made anew, reads back -/
theorem conv_one (w : World) (z : Int) (b : UInt8) (hz : z = (b.toNat : Int)) :
    Sem.run Tryd.prog (convert 96 9 (.slice (some ⟨w.heap.size, 0, none⟩) 1 1)) (w.alloc (.cells #[.int .u8 z] 5)) = .ok (.string ⟨#[b]⟩) (w.alloc (.cells #[.int .u8 z] 5)) := by
  subst hz
  refine run_convert_bytes_back (P := Tryd.prog) _ 96 9 5 ⟨w.heap.size, 0, none⟩ 1 [b] Tryd.underlying96 Tryd.underlying5 Tryd.underlying9 fun j hj => ?_
  exact cell_one_new _ _ _ j _ (by cases j with
    | zero => rfl
    | succ j => simp at hj)

/-- the number that bytes begin with: the number, how many bytes, and why not -/
def gn : Nat → Nat → Nat → List UInt8 → Nat × Nat × Nat
  | 0, _, _, _ => (0, 0, 6)
  | _ + 1, _, _, [] => (0, 0, 5)
  | f + 1, i, acc, b :: t =>
    if 128 ≤ b.toNat then gn f (i + 1) (acc + b.toNat % 128 * 128 ^ i) t
    else if (b.toNat = 0 ∧ 0 < i) ∨ 281474976710656 < acc + b.toNat % 128 * 128 ^ i then (0, 0, 6)
    else (acc + b.toNat % 128 * 128 ^ i, i + 1, 0)
def getNum (l : List UInt8) : Nat × Nat × Nat := gn 7 0 0 l

theorem or_shift (i n b : Nat) (h : n < 128 ^ i) : n ||| (b <<< (7 * i)) = n + b * 128 ^ i := by
  have e : (128 : Nat) ^ i = 2 ^ (7 * i) := by rw [Nat.pow_mul]
  rw [e] at h ⊢
  rw [Nat.or_comm, Nat.shiftLeft_eq, Nat.mul_comm, ← Nat.two_pow_add_eq_or_of_lt h, Nat.add_comm]

/-- one round's numbers -/
theorem gn_round (k acc : Nat) (b : UInt8) (hk : k < 7) (ha : acc < 128 ^ k) : ∃ x y z : Nat, x < 128 ∧ (z : Int) < 562949953421312 ∧ x = b.toNat % 128 ∧ z = acc + b.toNat % 128 * 128 ^ k ∧ z < 128 ^ (k + 1) ∧
    bits .and .u8 (b.toNat : Int) 127 = (x : Int) ∧ IntKind.u64.wrap ((x : Int) * 2 ^ (7 * k)) = (y : Int) ∧ bits .or .u64 (acc : Int) (y : Int) = (z : Int) := by
  have hb := b.toNat_lt
  have hp : (128 : Nat) ^ k ≤ 128 ^ 6 := Nat.pow_le_pow_right (by omega) (by omega)
  have hp6 : (128 : Nat) ^ 6 = 4398046511104 := by decide
  have e : (128 : Nat) ^ k = 2 ^ (7 * k) := by rw [Nat.pow_mul]
  have hx : b.toNat % 128 < 128 := Nat.mod_lt _ (by omega)
  have hy : b.toNat % 128 * 128 ^ k ≤ 127 * 128 ^ k := Nat.mul_le_mul_right _ (by omega)
  have hz : acc + b.toNat % 128 * 128 ^ k < 128 ^ (k + 1) := by rw [Nat.pow_succ]; omega
  refine ⟨b.toNat % 128, b.toNat % 128 * 128 ^ k, acc + b.toNat % 128 * 128 ^ k, hx, ?_, rfl, rfl, hz, ?_, ?_, ?_⟩
  · omega
  · rw [show (127 : Int) = ((127 : Nat) : Int) from rfl, u8_and_nat _ _ (by omega) (by omega), show (127 : Nat) = 2 ^ 7 - 1 from rfl, Nat.and_two_pow_sub_one_eq_mod]
  · rw [show ((b.toNat % 128 : Nat) : Int) * 2 ^ (7 * k) = ((b.toNat % 128 * 128 ^ k : Nat) : Int) by rw [e]; push_cast; rfl, IntKind.wrap_u64]
    omega
  · rw [u64_or_nat _ _ (by omega) (by omega)]
    congr 1
    have h := or_shift k acc (b.toNat % 128) ha
    rw [Nat.shiftLeft_eq, ← e] at h
    exact h

set_option maxHeartbeats 1000000 in
theorem getNum_any (l : List UInt8) (w : World) :
    Calls Tryd.prog 62 #[.string ⟨l.toArray⟩] w fun e w' => e = .returned (.tuple #[.int .u64 ((getNum l).1 : Int), .int .i64 ((getNum l).2.1 : Int), .int .i64 ((getNum l).2.2 : Int)]) ∧ w = w' := by
  go_enter Tryd.func62, Tryd.ntmps62
  go_wp2
  all_goals
    go_loop [5, 11] (fun n i => ∃ (k acc : Nat), k ≤ 7 ∧ k ≤ l.length ∧ n = .int .u64 (acc : Int) ∧ i = .int .i64 (k : Int) ∧ Hid (acc < 128 ^ k) ∧ Hid (gn (7 - k) k acc (l.drop k) = getNum l)) (fun _ i => 7 - (intOf i).toNat)
    case atStart => exact ⟨0, 0, by omega, by omega, rfl, rfl, Lib.hid (by simp), Lib.hid rfl⟩
    case round =>
      obtain ⟨k, acc, hk, hkl, rfl, rfl, HA, HG⟩ := hrel
      by_cases hend : k < 7 ∧ k < l.length
      · obtain ⟨hk7, hkl'⟩ := hend
        have hk7i : (k : Int) < 7 := by omega
        have hkli : (k : Int) < (l.length : Int) := by omega
        obtain ⟨b, hb⟩ : ∃ b, l[k]'hkl' = b := ⟨_, rfl⟩
        obtain ⟨x, y, z, hx, hz, ex, ez, hzp, h1, h2, h3⟩ := gn_round k acc b hk7 HA.out
        have HZ := Lib.hid hzp
        have HE := Lib.hid (show 7 - k = (7 - (k+1)) + 1 by omega)
        have HD := Lib.hid (show l.drop k = b :: l.drop (k + 1) by rw [← hb]; exact List.drop_eq_getElem_cons hkl')
        have EX := Lib.hid ex
        have EZ := Lib.hid ez
        clear ex ez hz hzp
        have hbl := b.toNat_lt
        have hbk : ∀ h, (⟨l.toArray⟩ : ByteArray)[k]'h = b := fun _ => hb
        have hG := HG.out
        rw [HE.out, HD.out, gn, ← EZ.out] at hG
        have HG2 := Lib.hid hG
        clear hG
        by_cases hb1 : 128 ≤ b.toNat
        · have hbi : (128 : Int) ≤ (b.toNat : Int) := by omega
          go_wp2
          have hG := HG2.out
          rw [if_pos hb1] at hG
          refine ⟨⟨k + 1, z, by omega, by omega, rfl, rfl, HZ, Lib.hid hG⟩, by simp [intOf]; omega⟩
        · have hbi : (b.toNat : Int) < 128 := by omega
          have hG := HG2.out
          rw [if_neg hb1] at hG
          by_cases hz0 : b.toNat = 0 ∧ 0 < k
          · obtain ⟨hb0, hk0⟩ := hz0
            rw [if_pos (Or.inl ⟨hb0, hk0⟩)] at hG
            have hb0i : (b.toNat : Int) = 0 := by omega
            go_wp2
            go_ret3
            rw [← hG]
            exact ⟨rfl, rfl⟩
          · by_cases hbig0 : (281474976710656 : Int) < (z : Int)
            · rw [if_pos (Or.inr (by omega))] at hG
              have hbig : decide ((281474976710656 : Int) < (z : Int)) = true := decide_eq_true hbig0
              clear hbig0
              by_cases hk0 : 0 < k
              · have hb0 : ¬ b.toNat = 0 := by omega
                go_wp2
                go_ret3
                rw [← hG]
                exact ⟨rfl, rfl⟩
              · have hk0 : k = 0 := by omega
                subst hk0
                have hyx : y = x := by
                  rw [IntKind.wrap_u64] at h2
                  simp at h2
                  omega
                subst hyx
                clear h2 hz0
                go_wp2
                all_goals
                  go_ret3
                  rw [← hG]
                  exact ⟨rfl, rfl⟩
            · rw [if_neg (by omega)] at hG
              have hbig : decide ((281474976710656 : Int) < (z : Int)) = false := decide_eq_false hbig0
              clear hbig0
              by_cases hk0 : 0 < k
              · have hb0 : ¬ b.toNat = 0 := by omega
                go_wp2
                go_ret3
                rw [← hG]
                exact ⟨rfl, rfl⟩
              · have hk0 : k = 0 := by omega
                subst hk0
                have hyx : y = x := by
                  rw [IntKind.wrap_u64] at h2
                  simp at h2
                  omega
                subst hyx
                clear h2 hz0
                go_wp2
                all_goals
                  go_ret3
                  rw [← hG]
                  exact ⟨rfl, rfl⟩
      · have hG := HG.out
        by_cases hk7 : k = 7
        · subst hk7
          rw [gn] at hG
          go_wp2
          go_ret3
          rw [← hG]
          exact ⟨rfl, rfl⟩
        · have hkl' : k = l.length := by omega
          have hk7i : (k : Int) < 7 := by omega
          subst hkl'
          rw [show 7 - l.length = (6 - l.length) + 1 by omega, List.drop_length, gn] at hG
          first
            | (exfalso; omega)
            | (go_wp2; go_ret3; rw [← hG]; exact ⟨rfl, rfl⟩)
end Oct
end Go.Proofs.YtbgjoefpnjgdkaaDoor
