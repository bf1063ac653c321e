/- The walk of the law CrcFound, by the contracts of what it calls. -/
import Derived.Test.YtobdllfddmeicaaBytes
import Derived.Test.YtobdllfddmeicaaCrcWalks
import Derived.Test.YtobdllfddmeicaaCrcTurn
namespace Go.Proofs.Ytobdllfddmeicaa
open Go.RowKit
set_option linter.unusedVariables false
namespace Crc

theorem bit_test (n k : Nat) (hn : n < 4294967296) (hk : k < 32) : (bits .and .u32 ((n : Int) / 2 ^ k) 1 == 1) = n.testBit k := by
  have e : ((n : Int) / 2 ^ k) = ((n / 2 ^ k : Nat) : Int) := by simp
  have hle : n / 2 ^ k < 4294967296 := Nat.lt_of_le_of_lt (Nat.div_le_self _ _) hn
  rw [e, show (1 : Int) = ((1 : Nat) : Int) from rfl, u32_and_nat _ _ hle (by omega), Nat.and_one_is_mod, Nat.testBit_eq_decide_div_mod_eq]
  generalize n / 2 ^ k = q
  rw [Bool.eq_iff_iff, beq_iff_eq, decide_eq_true_eq]
  omega

theorem turn_val (c : UInt8) (p : Nat) : bits .xor .u8 (c.toNat : Int) ((128 : Int) / 2 ^ (p % 8)) = ((c ^^^ UInt8.ofNat (128 / 2 ^ (p % 8))).toNat : Int) := by
  have e : ((128 : Int) / 2 ^ (p % 8)) = ((128 / 2 ^ (p % 8) : Nat) : Int) := by simp
  have hle : 128 / 2 ^ (p % 8) < 256 := Nat.lt_of_le_of_lt (Nat.div_le_self _ _) (by omega)
  rw [e, u8_xor_nat _ _ c.toNat_lt hle, UInt8.toNat_xor, UInt8.toNat_ofNat', Nat.mod_eq_of_lt hle]

set_option maxHeartbeats 1000000 in
theorem turned_any (s : ByteArray) (bit n : Nat) (hs : s.size ≤ 65536) (hb : bit < 8 * s.size) (hn : n < 4294967296) (w : World) :
    Calls Try.prog 18 #[.string s, .int .i64 (bit : Int), .int .u32 (n : Int)] w fun e w' => e = .returned (.string ⟨(turnedL s.data.toList bit n 32).toArray⟩) ∧ Below w.heap.size w w' := by
  have hcv := bytes_conv s w
  have hB0 := bytesW_bts w s
  have hb0 := bytesW_below w s
  go_enter Try.func18, Try.ntmps18
  go_wp2_with fail
  obtain ⟨g, hg⟩ : ∃ g, g = w.heap.size := ⟨_, rfl⟩
  rw [← hg] at hB0 ⊢
  have hgw : w.heap.size ≤ g := by omega
  clear hcv hg
  generalize bytesW w s = w1 at *
  generalize bytesCap w s = cap at *
  go_loopw [8, 9] (fun i _ wr => ∃ k : Nat, k ≤ 32 ∧ i = .int .i64 k ∧ Bts wr g (turnedL s.data.toList bit n k) ∧ Below w.heap.size w wr) (fun i _ _ => 32 - (intOf i).toNat)
  case atStart => exact ⟨0, by omega, rfl, hB0, hb0⟩
  case round =>
    obtain ⟨k, hk, rfl, hB, hbl⟩ := hrel
    clear hB0 hb0
    by_cases hlt : k < 32
    · have hbt := Lib.hid (bit_test n k hn hlt)
      by_cases hbit : n.testBit k = true
      · by_cases hin : bit + k < 8 * s.size
        · have h1 : (bits .and .u32 ((n : Int) / 2 ^ k) 1 == 1) = true := by rw [hbt.out]; exact hbit
          have h2 : (bit : Int) + (k : Int) < 8 * (s.size : Int) := by omega
          have hlen := turnedL_length s.data.toList bit n k
          have hsl : s.data.toList.length = s.size := by simp
          obtain ⟨c, hcl, hc, hf⟩ := hB.byte ((bit + k) / 8) (by omega)
          have HC := Lib.hid hcl
          have h4 : (bit + k) / 8 < s.size := by omega
          have HB := Lib.hid hB
          have HT := Lib.hid hbit
          have HL := Lib.hid hlen
          clear hcl hB hbit hlen hsl
          go_wp2_with fail
          go_region
          have hv := turn_val c (bit + k)
          have hst : Bts (wr.setCell ⟨g, (bit + k) / 8, none⟩ (.int .u8 (bits .xor .u8 (c.toNat : Int) ((128 : Int) / 2 ^ ((bit + k) % 8))))) g (turnedL s.data.toList bit n (k + 1)) := by
            rw [hv, turnedL, if_pos ⟨HT.out, by simp; omega⟩]
            unfold turn1
            rw [show (turnedL s.data.toList bit n k).getD ((bit + k) / 8) 0 = c from by rw [List.getD, HC.out]; rfl]
            exact HB.out.set _ _ (by rw [HL.out]; simp; omega)
          have HST := Lib.hid hst
          clear hst hc hf hv
          go_wp2
          go_roundw
          case rel => exact ⟨k + 1, by omega, by go_num, HST.out.drew, (hbl.setCell hgw _).drew⟩
          case measure => simp [intOf]; omega
        · have h1 : (bits .and .u32 ((n : Int) / 2 ^ k) 1 == 1) = true := by rw [hbt.out]; exact hbit
          have h2 : 8 * (s.size : Int) ≤ (bit : Int) + (k : Int) := by omega
          have hst : turnedL s.data.toList bit n (k + 1) = turnedL s.data.toList bit n k := by
            rw [turnedL, if_neg (by simp; omega)]
          have HST := Lib.hid hst
          clear hst hbit
          go_wp2
          go_roundw
          case rel => exact ⟨k + 1, by omega, by go_num, by rw [HST.out]; exact hB, hbl⟩
          case measure => simp [intOf]; omega
      · have h1 : (bits .and .u32 ((n : Int) / 2 ^ k) 1 == 1) = false := by rw [hbt.out]; simpa using hbit
        have hst : turnedL s.data.toList bit n (k + 1) = turnedL s.data.toList bit n k := by
          rw [turnedL, if_neg (by simp [hbit])]
        have HST := Lib.hid hst
        clear hst hbit
        go_wp2
        go_roundw
        case rel => exact ⟨k + 1, by omega, by go_num, by rw [HST.out]; exact hB, hbl⟩
        case measure => simp [intOf]; omega
    · have HK := Lib.hid (show 32 = k by omega)
      have hcv := hB.conv cap
      have hlen := turnedL_length s.data.toList bit n k
      rw [hlen, show s.data.toList.length = s.size by simp] at hcv
      clear hlen
      go_wp2
      go_ret
      exact ⟨by rw [HK.out]; rfl, hbl⟩
theorem found_fin (s : ByteArray) (bit n : Nat) : ((((turnedL s.data.toList bit n 32) == s.data.toList) == (((crc (turnedL s.data.toList bit n 32)).toNat : Int) == ((crc s.data.toList).toNat : Int)))) = true := by
  have h := found s.data.toList bit n
  have e : (((crc (turnedL s.data.toList bit n 32)).toNat : Int) = ((crc s.data.toList).toNat : Int)) ↔ crc (turnedL s.data.toList bit n 32) = crc s.data.toList := by
    constructor
    · intro h; apply BitVec.eq_of_toNat_eq; omega
    · intro h; rw [h]
  rw [beq_iff_eq, Bool.eq_iff_iff, beq_iff_eq, beq_iff_eq, e]
  exact h.symm

set_option maxHeartbeats 1000000 in
theorem found_walk (s : ByteArray) (a1 a2 : Int) (hs : s.size ≤ maxLen) (h1 : (Lit.int .i64 a1).wf = true) (h2 : (Lit.int .u32 a2).wf = true) (w : World) :
    Calls Try.prog 5 #[.string s, .int .i64 a1, .int .u32 a2] w fun e w' => e = .returned (.bool true) ∧ Below w.heap.size w w' := by
  unfold maxLen at hs
  have hx : 0 ≤ a2 ∧ a2 ≤ 4294967295 := by simpa [Lit.wf, IntKind.min, IntKind.max, IntKind.signed, IntKind.bits] using h2
  have hy : -9223372036854775808 ≤ a1 ∧ a1 ≤ 9223372036854775807 := by simpa [Lit.wf, IntKind.min, IntKind.max, IntKind.signed, IntKind.bits] using h1
  have cases : (65536 : Int) < (s.size : Int) ∨ (¬ (65536 : Int) < (s.size : Int) ∧ a1 < 0) ∨ (¬ (65536 : Int) < (s.size : Int) ∧ ¬ a1 < 0 ∧ 8 * (s.size : Int) ≤ a1) ∨ (¬ (65536 : Int) < (s.size : Int) ∧ ¬ a1 < 0 ∧ a1 < 8 * (s.size : Int)) := by omega
  clear h1 h2
  rcases cases with c1 | ⟨c1, c2⟩ | ⟨c1, c2, c3⟩ | ⟨c1, c2, c3⟩
  · go_enter Try.func5, Try.ntmps5
    go_wp2_with fail
    refine (lives_any _).mono ?_
    rintro e w1 ⟨rfl, h1⟩
    go_wp2_with fail
    go_ret
    exact ⟨rfl, h1⟩
  · go_enter Try.func5, Try.ntmps5
    go_wp2_with fail
    refine (lives_any _).mono ?_
    rintro e w1 ⟨rfl, h1⟩
    go_wp2_with fail
    go_ret
    exact ⟨rfl, h1⟩
  · go_enter Try.func5, Try.ntmps5
    go_wp2_with fail
    refine (lives_any _).mono ?_
    rintro e w1 ⟨rfl, h1⟩
    go_wp2_with fail
    go_ret
    exact ⟨rfl, h1⟩
  · obtain ⟨bit, rfl⟩ := Int.eq_ofNat_of_zero_le (show 0 ≤ a1 by omega)
    obtain ⟨n, rfl⟩ := Int.eq_ofNat_of_zero_le hx.1
    have hf := Lib.hid (found_fin s bit n)
    have hl := Lib.hid (turnedL_length s.data.toList bit n 32)
    go_enter Try.func5, Try.ntmps5
    go_wp2_with fail
    refine (lives_any _).mono ?_
    rintro e w1 ⟨rfl, h1⟩
    go_wp2_with fail
    refine (turned_any s bit n (by omega) (by omega) (by omega) _).mono ?_
    rintro e w2 ⟨rfl, h2⟩
    go_wp2_with fail
    refine (sum_any _ _ (by rw [ByteArray.size_mk', List.size_toArray, hl.out]; simp; omega)).mono ?_
    rintro e w3 ⟨rfl, rfl⟩
    go_wp2_with fail
    refine (sum_any _ _ hs).mono ?_
    rintro e w3 ⟨rfl, rfl⟩
    go_wp2_with fail
    go_ret
    refine ⟨?_, h1.trans (h2.mono h1.size)⟩
    refine congrArg (fun b => Ending.returned (Value.bool b)) (Eq.trans ?_ hf.out)
    simp only [ByteArray.toList_eq]
end Crc
end Go.Proofs.Ytobdllfddmeicaa
