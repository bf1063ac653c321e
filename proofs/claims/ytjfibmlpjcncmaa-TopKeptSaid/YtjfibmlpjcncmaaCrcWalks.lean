/- The walks of package crc and of its reference: what each function returns, by contracts. -/
import Derived.Test.YtjfibmlpjcncmaaRows
import Derived.Test.YtjfibmlpjcncmaaCrcPlain
import Derived.WalkKit
import Derived.Lib.Strings
import Derived.Deep.RegionWith
import Derived.Laws.BytesArg
import Derived.Laws.IdiomStrings
import Derived.WalkLawsBesides
import Derived.Lib.Hide
import Derived.BigQuiet
import Derived.Deep.QuietTactic
namespace Go.Proofs.Ytjfibmlpjcncmaa
open Go.RowKit
set_option linter.unusedVariables false
namespace Crc

theorem stp_val (y : Nat) (z : BitVec 32) (h : y = z.toNat) : bits .xor .u32 ((y : Int) * 2 % 4294967296) (bits .and .u32 79764919 (-((y : Int) / 2147483648) % 4294967296)) = ((stp z).toNat : Int) := by
  have hz := z.isLt
  have e1 : ((y : Int) * 2 % 4294967296) = ((y * 2 % 4294967296 : Nat) : Int) := by omega
  by_cases hm : y < 2147483648
  · have hmsb : z.msb = false := by rw [BitVec.msb_eq_decide]; simp; omega
    have e2 : (-((y : Int) / 2147483648) % 4294967296) = ((0 : Nat) : Int) := by omega
    rw [e1, e2, show (79764919 : Int) = ((79764919 : Nat) : Int) from rfl, u32_and_nat _ _ (by omega) (by omega), u32_xor_nat _ _ (by omega) (by simp)]
    unfold stp
    rw [hmsb]
    simp [BitVec.toNat_shiftLeft, Nat.shiftLeft_eq, h]
  · have hmsb : z.msb = true := by rw [BitVec.msb_eq_decide]; simp; omega
    have e2 : (-((y : Int) / 2147483648) % 4294967296) = ((4294967295 : Nat) : Int) := by omega
    have e3 : 79764919 &&& 4294967295 = 79764919 := by decide
    rw [e1, e2, show (79764919 : Int) = ((79764919 : Nat) : Int) from rfl, u32_and_nat _ _ (by omega) (by omega), e3, u32_xor_nat _ _ (by omega) (by omega)]
    unfold stp
    rw [hmsb]
    simp [BitVec.toNat_shiftLeft, Nat.shiftLeft_eq, h, poly]

theorem first_val (x : BitVec 32) (c : UInt8) : bits .xor .u32 (x.toNat : Int) ((c.toNat : Int) * 16777216) = ((x ^^^ (BitVec.ofNat 32 c.toNat <<< 24)).toNat : Int) := by
  have hc := c.toNat_lt
  have hx := x.isLt
  rw [show ((c.toNat : Int) * 16777216) = ((c.toNat * 16777216 : Nat) : Int) by omega, u32_xor_nat _ _ (by omega) (by omega), BitVec.toNat_xor, BitVec.toNat_shiftLeft, BitVec.toNat_ofNat, Nat.shiftLeft_eq]
  congr 2
  omega

set_option maxHeartbeats 400000 in
theorem next_any (x : BitVec 32) (c : UInt8) (w : World) :
    Calls Try.prog 80 #[.int .u32 (x.toNat : Int), .int .u8 (c.toNat : Int)] w fun e w' => e = .returned (.int .u32 ((nx x c).toNat : Int)) ∧ w = w' := by
  have hc := c.toNat_lt
  have hx := x.isLt
  have fv := Lib.hid (first_val x c)
  go_enter Try.func80, Try.ntmps80
  go_wp2
  go_loop [0, 5, 11] (fun s _ i => ∃ k : Nat, k ≤ 8 ∧ i = .int .i64 k ∧ s = .int .u32 ((its k (x ^^^ (BitVec.ofNat 32 c.toNat <<< 24))).toNat : Int)) (fun _ _ i => 8 - (intOf i).toNat)
  case atStart => exact ⟨0, by omega, rfl, by rw [fv.out]; rfl⟩
  case round =>
    obtain ⟨k, hk, rfl, rfl⟩ := hrel
    have hs := Lib.hid (its_succ' k (x ^^^ (BitVec.ofNat 32 c.toNat <<< 24)))
    obtain ⟨z, hz⟩ : ∃ z, z = its k (x ^^^ (BitVec.ofNat 32 c.toNat <<< 24)) := ⟨_, rfl⟩
    rw [← hz]
    have hzl := z.isLt
    have HZ := Lib.hid hz
    clear hz
    by_cases hlt : k < 8
    · go_wp2
      go_round
      case rel => exact ⟨k + 1, by omega, by go_num, by rw [stp_val _ z rfl, HZ.out, ← hs.out]⟩
      case measure => simp [intOf]; omega
    · have hk8 : 8 = k := by omega
      have HK := Lib.hid hk8
      clear hk8
      go_wp2
      go_ret
      refine ⟨?_, rfl⟩
      have : nx x c = z := by rw [HZ.out, ← HK.out]; rfl
      rw [this]; rfl

theorem crcF_take (x : BitVec 32) (s : ByteArray) (k : Nat) (h : k < s.size) : crcF x (s.data.toList.take (k + 1)) = nx (crcF x (s.data.toList.take k)) s[k] := by
  rw [List.take_succ_eq_append_getElem (by simpa using h), crcF_append]; rfl

set_option maxHeartbeats 400000 in
theorem sum_any (s : ByteArray) (w : World) (hs : s.size ≤ 9223372036854775807) :
    Calls Try.prog 74 #[.string s] w fun e w' => e = .returned (.int .u32 ((crc s.data.toList).toNat : Int)) ∧ w = w' := by
  go_enter Try.func74, Try.ntmps74
  go_wp2
  go_loop [3, 4, 7] (fun x _ i => ∃ k : Nat, k ≤ s.size ∧ i = .int .i64 k ∧ x = .int .u32 ((crcF 0xffffffff#32 (s.data.toList.take k)).toNat : Int)) (fun _ _ i => s.size - (intOf i).toNat)
  case atStart => exact ⟨0, by omega, rfl, rfl⟩
  case round =>
    obtain ⟨k, hk, rfl, rfl⟩ := hrel
    by_cases hlt : k < s.size
    · have hs := Lib.hid (crcF_take 0xffffffff#32 s k hlt)
      go_wp2_with (go_at_call 80; refine (next_any _ _ _).mono ?_; rintro e w' ⟨rfl, rfl⟩)
      go_round
      case rel => exact ⟨k + 1, by omega, by go_num, by rw [hs.out]⟩
      case measure => simp [intOf]; omega
    · have hl := Lib.hid (show s.data.toList.take k = s.data.toList from List.take_of_length_le (by simp; omega))
      go_wp2
      go_ret
      refine ⟨?_, rfl⟩
      rw [hl.out]; rfl

theorem refstep_hi (z : BitVec 32) (h : ¬ z.toNat < 2147483648) : bits .xor .u32 ((z.toNat : Int) * 2 % 4294967296) 79764919 = ((stp z).toNat : Int) := by
  have hz := z.isLt
  have e1 : ((z.toNat : Int) * 2 % 4294967296) = ((z.toNat * 2 % 4294967296 : Nat) : Int) := by omega
  have hmsb : z.msb = true := by rw [BitVec.msb_eq_decide]; simp; omega
  rw [e1, show (79764919 : Int) = ((79764919 : Nat) : Int) from rfl, u32_xor_nat _ _ (by omega) (by omega)]
  unfold stp
  rw [hmsb]
  simp [BitVec.toNat_shiftLeft, Nat.shiftLeft_eq, poly]

theorem refstep_lo (z : BitVec 32) (h : z.toNat < 2147483648) : ((z.toNat : Int) * 2 % 4294967296) = ((stp z).toNat : Int) := by
  have hz := z.isLt
  have hmsb : z.msb = false := by rw [BitVec.msb_eq_decide]; simp; omega
  unfold stp
  rw [hmsb]
  simp [BitVec.toNat_shiftLeft, Nat.shiftLeft_eq]

set_option maxHeartbeats 400000 in
theorem refsum_any (s : ByteArray) (w : World) (hs : s.size ≤ 9223372036854775807) :
    Calls Try.prog 77 #[.string s] w fun e w' => e = .returned (.int .u32 ((crc s.data.toList).toNat : Int)) ∧ w = w' := by
  go_enter Try.func77, Try.ntmps77
  go_wp2
  go_loop [3, 4, 5, 6] (fun x i _ _ => ∃ k : Nat, k ≤ s.size ∧ i = .int .i64 k ∧ x = .int .u32 ((crcF 0xffffffff#32 (s.data.toList.take k)).toNat : Int)) (fun _ i _ _ => s.size - (intOf i).toNat)
  case atStart => exact ⟨0, by omega, rfl, rfl⟩
  case round =>
    obtain ⟨k, hk, rfl, rfl⟩ := hrel
    by_cases hlt : k < s.size
    · have hs := Lib.hid (crcF_take 0xffffffff#32 s k hlt)
      obtain ⟨x, hx⟩ : ∃ x, x = crcF 0xffffffff#32 (s.data.toList.take k) := ⟨_, rfl⟩
      rw [← hx]
      have HX := Lib.hid hx
      clear hx
      have hxl := x.isLt
      have hcl : s[k].toNat < 256 := s[k].toNat_lt
      have fv := Lib.hid (first_val x s[k])
      go_wp2
      clear hcl
      generalize s[k] = c at *
      go_loop [3, 5, 6] (fun y i _ => ∃ j : Nat, j ≤ 8 ∧ i = .int .i64 j ∧ y = .int .u32 ((its j (x ^^^ (BitVec.ofNat 32 c.toNat <<< 24))).toNat : Int)) (fun _ i _ => 8 - (intOf i).toNat)
      case atStart => exact ⟨0, by omega, rfl, by rw [fv.out]; rfl⟩
      case round =>
        obtain ⟨j, hj, rfl, rfl⟩ := hrel
        have hs2 := Lib.hid (its_succ' j (x ^^^ (BitVec.ofNat 32 c.toNat <<< 24)))
        obtain ⟨z, hz⟩ : ∃ z, z = its j (x ^^^ (BitVec.ofNat 32 c.toNat <<< 24)) := ⟨_, rfl⟩
        rw [← hz]
        have hzl := z.isLt
        have HZ := Lib.hid hz
        clear hz
        by_cases hlt2 : j < 8
        · by_cases hz2 : z.toNat < 2147483648
          · have hv := Lib.hid (refstep_lo z hz2)
            have hz3 : decide ((2147483648 : Int) ≤ (z.toNat : Int)) = false := by rw [decide_eq_false_iff_not]; omega
            clear hz2
            go_wp2
            go_round
            case rel => exact ⟨j + 1, by omega, by go_num, by rw [hv.out, HZ.out, ← hs2.out]⟩
            case measure => simp [intOf]; omega
          · have hv := Lib.hid (refstep_hi z hz2)
            have hz3 : (2147483648 : Int) ≤ (z.toNat : Int) := by omega
            clear hz2
            go_wp2
            go_round
            case rel => exact ⟨j + 1, by omega, by go_num, by rw [hv.out, HZ.out, ← hs2.out]⟩
            case measure => simp [intOf]; omega
        · have HK := Lib.hid (show 8 = j by omega)
          go_wp2
          go_round
          case rel =>
            refine ⟨k + 1, by omega, by go_num, ?_⟩
            rw [hs.out, ← HX.out, HZ.out, ← HK.out]; rfl
          case measure => simp [intOf]; omega
    · have hl := Lib.hid (show s.data.toList.take k = s.data.toList from List.take_of_length_le (by simp; omega))
      go_wp2
      go_ret
      refine ⟨?_, rfl⟩
      rw [hl.out]; rfl
theorem conv4 (w : World) (T : TypeId) (n1 n2 n3 n4 : Int) :
    (convert 73 9 (.slice (some ⟨w.heap.size, 0, none⟩) 4 4)).run Try.prog (w.alloc (.cells #[.int .u8 n1, .int .u8 n2, .int .u8 n3, .int .u8 n4] T)) = .ok (.string (strOfNums [n1, n2, n3, n4])) (w.alloc (.cells #[.int .u8 n1, .int .u8 n2, .int .u8 n3, .int .u8 n4] T)) := by
  refine run_convert_bytes_arg (P := Try.prog) _ _ _ Try.underlying73 Try.underlying5 w.heap.size 0 4 4 [n1, n2, n3, n4] rfl ?_ _ Try.underlying9
  intro i hi
  rw [Nat.zero_add, World.cell?_alloc_mark]
  match i, hi with
  | 0, _ => rfl
  | 1, _ => rfl
  | 2, _ => rfl
  | 3, _ => rfl

theorem top4_str (x : BitVec 32) : (.string (strOfNums [(x.toNat : Int) / 16777216, (x.toNat : Int) / 65536 % 256, (x.toNat : Int) / 256 % 256, (x.toNat : Int) % 256]) : Value) = .string ⟨(top4 x).toArray⟩ := by
  have hx := x.isLt
  have e : ∀ (a : Int) (b : Nat), a.toNat % 256 = b % 256 → UInt8.ofNat a.toNat = UInt8.ofNat b := by
    intro a b h
    apply UInt8.toNat_inj.1
    rw [UInt8.toNat_ofNat', UInt8.toNat_ofNat']
    exact h
  unfold strOfNums top4
  simp only [List.map_cons, List.map_nil]
  rw [e _ (x.toNat / 16777216) (by omega), e _ (x.toNat / 65536) (by omega), e _ (x.toNat / 256) (by omega), e _ x.toNat (by omega)]

set_option maxHeartbeats 400000 in
theorem bytes_any (s : ByteArray) (w : World) (hs : s.size ≤ 9223372036854775807) :
    Calls Try.prog 59 #[.string s] w fun e w' => e = .returned (.string ⟨(top4 (crc s.data.toList)).toArray⟩) ∧ Below w.heap.size w w' := by
  have kb := fun T n1 n2 n3 n4 => conv4 w T n1 n2 n3 n4
  have ht := Lib.hid (top4_str (crc s.data.toList))
  go_enter Try.func59, Try.ntmps59
  go_wp2_with (go_at_call 74; refine (sum_any _ _ hs).mono ?_; rintro e w' ⟨rfl, rfl⟩)
  go_ret
  exact ⟨congrArg Ending.returned ht.out, (Below.refl _ _).alloc (Nat.le_refl _) _⟩

set_option maxHeartbeats 400000 in
theorem refbytes_any (s : ByteArray) (w : World) (hs : s.size ≤ 9223372036854775807) :
    Calls Try.prog 61 #[.string s] w fun e w' => e = .returned (.string ⟨(top4 (crc s.data.toList)).toArray⟩) ∧ Below w.heap.size w w' := by
  have kb := fun T n1 n2 n3 n4 => conv4 w T n1 n2 n3 n4
  have ht := Lib.hid (top4_str (crc s.data.toList))
  go_enter Try.func61, Try.ntmps61
  go_wp2_with (go_at_call 77; refine (refsum_any _ _ hs).mono ?_; rintro e w' ⟨rfl, rfl⟩)
  go_ret
  exact ⟨congrArg Ending.returned ht.out, (Below.refl _ _).alloc (Nat.le_refl _) _⟩

/-- what Good tells -/
def good (l : List UInt8) : Bool := decide (4 ≤ l.length) && decide (crc l = 0#32)

theorem good_zero (l : List UInt8) (h : 4 ≤ l.length) : (((crc l).toNat : Int) == 0) = good l := by
  unfold good
  rw [Bool.eq_iff_iff]
  simp [h]
  constructor
  · intro e; apply BitVec.eq_of_toNat_eq; simpa using e
  · intro e; simp [e]

theorem good_short (l : List UInt8) (h : ¬ 4 ≤ l.length) : good l = false := by
  unfold good; simp [h]

set_option maxHeartbeats 400000 in
theorem good_any (s : ByteArray) (w : World) (hs : s.size ≤ 9223372036854775807) :
    Calls Try.prog 76 #[.string s] w fun e w' => e = .returned (.bool (good s.data.toList)) ∧ w = w' := by
  by_cases h4 : 4 ≤ s.size
  · have hg := Lib.hid (good_zero s.data.toList (by simpa using h4))
    go_enter Try.func76, Try.ntmps76
    go_wp2_with (go_at_call 74; refine (sum_any _ _ hs).mono ?_; rintro e w' ⟨rfl, rfl⟩)
    go_ret
    exact ⟨congrArg (fun b => Ending.returned (Value.bool b)) hg.out, rfl⟩
  · have hg := Lib.hid (good_short s.data.toList (by simpa using h4))
    go_enter Try.func76, Try.ntmps76
    go_wp2_with (go_at_call 74; refine (sum_any _ _ hs).mono ?_; rintro e w' ⟨rfl, rfl⟩)
    go_ret
    exact ⟨congrArg (fun b => Ending.returned (Value.bool b)) hg.out.symm, rfl⟩

theorem refgood_eq (s : ByteArray) (h4 : 4 ≤ s.size) : ((s.extract (s.size - 4) s.size).toList == top4 (crc (s.data.toList.take (s.size - 4)))) = good s.data.toList := by
  have hl : s.data.toList.length = s.size := by simp
  unfold good
  rw [Lib.extract_toList, Bool.eq_iff_iff]
  have hd : (s.data.toList.drop (s.size - 4)).take (s.size - (s.size - 4)) = s.data.toList.drop (s.size - 4) := List.take_of_length_le (by simp)
  rw [hd]
  have hz := crc_zero (s.data.toList.take (s.size - 4)) (s.data.toList.drop (s.size - 4)) (by simp; omega)
  rw [List.take_append_drop] at hz
  simp only [beq_iff_eq, Bool.and_eq_true, decide_eq_true_eq]
  rw [hz]
  exact ⟨fun h => ⟨by omega, h⟩, fun h => h.2⟩

theorem lives_sum : (crc [49, 50, 51, 52, 53, 54, 55, 56, 57]).toNat = 58124007 := by decide +kernel
theorem lives_bytes : top4 (crc [49, 50, 51, 52, 53, 54, 55, 56, 57]) = [3, 118, 230, 231] := by decide +kernel
theorem lives_good : good [49, 50, 51, 52, 53, 54, 55, 56, 57, 3, 118, 230, 231] = true := by decide +kernel
theorem lives_bad : good [97, 98, 99] = false := by decide +kernel

theorem lives_1 (w : World) : Calls Try.prog 74 #[.string ⟨#[49, 50, 51, 52, 53, 54, 55, 56, 57]⟩] w fun e w' => e = .returned (.int .u32 58124007) ∧ w = w' := by
  refine (sum_any _ w (by decide)).mono fun e w' h => ⟨?_, h.2⟩
  rw [h.1]; exact congrArg (fun n : Nat => Ending.returned (Value.int .u32 (n : Int))) lives_sum

theorem lives_2 (w : World) : Calls Try.prog 59 #[.string ⟨#[49, 50, 51, 52, 53, 54, 55, 56, 57]⟩] w fun e w' => e = .returned (.string ⟨#[3, 118, 230, 231]⟩) ∧ Below w.heap.size w w' := by
  refine (bytes_any _ w (by decide)).mono fun e w' h => ⟨?_, h.2⟩
  rw [h.1]; exact congrArg (fun l : List UInt8 => Ending.returned (Value.string ⟨l.toArray⟩)) lives_bytes

theorem lives_3 (w : World) : Calls Try.prog 76 #[.string ⟨#[49, 50, 51, 52, 53, 54, 55, 56, 57, 3, 118, 230, 231]⟩] w fun e w' => e = .returned (.bool true) ∧ w = w' := by
  refine (good_any _ w (by decide)).mono fun e w' h => ⟨?_, h.2⟩
  rw [h.1]; exact congrArg (fun b : Bool => Ending.returned (Value.bool b)) lives_good

theorem lives_4 (w : World) : Calls Try.prog 76 #[.string ⟨#[97, 98, 99]⟩] w fun e w' => e = .returned (.bool false) ∧ w = w' := by
  refine (good_any _ w (by decide)).mono fun e w' h => ⟨?_, h.2⟩
  rw [h.1]; exact congrArg (fun b : Bool => Ending.returned (Value.bool b)) lives_bad

end Crc
end Go.Proofs.Ytjfibmlpjcncmaa
