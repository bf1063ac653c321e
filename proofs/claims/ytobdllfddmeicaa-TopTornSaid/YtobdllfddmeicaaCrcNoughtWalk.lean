/- The walk of the law CrcNought, by the contracts of what it calls. -/
import Derived.Test.YtobdllfddmeicaaBase
import Derived.Test.YtobdllfddmeicaaCrcWalks
namespace Go.Proofs.Ytobdllfddmeicaa
open Go.RowKit
set_option linter.unusedVariables false
namespace Crc

theorem top4_length (x : BitVec 32) : (top4 x).length = 4 := rfl

theorem nought_sum (l : List UInt8) : crc (l ++ top4 (crc l)) = 0#32 := (crc_zero l _ (top4_length _)).2 rfl

theorem nought_good (l : List UInt8) : good (l ++ top4 (crc l)) = true := by
  unfold good; rw [nought_sum]; simp [top4_length]

theorem nought_1 (s : ByteArray) (w : World) (hs : s.size ≤ 1048576) : Calls Try.prog 12 #[.string (s ++ ⟨(top4 (crc s.data.toList)).toArray⟩)] w fun e w' => e = .returned (.int .u32 0) ∧ w = w' := by
  have hz : (s ++ ⟨(top4 (crc s.data.toList)).toArray⟩ : ByteArray).data.toList = s.data.toList ++ top4 (crc s.data.toList) := by simp
  refine (sum_any _ w (by rw [ByteArray.size_append']; show s.size + 4 ≤ _; omega)).mono fun e w' h => ⟨?_, h.2⟩
  rw [h.1, hz, nought_sum]; rfl

theorem nought_2 (s : ByteArray) (w : World) (hs : s.size ≤ 1048576) : Calls Try.prog 16 #[.string (s ++ ⟨(top4 (crc s.data.toList)).toArray⟩)] w fun e w' => e = .returned (.bool true) ∧ w = w' := by
  have hz : (s ++ ⟨(top4 (crc s.data.toList)).toArray⟩ : ByteArray).data.toList = s.data.toList ++ top4 (crc s.data.toList) := by simp
  refine (good_any _ w (by rw [ByteArray.size_append']; show s.size + 4 ≤ _; omega)).mono fun e w' h => ⟨?_, h.2⟩
  rw [h.1, hz, nought_good]

set_option maxHeartbeats 400000 in
theorem nought_walk (s : ByteArray) (hs : s.size ≤ maxLen) (w : World) :
    Calls Try.prog 4 #[.string s] w fun e w' => e = .returned (.bool true) ∧ Below w.heap.size w w' := by
  unfold maxLen at hs
  by_cases hl : (1048576 : Int) < (s.size : Int)
  · go_enter Try.func4, Try.ntmps4
    go_wp2_with fail
    refine (lives_any _).mono ?_
    rintro e w1 ⟨rfl, h1⟩
    go_wp2_with fail
    go_ret
    exact ⟨rfl, h1⟩
  · have hlt : s.size ≤ 1048576 := by omega
    have ht4 : (top4 (crc s.data.toList)).length ≤ 4 := Nat.le_refl 4
    by_cases h4 : 4 ≤ s.size
    · have hg := Lib.hid (good_zero s.data.toList (by simpa using h4))
      have h4i : (4 : Int) ≤ (s.size : Int) := by omega
      have hd : decide ((s.size : Int) < 4) = false := by simp; omega
      go_enter Try.func4, Try.ntmps4
      go_wp2_with fail
      refine (lives_any _).mono ?_
      rintro e w1 ⟨rfl, h1⟩
      go_wp2_with fail
      refine (bytes_any _ _ hs).mono ?_
      rintro e w2 ⟨rfl, h2⟩
      go_wp2_with fail
      refine (nought_1 _ _ hlt).mono ?_
      rintro e w3 ⟨rfl, rfl⟩
      go_wp2_with fail
      refine (nought_2 _ _ hlt).mono ?_
      rintro e w3 ⟨rfl, rfl⟩
      go_wp2_with fail
      refine (sum_any _ _ hs).mono ?_
      rintro e w3 ⟨rfl, rfl⟩
      go_wp2_with fail
      refine (good_any _ _ hs).mono ?_
      rintro e w3 ⟨rfl, rfl⟩
      go_wp2_with fail
      go_ret
      have g1 := h1.size
      refine ⟨?_, h1.trans (h2.mono g1)⟩
      have hg2 := hg.out
      show Ending.returned (Value.bool _) = _
      rw [hg2]; simp
    · have hd : decide ((s.size : Int) < 4) = true := by simp; omega
      have h4i : (s.size : Int) < (4 : Int) := by omega
      go_enter Try.func4, Try.ntmps4
      go_wp2_with fail
      refine (lives_any _).mono ?_
      rintro e w1 ⟨rfl, h1⟩
      go_wp2_with fail
      refine (bytes_any _ _ hs).mono ?_
      rintro e w2 ⟨rfl, h2⟩
      go_wp2_with fail
      refine (nought_1 _ _ hlt).mono ?_
      rintro e w3 ⟨rfl, rfl⟩
      go_wp2_with fail
      refine (nought_2 _ _ hlt).mono ?_
      rintro e w3 ⟨rfl, rfl⟩
      go_wp2_with fail
      go_ret
      have g1 := h1.size
      exact ⟨rfl, h1.trans (h2.mono g1)⟩
end Crc
end Go.Proofs.Ytobdllfddmeicaa
