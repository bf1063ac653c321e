/- The walk of the law CrcSums, by the contracts of what it calls. -/
import Derived.Test.YtobdllfddmeicaaBase
import Derived.Test.YtobdllfddmeicaaCrcWalks
namespace Go.Proofs.Ytobdllfddmeicaa
open Go.RowKit
namespace Crc

set_option maxHeartbeats 400000 in
theorem sums_walk (s : ByteArray) (hs : s.size ≤ maxLen) (w : World) :
    Calls Try.prog 3 #[.string s] w fun e w' => e = .returned (.bool true) ∧ Below w.heap.size w w' := by
  unfold maxLen at hs
  by_cases hl : (1048576 : Int) < (s.size : Int)
  · go_enter Try.func3, Try.ntmps3
    go_wp2_with fail
    refine (lives_any _).mono ?_
    rintro e w1 ⟨rfl, h1⟩
    go_wp2_with fail
    go_ret
    exact ⟨rfl, h1⟩
  · go_enter Try.func3, Try.ntmps3
    go_wp2_with fail
    refine (lives_any _).mono ?_
    rintro e w1 ⟨rfl, h1⟩
    go_wp2_with fail
    refine (sum_any _ _ hs).mono ?_
    rintro e w2 ⟨rfl, rfl⟩
    go_wp2_with fail
    refine (refsum_any _ _ hs).mono ?_
    rintro e w2 ⟨rfl, rfl⟩
    go_wp2_with fail
    refine (bytes_any _ _ hs).mono ?_
    rintro e w2 ⟨rfl, h2⟩
    go_wp2_with fail
    refine (refbytes_any _ _ hs).mono ?_
    rintro e w3 ⟨rfl, h3⟩
    go_wp2_with fail
    refine (good_any _ _ hs).mono ?_
    rintro e w4 ⟨rfl, rfl⟩
    go_wp2_with fail
    refine (refgood_any _ _ hs).mono ?_
    rintro e w4 ⟨rfl, h4⟩
    go_wp2_with fail
    go_ret
    have g1 := h1.size
    have g2 := h2.size
    have g3 := h3.size
    exact ⟨by simp, ((h1.trans (h2.mono g1)).trans (h3.mono (by omega))).trans (h4.mono (by omega))⟩
end Crc
end Go.Proofs.Ytobdllfddmeicaa
