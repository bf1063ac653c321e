/- event.kind: the kind of a word. -/
import Derived.Test.YtbgjoefpnjgdkaaDoorEventCheck
namespace Go.Proofs.YtbgjoefpnjgdkaaDoor
open Go.RowKit
set_option linter.unusedVariables false
set_option linter.unusedSimpArgs false
set_option maxRecDepth 100000
namespace Named
/-- the kinds' words lie in the world -/
def Words (w : World) : Prop := ∀ k, k < 9 → w.cell? ⟨2, k, none⟩ = some (.string ⟨(wordL k).toArray⟩)
theorem Words.low {w w' : World} (h : Words w) (hb : Below w.heap.size w w') : Words w' := fun k hk => cell_low (h k hk) hb

theorem kind_word (s : List UInt8) (w : World) (hW : Words w) : Calls Tryd.prog 63 #[.string ⟨s.toArray⟩] w fun e w' => e = .returned (.int .u8 (kindW s : Int)) ∧ w' = w := by
  have HW := Lib.hid hW
  have HK : Hid (kindW s = kindFrom s 8 1) := Lib.hid rfl
  clear hW
  go_enter Tryd.func63, Tryd.ntmps63
  go_wp2
  go_loop [3] (fun v => ∃ k : Nat, v = .int .u8 (k : Int) ∧ 1 ≤ k ∧ k ≤ 9 ∧ Hid (kindFrom s (9 - k) k = kindW s)) (fun v => 9 - (intOf v).toNat)
  case atStart => exact ⟨1, rfl, by omega, by omega, Lib.hid rfl⟩
  case round =>
    obtain ⟨k, rfl, hk1, hk9, HA⟩ := hrel
    by_cases hlt : k < 9
    · have hi : (k : Int) < 9 := by omega
      have h0 : (0 : Int) ≤ (k : Int) := by omega
      have hc := HW.out k hlt
      by_cases hd : wordL k = s
      · have HR := Lib.hid (show kindW s = k by rw [← HA.out, show 9 - k = (8 - k) + 1 by omega, kindFrom, if_pos hd])
        rw [hd] at hc
        clear hd
        go_wp2
        go_ret
        exact ⟨by rw [HR.out]; rfl, rfl⟩
      · have HD := Lib.hid (show kindFrom s (9 - (k + 1)) (k + 1) = kindW s by rw [← HA.out, show 9 - k = (9 - (k + 1)) + 1 by omega, kindFrom, if_neg hd])
        generalize wordL k = wd at *
        have hdd : (wd == s) = false := by simpa using hd
        clear hd
        go_wp2
        exact ⟨⟨k + 1, by go_num, by omega, by omega, HD⟩, by simp [intOf]; omega⟩
    · obtain rfl : k = 9 := by omega
      have HR := Lib.hid (show kindW s = 0 by rw [← HA.out]; rfl)
      clear hlt
      go_wp2
      go_ret
      exact ⟨by rw [HR.out]; rfl, rfl⟩
end Named
end Go.Proofs.YtbgjoefpnjgdkaaDoor
