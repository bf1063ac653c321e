/- onetime: a text so many steps on; the digits of a text. -/
import Derived.Test.YtbgjoefpnjgdkaaDoorShaSum
namespace Go.Proofs.YtbgjoefpnjgdkaaDoor
open Go.RowKit
set_option linter.unusedVariables false
set_option linter.unusedSimpArgs false
set_option maxRecDepth 100000
namespace One
open Sha
/-- so many steps on -/
def onL (X kk : Nat → Int) : Nat → List UInt8 → List UInt8
  | 0, l => l
  | n + 1, l => onL X kk n (midL X kk (2 :: l))
theorem onL_add (X kk : Nat → Int) : ∀ (a b : Nat) (l : List UInt8), onL X kk b (onL X kk a l) = onL X kk (a + b) l
  | 0, b, l => by rw [onL, Nat.zero_add]
  | a + 1, b, l => by rw [onL, onL_add X kk a b, show a + 1 + b = (a + b) + 1 by omega, onL]
theorem onL_length (X kk : Nat → Int) : ∀ (n : Nat) (l : List UInt8), l.length = 16 → (onL X kk n l).length = 16
  | 0, l, h => h
  | n + 1, l, _ => by rw [onL]; exact onL_length X kk n _ (midL_length _ _ _)

theorem cat_toList (a b : List UInt8) : ((⟨a.toArray⟩ : ByteArray) ++ ⟨b.toArray⟩).data.toList = a ++ b := by
  simp [ByteArray.data_append]

set_option maxHeartbeats 1000000 in
theorem on_any (X kk : Nat → Int) (l : List UInt8) (n : Nat) (hn : (n : Int) ≤ 1000) (hl : l.length ≤ 1000) (w : World) (hT : Tabs w X kk) :
    Calls Tryd.prog 45 #[.string ⟨l.toArray⟩, .int .i64 (n : Int)] w fun e w' => e = .returned (.string ⟨(onL X kk n l).toArray⟩) ∧ Below w.heap.size w w' := by
  have HT := Lib.hid hT
  clear hT
  go_enter Tryd.func45, Tryd.ntmps45
  go_wp2_with fail
  go_loopw [0, 6] (fun s i wr => ∃ (k : Nat) (y : List UInt8), k ≤ n ∧ y.length ≤ 1000 ∧ s = .string ⟨y.toArray⟩ ∧ i = .int .i64 (k : Int) ∧ Hid (onL X kk (n - k) y = onL X kk n l) ∧ Below w.heap.size w wr) (fun _ i _ => n - (intOf i).toNat)
  case atStart => exact ⟨0, l, by omega, hl, rfl, rfl, Lib.hid rfl, Below.refl _ _⟩
  case round =>
    obtain ⟨k, y, hk, hyl, rfl, rfl, HO, hb⟩ := hrel
    by_cases hlt : k < n
    · have hki : (k : Int) < (n : Int) := by omega
      have hm := mid_any (⟨#[2]⟩ ++ ⟨y.toArray⟩) X kk wr (HT.out.below rfl hb)
      rw [show (⟨#[2]⟩ ++ ⟨y.toArray⟩ : ByteArray).data.toList = 2 :: y from cat_toList [2] y] at hm
      have HM := Lib.hid hm
      clear hm
      go_wp2_with fail
      refine HM.out.mono ?_
      rintro e w1 ⟨rfl, hb1⟩
      have hb2 := hb.trans (hb1.mono hb.size)
      go_wp2_with fail
      go_roundw
      case rel => exact ⟨k + 1, _, by omega, by rw [midL_length]; omega, rfl, by go_num, Lib.hid (by rw [← HO.out, show n - k = (n - (k + 1)) + 1 by omega, onL]), hb2⟩
      case measure => simp [intOf]; omega
    · obtain rfl : k = n := by omega
      have ho := HO.out
      rw [Nat.sub_self, onL] at ho
      subst ho
      clear hlt hk
      go_wp2_with fail
      go_ret
      exact ⟨by trivial, hb⟩
end One
end Go.Proofs.YtbgjoefpnjgdkaaDoor
