/- The answers of chapter 1 that each law asks for. -/
import Derived.Test.YtjfibmlpjcncmaaOctAll
namespace Go.Proofs.Ytjfibmlpjcncmaa
open Go.RowKit
set_option linter.unusedVariables false
set_option linter.unusedSimpArgs false
set_option maxRecDepth 4000
namespace Oct

theorem lit_list (l : List UInt8) (a : Array UInt8) (h : a = l.toArray) : (⟨l.toArray⟩ : ByteArray) = ⟨a⟩ := by rw [h]

set_option maxHeartbeats 2000000 in
theorem oct_lives (w : World) :
    Calls Try.prog 19 #[] w fun e w' => e = .returned (.bool true) ∧ Below w.heap.size w w' := by
  have c1 := fun w => num_any 300 w
  rw [show numR 300 = ([172, 2], 0) by decide] at c1
  have c2 := fun w => getNum_any [172, 2, 33] w
  rw [show getNum [172, 2, 33] = (300, 2, 0) by decide] at c2
  have c3 := fun w => getNum_any [128, 0] w
  rw [show getNum [128, 0] = (0, 0, 6) by decide] at c3
  have c4 := fun w => getNum_any [128] w
  rw [show getNum [128] = (0, 0, 5) by decide] at c4
  go_enter Try.func19, Try.ntmps19
  go_wp2_with fail
  refine (c1 _).mono ?_
  rintro e w1 ⟨rfl, hb1⟩
  go_wp2_with fail
  refine (c2 _).mono ?_
  rintro e w2 ⟨rfl, rfl⟩
  go_wp2_with fail
  refine (c3 _).mono ?_
  rintro e w2 ⟨rfl, rfl⟩
  go_wp2_with fail
  refine (c4 _).mono ?_
  rintro e w2 ⟨rfl, rfl⟩
  go_wp2_with fail
  have c5 := fun (b : Nat) (w : World) h => list_any (.slice (some ⟨b, 0, none⟩) 2 2) [[97, 98], []] w (.inr ⟨b, 0, 2, rfl, h⟩)
  rw [show listR [[97, 98], []] = ([2, 2, 97, 98, 0], 0) by decide] at c5
  refine (c5 _ _ ⟨by simp, fun j hj => ?_⟩).mono ?_
  · have : j = 0 ∨ j = 1 := by simp at hj; omega
    rcases this with rfl | rfl
    · go_simp
    · go_simp
  rintro e w2 ⟨rfl, hb2⟩
  have B2 := hb1.trans ((((Below.refl _ w1).alloc (Nat.le_refl _) _).trans (hb2.mono (by simp))).mono hb1.size)
  clear hb1 hb2 c1 c2 c3 c4 c5
  have c6 := fun w => all_any [2, 2, 97, 98, 0] (by unfold maxLen; decide) w
  rw [show allR [2, 2, 97, 98, 0] = ([[97, 98], []], 0) by decide] at c6
  have c7 := fun w => all_any [2, 2, 97, 98, 0, 33] (by unfold maxLen; decide) w
  rw [show allR [2, 2, 97, 98, 0, 33] = ([], 6) by decide] at c7
  have c8 := fun w => getText_any [1, 97, 98] (by unfold maxLen; decide) w
  rw [show getText [1, 97, 98] = ([97], 2, 0) by decide] at c8
  have c9 := fun w => num_any 281474976710657 w
  rw [show numR 281474976710657 = ([], 1) by rw [numR, if_neg (by omega)]] at c9
  go_wp2_with fail
  refine (c6 _).mono ?_
  rintro e w3 ⟨m, rfl, hm, hb3⟩
  have R3 := hm.row
  replace B2 := B2.trans (hb3.mono B2.size)
  clear hm hb3
  go_wp2_with fail
  refine (c7 _).mono ?_
  rintro e w4 ⟨m', rfl, -, hb4⟩
  replace R3 := R3.below rfl hb4
  replace B2 := B2.trans (hb4.mono B2.size)
  clear hb4
  go_wp2_with fail
  refine (c8 _).mono ?_
  rintro e w5 ⟨rfl, rfl⟩
  go_wp2_with fail
  refine (c9 _).mono ?_
  rintro e w6 ⟨rfl, hb6⟩
  replace R3 := R3.below rfl hb6
  replace B2 := B2.trans (hb6.mono B2.size)
  clear hb6 c6 c7 c8 c9
  go_wp2_with fail
  have Rm := R3.below rfl ((Below.refl w6.heap.size w6).alloc (Nat.le_refl _) (.cells #[.string ⟨#[97, 98]⟩, .string ⟨#[]⟩] 9))
  refine (same_any m (.slice (some ⟨w6.heap.size, 0, none⟩) 2 2) [[97, 98], []] [[97, 98], []] _ Rm (.inr ⟨w6.heap.size, 0, 2, rfl, by simp, fun j hj => ?_⟩) (by simp)).mono ?_
  · have : j = 0 ∨ j = 1 := by simp at hj; omega
    rcases this with rfl | rfl
    · go_simp
    · go_simp
  rintro e w7 ⟨rfl, hb7⟩
  replace B2 := (B2.alloc B2.size _).trans (hb7.mono (by have := B2.size; simp; omega))
  rw [decide_eq_true rfl]
  clear R3 Rm hb7
  go_wp2_with fail
  go_ret
  exact ⟨rfl, B2⟩
end Oct
end Go.Proofs.Ytjfibmlpjcncmaa
