/- The plain law of one-time signatures: a signature leads to the sum of its seed. -/
import Derived.Test.YtbgjoefpnjgdkaaDoorOneSign
namespace Go.Proofs.YtbgjoefpnjgdkaaDoor
open Go.RowKit
set_option linter.unusedVariables false
namespace One
open Sha
theorem rec_sig (X kk : Nat → Int) (D : List Nat) (hD : ∀ d ∈ D, d ≤ 3) (seed : List UInt8) : ∀ (js : List (Fin 68)), recEnds X kk (js.map fun j => D.getD j.val 0) (sigEnds X kk D seed js) = ends X kk seed js
  | [] => rfl
  | j :: js => by
    have hd : D.getD j.val 0 ≤ 3 := by
      rw [List.getD_eq_getElem?_getD]
      cases h : D[j.val]? with
      | none => simp
      | some d => exact hD d (List.mem_of_getElem? h)
    have hl := onL_length X kk (D.getD j.val 0) (startL X kk seed j.val) (startL_length _ _ _ _)
    have ih := rec_sig X kk D hD seed js
    have e1 : sigEnds X kk D seed (j :: js) = onL X kk (D.getD j.val 0) (startL X kk seed j.val) ++ sigEnds X kk D seed js := by simp [sigEnds]
    have e2 : ends X kk seed (j :: js) = onL X kk 3 (startL X kk seed j.val) ++ ends X kk seed js := by simp [ends]
    rw [List.map_cons, recEnds, e1, e2, List.take_left' hl, List.drop_left' hl, ih, onL_add, show D.getD j.val 0 + (3 - D.getD j.val 0) = 3 by omega]

theorem recover_sign (X kk : Nat → Int) (seed text : List UInt8) : recoverL X kk text (signL X kk seed text) = publicL X kk seed := by
  have h := rec_sig X kk (digitsL X kk text) (digitsL_le X kk text) seed places
  have hD : (places.map fun j => (digitsL X kk text).getD j.val 0) = digitsL X kk text := by
    refine List.ext_getElem? fun i => ?_
    by_cases hi : i < 68
    · rw [List.getElem?_map, show places[i]? = some ⟨i, hi⟩ by simp [places, hi], List.getElem?_eq_getElem (by rw [digitsL_length]; exact hi)]
      simp only [Option.map_some, List.getD_eq_getElem?_getD]
      rw [List.getElem?_eq_getElem (by rw [digitsL_length]; exact hi)]; rfl
    · rw [List.getElem?_eq_none (by rw [List.length_map, places_length]; omega), List.getElem?_eq_none (by rw [digitsL_length]; omega)]
  rw [hD] at h
  rw [recoverL, signL, h]; rfl
end One
end Go.Proofs.YtbgjoefpnjgdkaaDoor
