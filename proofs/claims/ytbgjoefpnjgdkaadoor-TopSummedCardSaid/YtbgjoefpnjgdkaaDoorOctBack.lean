/- The walks of chapter 1's laws OctetBack and OctetAgain. -/
import Derived.Test.YtbgjoefpnjgdkaaDoorOctLaws
import Derived.Test.YtbgjoefpnjgdkaaDoorOctPlain
import Derived.SizedLaws
namespace Go.Proofs.YtbgjoefpnjgdkaaDoor
open Go.RowKit
set_option linter.unusedVariables false
set_option linter.unusedSimpArgs false
set_option maxRecDepth 4000
namespace Oct

theorem back_num (n : Nat) (m : List UInt8) : ∃ a e x i e2, numR n = (a, e) ∧ getNum (a ++ m) = (x, i, e2) ∧ (e = 0 → x = n ∧ i = a.length ∧ e2 = 0) ∧ a.length ≤ 11 := by
  refine ⟨(numR n).1, (numR n).2, (getNum ((numR n).1 ++ m)).1, (getNum ((numR n).1 ++ m)).2.1, (getNum ((numR n).1 ++ m)).2.2, rfl, rfl, ?_, ?_⟩
  · unfold numR
    by_cases h : n ≤ 281474976710656
    · rw [if_pos h]; intro _; dsimp only; rw [getNum_put n h m]; exact ⟨rfl, rfl, rfl⟩
    · rw [if_neg h]; intro h'; exact absurd h' (by simp)
  · unfold numR
    split
    · exact putL_length n
    · simp

theorem back_text (t m : List UInt8) : ∃ a e x i e2, textR t = (a, e) ∧ getText (a ++ m) = (x, i, e2) ∧ (e = 0 → x = t ∧ i = a.length ∧ e2 = 0) ∧ a.length ≤ 8203 := by
  refine ⟨(textR t).1, (textR t).2, (getText ((textR t).1 ++ m)).1, (getText ((textR t).1 ++ m)).2.1, (getText ((textR t).1 ++ m)).2.2, rfl, rfl, ?_, ?_⟩
  · unfold textR
    by_cases h : t.length ≤ 8192
    · rw [if_pos h]; intro _; dsimp only; rw [getText_put t h m]; exact ⟨rfl, rfl, rfl⟩
    · rw [if_neg h]; intro h'; exact absurd h' (by simp)
  · unfold textR
    split
    · have := putL_length t.length
      rw [textL, List.length_append]; omega
    · simp

theorem flat_length (ls : List (List UInt8)) (h : ∀ t ∈ ls, t.length ≤ 8192) : (ls.flatMap textL).length ≤ 8203 * ls.length := by
  induction ls with
  | nil => simp
  | cons t ls ih =>
    have := ih (fun x hx => h x (by simp [hx]))
    have h1 := h t (by simp)
    have := putL_length t.length
    rw [List.flatMap_cons, List.length_append, List.length_cons, textL, List.length_append]
    omega

theorem listR_length (ls : List (List UInt8)) : (listR ls).1.length ≤ 3000000 := by
  unfold listR
  split
  · simp
  · split
    · simp
    · rename_i h1 h2
      have := flat_length ls (fun t ht => Nat.le_of_not_lt fun hl => h2 ⟨t, ht, hl⟩)
      have := putL_length ls.length
      rw [List.length_append]; omega

theorem back_list (ls : List (List UInt8)) (m : List UInt8) : ∃ a e x i e2, listR ls = (a, e) ∧ getList (a ++ m) = (x, i, e2) ∧ (e = 0 → x = ls ∧ i = a.length ∧ e2 = 0) ∧ a.length ≤ 3000000 ∧ x.length ≤ 256 := by
  refine ⟨(listR ls).1, (listR ls).2, (getList ((listR ls).1 ++ m)).1, (getList ((listR ls).1 ++ m)).2.1, (getList ((listR ls).1 ++ m)).2.2, rfl, rfl, ?_, listR_length ls, getList_length _⟩
  intro h
  have hh := getList_put ls (listR ls).1 m (by rw [← h])
  rw [hh]
  exact ⟨rfl, rfl, rfl⟩

theorem again_num (l : List UInt8) : ∃ x i e a e2, getNum l = (x, i, e) ∧ numR x = (a, e2) ∧ (e = 0 → a = l.take i ∧ e2 = 0) ∧ i ≤ l.length := by
  obtain ⟨n, u, e, hg, h0, h1⟩ := getNum_spec l
  refine ⟨n, u, e, (numR n).1, (numR n).2, hg, rfl, ?_, ?_⟩
  · rintro rfl
    rw [numR, if_pos (h0 rfl).1]
    exact ⟨put_getNum l n u hg, rfl⟩
  · by_cases he : e = 0
    · exact (h0 he).2.2.2
    · rw [(h1 he).2.1]; omega

theorem again_text (l : List UInt8) : ∃ x i e a e2, getText l = (x, i, e) ∧ textR x = (a, e2) ∧ (e = 0 → a = l.take i ∧ e2 = 0) ∧ i ≤ l.length := by
  obtain ⟨t, u, e, hg, h0, h1, -⟩ := getText_spec l
  refine ⟨t, u, e, (textR t).1, (textR t).2, hg, rfl, ?_, ?_⟩
  · rintro rfl
    have h := put_getText l t u hg
    rw [textR, if_pos h.1]
    exact ⟨h.2, rfl⟩
  · by_cases he : e = 0
    · exact (h0 he).1
    · rw [(h1 he).1]; omega

theorem again_list (l : List UInt8) : ∃ x i e a e2, getList l = (x, i, e) ∧ listR x = (a, e2) ∧ (e = 0 → a = l.take i ∧ e2 = 0) ∧ i ≤ l.length := by
  obtain ⟨ls, u, e, hg, h0, h1, -⟩ := getList_spec l
  refine ⟨ls, u, e, (listR ls).1, (listR ls).2, hg, rfl, ?_, ?_⟩
  · rintro rfl
    have h := put_getList l ls u hg
    rw [h]
    exact ⟨rfl, rfl⟩
  · by_cases he : e = 0
    · exact h0 he
    · rw [(h1 he).2]; omega

end Oct
end Go.Proofs.YtbgjoefpnjgdkaaDoor
