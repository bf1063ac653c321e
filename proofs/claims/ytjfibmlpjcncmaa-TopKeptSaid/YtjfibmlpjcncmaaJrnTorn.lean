/- Plain law of chapter 9: of records of which a failure leaves a beginning, but for its last byte, there is a beginning of the records. -/
import Derived.Test.YtjfibmlpjcncmaaJrnPlain
namespace Go.Proofs.Ytjfibmlpjcncmaa
set_option linter.unusedVariables false
set_option linter.unusedSimpArgs false
namespace Jrn
open Oct Crc

theorem putL_two (n : Nat) (h : n ≤ 8192) : (putL n).length ≤ 2 := by
  obtain ⟨pre, b, h1, -, -, -, -, h6⟩ := putF_form 10 n (Nat.lt_of_lt_of_le (Nat.lt_of_le_of_lt h (by decide : 8192 < 128 ^ 2)) (Nat.pow_le_pow_right (by omega) (by omega)))
  have := h6 1 (by omega)
  unfold putL
  rw [h1, List.length_append]
  simp; omega

theorem step_torn (t F : List UInt8) (ht : t.length ≤ 8192) (hp : 0 < F.length) (hl : F.length ≤ (recB t).length) (hF : F.take (F.length - 1) = (recB t).take (F.length - 1)) (hne : F ≠ recB t) : step F = none := by
  cases hs : step F with
  | none => rfl
  | some x =>
    exfalso
    obtain ⟨t', u⟩ := x
    obtain ⟨ht', rfl, m, hm⟩ := (step_some _ _ _).1 hs
    have h5 := recB_pos t'
    have hlen : F.length = (recB t').length + m.length := by rw [hm, List.length_append]
    have h2 := putL_two t.length ht
    -- the head stands
    have hhead : F = putL t.length ++ F.drop (putL t.length).length := by
      have h : F.take (putL t.length).length = putL t.length := by
        have := congrArg (List.take (putL t.length).length) hF
        rw [List.take_take, List.take_take, Nat.min_eq_left (by omega)] at this
        rw [this, recB, textL, List.append_assoc, List.take_left]
      have h' := List.take_append_drop (putL t.length).length F
      rw [h] at h'
      exact h'.symm
    have g1 := getNum_put t.length (by omega) (F.drop (putL t.length).length)
    rw [← hhead] at g1
    have g2 := getNum_put t'.length (by omega) (t' ++ (top4 (crc (textL t')) ++ m))
    rw [show putL t'.length ++ (t' ++ (top4 (crc (textL t')) ++ m)) = F by rw [hm, recB, textL]; simp, g1] at g2
    simp only [Prod.mk.injEq, and_true] at g2
    have e1 : (recB t').length = (recB t).length := by rw [recB_length, recB_length, textL, textL, List.length_append, List.length_append, g2.1]
    have hm0 : m = [] := List.length_eq_zero_iff.1 (by omega)
    subst hm0
    -- the text stands
    have hk : (textL t).length = F.length - 4 := by have := recB_length t; omega
    have htext : F = textL t ++ F.drop (textL t).length := by
      have h : F.take (textL t).length = textL t := by
        have := congrArg (List.take (textL t).length) hF
        rw [List.take_take, List.take_take, Nat.min_eq_left (by omega)] at this
        rw [this, recB, List.take_left]
      have h' := List.take_append_drop (textL t).length F
      rw [h] at h'
      exact h'.symm
    have k1 := getText_put t ht (F.drop (textL t).length)
    rw [← htext] at k1
    have k2 := getText_put t' ht' (top4 (crc (textL t')))
    rw [show textL t' ++ top4 (crc (textL t')) = F by rw [hm, recB]; simp, k1] at k2
    simp only [Prod.mk.injEq, and_true] at k2
    apply hne
    rw [hm, k2.1]
    simp

theorem torn0 (ls : List (List UInt8)) : ∀ (F : List UInt8), (∀ t ∈ ls, t.length ≤ 8192) → 0 < F.length → F.length ≤ (recsB ls).length → F.take (F.length - 1) = (recsB ls).take (F.length - 1) →
    ∃ j m, j ≤ ls.length ∧ F = recsB (ls.take j) ++ m ∧ step m = none ∧ ∀ k, k ≤ ls.length → (recsB (ls.take k)).length < F.length → k ≤ j := by
  induction ls with
  | nil => intro F _ h1 h2 _; simp [recsB] at h2; rw [h2] at h1; simp at h1
  | cons t ls ih =>
    intro F ht h1 h2 h3
    have hcons : recsB (t :: ls) = recB t ++ recsB ls := by simp [recsB]
    by_cases hp : (recB t).length < F.length
    · have hsplit : F.take (recB t).length = recB t := by
        have := congrArg (List.take (recB t).length) h3
        rw [List.take_take, List.take_take, Nat.min_eq_left (by omega), hcons, List.take_left] at this
        exact this
      have hF : F = recB t ++ F.drop (recB t).length := by
        have := List.take_append_drop (recB t).length F
        rw [hsplit] at this
        exact this.symm
      generalize hG : F.drop (recB t).length = G at hF
      subst hF
      rw [List.length_append] at h2 h3 hp
      rw [hcons, List.length_append] at h2
      have h3' : G.take (G.length - 1) = (recsB ls).take (G.length - 1) := by
        rw [hcons, show (recB t).length + G.length - 1 = (recB t).length + (G.length - 1) by omega, List.take_length_add_append, List.take_length_add_append] at h3
        exact List.append_cancel_left h3
      obtain ⟨j, m, hj, hm, hs, hk⟩ := ih G (fun x hx => ht x (by simp [hx])) (by omega) (by omega) h3'
      refine ⟨j + 1, m, by simp; omega, ?_, hs, ?_⟩
      · rw [hm]; simp [recsB]
      · intro k hkl hlt
        cases k with
        | zero => omega
        | succ k =>
          have : recsB ((t :: ls).take (k + 1)) = recB t ++ recsB (ls.take k) := by simp [recsB]
          rw [this, List.length_append, List.length_append] at hlt
          have := hk k (by simp at hkl; omega) (by omega)
          omega
    · have hkz : ∀ k, k ≤ (t :: ls).length → (recsB ((t :: ls).take k)).length < F.length → k ≤ 0 := by
        intro k _ hlt
        cases k with
        | zero => omega
        | succ k =>
          have : recsB ((t :: ls).take (k + 1)) = recB t ++ recsB (ls.take k) := by simp [recsB]
          rw [this, List.length_append] at hlt
          omega
      have h3' : F.take (F.length - 1) = (recB t).take (F.length - 1) := by
        rw [h3, hcons, List.take_append_of_le_length (by omega)]
      by_cases hne : F = recB t
      · refine ⟨1, [], by simp, ?_, step_nil, fun k hk hlt => by have := hkz k hk hlt; omega⟩
        rw [hne]; simp [recsB]
      · exact ⟨0, F, by omega, by simp [recsB], step_torn t F (ht t (by simp)) h1 (by omega) h3' hne, hkz⟩

theorem take_recs (ls : List (List UInt8)) : ∀ k, (recsB ls).take (recsB (ls.take k)).length = recsB (ls.take k) := by
  intro k
  have : recsB ls = recsB (ls.take k) ++ recsB (ls.drop k) := by
    unfold recsB
    rw [← List.flatMap_append, List.take_append_drop]
  rw [this, List.take_left]

/-- what Read gives of what a failure has left -/
theorem torn (ls : List (List UInt8)) (k : Nat) (hk : k ≤ ls.length) (ht : ∀ t ∈ ls, t.length ≤ 8192) (F : List UInt8) (h1 : (recsB (ls.take k)).length ≤ F.length) (h2 : F.length ≤ (recsB ls).length)
    (h3 : F.length = (recsB (ls.take k)).length → F = recsB (ls.take k)) (h4 : (recsB (ls.take k)).length < F.length → F.take (F.length - 1) = (recsB ls).take (F.length - 1)) :
    ∃ j, k ≤ j ∧ j ≤ ls.length ∧ readR F = (ls.take j, (recsB (ls.take j)).length) ∧ F.take (recsB (ls.take j)).length = recsB (ls.take j) := by
  have hsub : ∀ j, ∀ t ∈ ls.take j, t.length ≤ 8192 := fun j t h => ht t (List.mem_of_mem_take h)
  by_cases h : F.length = (recsB (ls.take k)).length
  · have hF := h3 h
    refine ⟨k, Nat.le_refl _, hk, ?_, by rw [hF, List.take_length]⟩
    have := readR_of (ls.take k) [] (hsub k) step_nil
    rw [List.append_nil] at this
    rw [hF, this]
  · obtain ⟨j, m, hj, hm, hs, hkk⟩ := torn0 ls F ht (by omega) h2 (h4 (by omega))
    refine ⟨j, hkk k hk (by omega), hj, ?_, by rw [hm, List.take_left]⟩
    rw [hm]
    exact readR_of _ m (hsub j) hs

/-- records alone -/
theorem read_recs (ls : List (List UInt8)) (ht : ∀ t ∈ ls, t.length ≤ 8192) : readR (recsB ls) = (ls, (recsB ls).length) := by
  have := readR_of ls [] ht step_nil
  rwa [List.append_nil] at this

theorem recsB_append (ls : List (List UInt8)) (t : List UInt8) : recsB (ls ++ [t]) = recsB ls ++ recB t := by simp [recsB]
theorem recsB_count (ls : List (List UInt8)) : 5 * ls.length ≤ (recsB ls).length := by
  induction ls with
  | nil => simp
  | cons t ls ih =>
    have := recB_pos t
    have h : recsB (t :: ls) = recB t ++ recsB ls := by simp [recsB]
    rw [h, List.length_append, List.length_cons]; omega
end Jrn
end Go.Proofs.Ytjfibmlpjcncmaa
