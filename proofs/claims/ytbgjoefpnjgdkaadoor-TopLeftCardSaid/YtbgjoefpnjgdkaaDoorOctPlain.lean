/- Plain laws of chapter 1: what is written is read; what is read is written by just the bytes that it took. -/
import Derived.Test.YtbgjoefpnjgdkaaDoorOctGetL
namespace Go.Proofs.YtbgjoefpnjgdkaaDoor
set_option linter.unusedVariables false
set_option linter.unusedSimpArgs false
namespace Oct

theorem gn_run (pre : List UInt8) (b : UInt8) (rest : List UInt8) : ∀ (f i acc : Nat), pre.length < f → (∀ c ∈ pre, 128 ≤ c.toNat) → b.toNat < 128 → ¬ (b.toNat = 0 ∧ 0 < i + pre.length) → acc + val (pre ++ [b]) * 128 ^ i ≤ 281474976710656 →
    gn f i acc (pre ++ b :: rest) = (acc + val (pre ++ [b]) * 128 ^ i, i + pre.length + 1, 0) := by
  induction pre with
  | nil =>
    intro f i acc hf _ hb hz hm
    obtain ⟨f, rfl⟩ : ∃ g, f = g + 1 := ⟨f - 1, by simp at hf; omega⟩
    have hv : val ([] ++ [b]) = b.toNat % 128 := by simp [val]
    rw [hv] at hm ⊢
    rw [List.nil_append, gn, if_neg (by omega), if_neg]
    · simp
    · simp at hz
      intro h
      rcases h with ⟨h1, h2⟩ | h
      · have := hz h1; omega
      · omega
  | cons c pre ih =>
    intro f i acc hf hc hb hz hm
    obtain ⟨f, rfl⟩ : ∃ g, f = g + 1 := ⟨f - 1, by simp at hf; omega⟩
    have h1 := hc c (by simp)
    rw [List.cons_append, gn, if_pos h1]
    have hv : val (c :: pre ++ [b]) * 128 ^ i = c.toNat % 128 * 128 ^ i + val (pre ++ [b]) * 128 ^ (i + 1) := by
      rw [List.cons_append, val, Nat.add_mul, Nat.pow_succ, Nat.mul_comm 128 (val _), Nat.mul_assoc, Nat.mul_comm 128]
    rw [hv] at hm ⊢
    rw [ih f (i + 1) _ (by simp at hf; omega) (fun d hd => hc d (by simp [hd])) hb (by simp at hz ⊢; omega) (by omega)]
    simp only [List.length_cons, Prod.mk.injEq, and_true]
    exact ⟨by rw [Nat.add_assoc], by omega⟩

theorem putF_form (f : Nat) : ∀ n, n < 128 ^ (f + 1) → ∃ pre b, putF f n = pre ++ [b] ∧ (∀ c ∈ pre, 128 ≤ c.toNat) ∧ b.toNat < 128 ∧ val (pre ++ [b]) = n ∧ ¬ (b.toNat = 0 ∧ 0 < pre.length) ∧ (∀ k, n < 128 ^ (k + 1) → pre.length ≤ k) := by
  induction f with
  | zero =>
    intro n hn
    have hn' : n < 128 := by simpa using hn
    have hb : (UInt8.ofNat n).toNat = n := by simp; omega
    refine ⟨[], UInt8.ofNat n, rfl, by simp, by omega, ?_, by simp, by simp⟩
    simp [val]; omega
  | succ f ih =>
    intro n hn
    rw [putF]
    by_cases h : 127 < n
    · rw [if_pos h]
      have hp : 128 ^ (f + 1 + 1) = 128 ^ (f + 1) * 128 := Nat.pow_succ _ _
      obtain ⟨pre, b, h1, h2, h3, h4, h5, h6⟩ := ih (n / 128) (by omega)
      have hc : (UInt8.ofNat (n % 128 + 128)).toNat = n % 128 + 128 := by simp; omega
      refine ⟨UInt8.ofNat (n % 128 + 128) :: pre, b, by rw [h1]; rfl, ?_, h3, ?_, ?_, ?_⟩
      · intro c hcm
        rcases List.mem_cons.1 hcm with rfl | hcm
        · omega
        · exact h2 c hcm
      · rw [List.cons_append, val, h4, hc]; omega
      · rintro ⟨h0, -⟩
        rcases Nat.eq_zero_or_pos pre.length with hl | hl
        · rw [List.length_eq_zero_iff.1 hl] at h4
          simp [val] at h4
          omega
        · exact h5 ⟨h0, hl⟩
      · intro k hk
        cases k with
        | zero => simp at hk; omega
        | succ k =>
          have hp : 128 ^ (k + 1 + 1) = 128 ^ (k + 1) * 128 := Nat.pow_succ _ _
          have := h6 k (by omega)
          simp; exact this
    · rw [if_neg h]
      have hb : (UInt8.ofNat n).toNat = n := by simp; omega
      refine ⟨[], UInt8.ofNat n, rfl, by simp, by omega, ?_, by simp, by simp⟩
      simp [val]; omega

theorem getNum_put (n : Nat) (hn : n ≤ 281474976710656) (m : List UInt8) : getNum (putL n ++ m) = (n, (putL n).length, 0) := by
  have h7 : n < 128 ^ 7 := by simp; omega
  obtain ⟨pre, b, h1, h2, h3, h4, h5, h6⟩ := putF_form 10 n (Nat.lt_of_lt_of_le h7 (Nat.pow_le_pow_right (by omega) (by omega)))
  have hl := h6 6 h7
  unfold getNum putL
  rw [h1]
  have h := gn_run pre b m 7 0 0 (by omega) h2 h3 (by simpa using h5) (by simp; omega)
  rw [List.append_assoc, List.singleton_append, h, h4]
  simp

theorem gn_form (f : Nat) : ∀ (i acc n u : Nat) (l : List UInt8), gn f i acc l = (n, u, 0) → ∃ pre b rest, l = pre ++ b :: rest ∧ (∀ c ∈ pre, 128 ≤ c.toNat) ∧ b.toNat < 128 ∧ ¬ (b.toNat = 0 ∧ 0 < i + pre.length) ∧ n = acc + val (pre ++ [b]) * 128 ^ i ∧ u = i + pre.length + 1 ∧ pre.length < f := by
  induction f with
  | zero => intro i acc n u l h; simp [gn] at h
  | succ f ih =>
    intro i acc n u l h
    cases l with
    | nil => simp [gn] at h
    | cons b t =>
      rw [gn] at h
      split at h
      · rename_i hb
        obtain ⟨pre, b', rest, rfl, h2, h3, h4, h5, h6, h7⟩ := ih _ _ _ _ _ h
        refine ⟨b :: pre, b', rest, rfl, ?_, h3, ?_, ?_, ?_, ?_⟩
        · intro c hc
          rcases List.mem_cons.1 hc with rfl | hc
          · exact hb
          · exact h2 c hc
        · simp only [List.length_cons]; rintro ⟨x, -⟩; exact h4 ⟨x, by omega⟩
        · rw [h5, List.cons_append, val, Nat.add_mul, Nat.pow_succ, Nat.mul_comm 128 (val _), Nat.mul_assoc, Nat.mul_comm 128]; omega
        · simp only [List.length_cons]; omega
        · simp only [List.length_cons]; omega
      · rename_i hb
        split at h
        · simp at h
        · rename_i hb2
          simp only [Prod.mk.injEq] at h
          refine ⟨[], b, t, rfl, by simp, by omega, ?_, ?_, ?_, by simp⟩
          · rintro ⟨h1, h2⟩
            simp at h2
            exact hb2 (.inl ⟨h1, h2⟩)
          · simp [val]; omega
          · simp; omega

theorem put_getNum (l : List UInt8) (n u : Nat) (h : getNum l = (n, u, 0)) : putL n = l.take u := by
  obtain ⟨pre, b, rest, rfl, h2, h3, h4, h5, rfl, h7⟩ := gn_form 7 0 0 n u l h
  have hc := (canon pre b 10 h2 h3 (by omega)).2 (by simpa using h4)
  simp at h5
  rw [← h5] at hc
  unfold putL
  rw [hc, show 0 + pre.length + 1 = (pre ++ [b]).length by simp, show pre ++ b :: rest = (pre ++ [b]) ++ rest by simp, List.take_left]

theorem getText_put (t : List UInt8) (ht : t.length ≤ 8192) (m : List UInt8) : getText (textL t ++ m) = (t, (textL t).length, 0) := by
  unfold textL
  rw [getText, List.append_assoc, getNum_put _ (by omega)]
  simp only [ne_eq, not_true_eq_false, if_false]
  rw [if_neg (by omega), if_neg (by simp), List.drop_left, List.take_left, List.length_append]

theorem put_getText (l t : List UInt8) (u : Nat) (h : getText l = (t, u, 0)) : t.length ≤ 8192 ∧ textL t = l.take u := by
  rw [getText] at h
  obtain ⟨n, v, e, hg, h0, h1⟩ := getNum_spec l
  rw [hg] at h
  by_cases he : e = 0
  · subst he
    have hp := put_getNum l n v hg
    simp only [ne_eq, not_true_eq_false, if_false] at h
    split at h
    · simp at h
    · split at h
      · simp at h
      · rename_i h8 h9
        simp only [Prod.mk.injEq] at h
        obtain ⟨rfl, rfl, -⟩ := h
        have hl : ((l.drop v).take n).length = n := by rw [List.length_take, List.length_drop]; omega
        refine ⟨by omega, ?_⟩
        rw [textL, hl, hp, List.take_add]
  · simp only [ne_eq, he, not_false_eq_true, if_true, Prod.mk.injEq] at h
    exact h.2.2.elim

theorem gts_put (ls : List (List UInt8)) : ∀ (p m : List UInt8) (acc : List (List UInt8)), (∀ t ∈ ls, t.length ≤ 8192) → gts ls.length p.length (p ++ (ls.flatMap textL ++ m)) acc = (acc ++ ls, p.length + (ls.flatMap textL).length, 0) := by
  induction ls with
  | nil => intro p m acc _; simp [gts]
  | cons t ls ih =>
    intro p m acc h
    rw [List.length_cons, gts, List.drop_left, List.flatMap_cons, List.append_assoc, getText_put t (h t (by simp))]
    simp only [ne_eq, not_true_eq_false, if_false]
    have := ih (p ++ textL t) m (acc ++ [t]) (fun x hx => h x (by simp [hx]))
    rw [List.length_append, List.append_assoc] at this
    rw [this]
    simp only [List.append_assoc, List.singleton_append, List.length_append, Prod.mk.injEq, true_and, and_true]
    omega

theorem getList_put (ls : List (List UInt8)) (s m : List UInt8) (h : listR ls = (s, 0)) : getList (s ++ m) = (ls, s.length, 0) := by
  rw [listR] at h
  split at h
  · simp at h
  · split at h
    · simp at h
    · rename_i h1 h2
      simp only [Prod.mk.injEq, and_true] at h
      subst h
      rw [getList, List.append_assoc, getNum_put _ (by omega)]
      simp only [ne_eq, not_true_eq_false, if_false]
      rw [if_neg (by omega), gts_put ls _ m [] (fun t ht => Nat.le_of_not_lt fun hl => h2 ⟨t, ht, hl⟩)]
      simp

theorem gts_form (n : Nat) : ∀ (at_ u : Nat) (l : List UInt8) (acc ls : List (List UInt8)), at_ ≤ l.length → gts n at_ l acc = (ls, u, 0) → ∃ ls', ls = acc ++ ls' ∧ ls'.length = n ∧ (∀ t ∈ ls', t.length ≤ 8192) ∧ at_ ≤ u ∧ u ≤ l.length ∧ l.take u = l.take at_ ++ ls'.flatMap textL := by
  induction n with
  | zero =>
    intro at_ u l acc ls ha h
    simp only [gts, Prod.mk.injEq, and_true] at h
    obtain ⟨rfl, rfl⟩ := h
    exact ⟨[], by simp, rfl, by simp, by omega, ha, by simp⟩
  | succ n ih =>
    intro at_ u l acc ls ha h
    obtain ⟨t, v, e, hg, h0, h1, h2⟩ := getText_spec (l.drop at_)
    rw [gts, hg] at h
    by_cases he : e = 0
    · subst he
      obtain ⟨hv, -⟩ := h0 rfl
      rw [List.length_drop] at hv
      obtain ⟨ht8, hp⟩ := put_getText _ _ _ hg
      simp only [ne_eq, not_true_eq_false, if_false] at h
      obtain ⟨ls', rfl, h3, h4, h5, h6, h7⟩ := ih _ _ _ _ _ (by omega) h
      refine ⟨t :: ls', by simp, by simp [h3], ?_, by omega, h6, ?_⟩
      · intro x hx
        rcases List.mem_cons.1 hx with rfl | hx
        · exact ht8
        · exact h4 x hx
      · rw [h7, List.flatMap_cons, hp, List.take_add, List.append_assoc]
    · simp only [ne_eq, he, not_false_eq_true, if_true, Prod.mk.injEq] at h
      exact h.2.2.elim

theorem put_getList (l : List UInt8) (ls : List (List UInt8)) (u : Nat) (h : getList l = (ls, u, 0)) : listR ls = (l.take u, 0) := by
  rw [getList] at h
  obtain ⟨n, v, e, hg, h0, h1⟩ := getNum_spec l
  rw [hg] at h
  by_cases he : e = 0
  · subst he
    have hp := put_getNum l n v hg
    obtain ⟨-, -, -, hv⟩ := h0 rfl
    simp only [ne_eq, not_true_eq_false, if_false] at h
    split at h
    · simp at h
    · rename_i h8
      obtain ⟨ls', h2, h3, h4, h5, h6, h7⟩ := gts_form _ _ _ _ _ _ hv h
      rw [List.nil_append] at h2
      subst h2
      rw [listR, h3, if_neg h8, if_neg (fun ⟨t, ht, hl⟩ => by have := h4 t ht; omega), h7, hp]
  · simp only [ne_eq, he, not_false_eq_true, if_true, Prod.mk.injEq] at h
    exact h.2.2.elim
end Oct
end Go.Proofs.YtbgjoefpnjgdkaaDoor
