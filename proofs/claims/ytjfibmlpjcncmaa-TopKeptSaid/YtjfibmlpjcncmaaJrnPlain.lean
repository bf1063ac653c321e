/- Plain laws of chapter 9: the records that bytes begin with. -/
import Derived.Test.YtjfibmlpjcncmaaOctPlain
import Derived.Test.YtjfibmlpjcncmaaCrcWalks
namespace Go.Proofs.Ytjfibmlpjcncmaa
set_option linter.unusedVariables false
set_option linter.unusedSimpArgs false
namespace Jrn
open Oct Crc

/-- a record's bytes -/
def recB (t : List UInt8) : List UInt8 := textL t ++ top4 (crc (textL t))
def bytesR (t : List UInt8) : List UInt8 × Nat := if t.length ≤ 8192 then (recB t, 0) else ([], 7)

theorem textL_pos (t : List UInt8) : 0 < (textL t).length := by
  obtain ⟨pre, b, h, -⟩ := putF_form 10 (t.length % 128 ^ 11) (Nat.mod_lt _ (by decide))
  rw [textL, List.length_append]
  have : 0 < (putL t.length).length := by
    unfold putL putF
    split <;> simp
  omega
theorem textL_length (t : List UInt8) : (textL t).length ≤ t.length + 11 := by
  have := putL_length t.length
  rw [textL, List.length_append]; omega
theorem recB_length (t : List UInt8) : (recB t).length = (textL t).length + 4 := by simp [recB, top4]
theorem recB_pos (t : List UInt8) : 5 ≤ (recB t).length := by rw [recB_length]; have := textL_pos t; omega

/-- the record that bytes begin with, and how many bytes it takes -/
def step (l : List UInt8) : Option (List UInt8 × Nat) :=
  if (getText l).2.2 ≠ 0 then none
  else if l.length < (getText l).2.1 + 4 then none
  else if good (l.take ((getText l).2.1 + 4)) = true then some ((getText l).1, (getText l).2.1 + 4) else none

theorem step_some (l t : List UInt8) (k : Nat) : step l = some (t, k) ↔ t.length ≤ 8192 ∧ k = (recB t).length ∧ ∃ m, l = recB t ++ m := by
  constructor
  · intro h
    obtain ⟨x, u, e, hg, h0, h1, h2⟩ := getText_spec l
    rw [step, hg] at h
    by_cases he : e = 0
    · subst he
      simp only [ne_eq, not_true_eq_false, if_false] at h
      split at h
      · simp at h
      · rename_i hl
        split at h
        · rename_i hgood
          simp only [Option.some.injEq, Prod.mk.injEq] at h
          obtain ⟨rfl, rfl⟩ := h
          obtain ⟨ht, hp⟩ := put_getText l x u hg
          have hlen : (textL x).length = u := by rw [hp, List.length_take]; omega
          have hsplit : l.take (u + 4) = textL x ++ (l.drop u).take 4 := by rw [List.take_add, hp]
          unfold good at hgood
          rw [Bool.and_eq_true, decide_eq_true_eq, decide_eq_true_eq, hsplit] at hgood
          have h4 : ((l.drop u).take 4).length = 4 := by rw [List.length_take, List.length_drop]; omega
          have hz := (crc_zero _ _ h4).1 hgood.2
          refine ⟨ht, by rw [recB_length, hlen], l.drop (u + 4), ?_⟩
          rw [recB, ← hz, ← hsplit, List.take_append_drop]
        · simp at h
    · simp [he] at h
  · rintro ⟨ht, rfl, m, rfl⟩
    have hg := getText_put t ht (top4 (crc (textL t)) ++ m)
    rw [← List.append_assoc] at hg
    rw [step, show recB t ++ m = textL t ++ top4 (crc (textL t)) ++ m from rfl, hg]
    simp only [ne_eq, not_true_eq_false, if_false]
    have h4 : (top4 (crc (textL t))).length = 4 := by simp [top4]
    rw [if_neg (by simp [h4])]
    have htk : (textL t ++ top4 (crc (textL t)) ++ m).take ((textL t).length + 4) = textL t ++ top4 (crc (textL t)) := by
      rw [show (textL t).length + 4 = (textL t ++ top4 (crc (textL t))).length by simp [h4], List.take_left]
    have hgood : good (textL t ++ top4 (crc (textL t))) = true := by
      unfold good
      rw [Bool.and_eq_true, decide_eq_true_eq, decide_eq_true_eq]
      exact ⟨by simp [h4], (crc_zero _ _ h4).2 rfl⟩
    rw [htk, if_pos hgood, recB_length]

theorem step_none (l : List UInt8) (h : step l = none) (t m : List UInt8) (ht : t.length ≤ 8192) : l ≠ recB t ++ m := by
  intro e
  have := (step_some l t _).2 ⟨ht, rfl, m, e⟩
  rw [h] at this
  cases this

theorem step_length (l t : List UInt8) (k : Nat) (h : step l = some (t, k)) : 5 ≤ k ∧ k ≤ l.length := by
  obtain ⟨-, rfl, m, rfl⟩ := (step_some l t k).1 h
  exact ⟨recB_pos t, by simp⟩

/-- the records from a place on, each with the place behind it -/
def recs : Nat → Nat → List UInt8 → List (Nat × List UInt8)
  | 0, _, _ => []
  | f + 1, at_, l => match step (l.drop at_) with
    | none => []
    | some (t, k) => (at_ + k, t) :: recs f (at_ + k) l

theorem recs_fuel (f : Nat) : ∀ (g at_ : Nat) (l : List UInt8), l.length < at_ + f → l.length < at_ + g → recs f at_ l = recs g at_ l := by
  have none_of : ∀ (at_ : Nat) (l : List UInt8), l.length ≤ at_ → step (l.drop at_) = none := fun at_ l h => by
    cases hs : step (l.drop at_) with
    | none => rfl
    | some x => have := step_length _ _ _ hs; rw [List.length_drop] at this; omega
  induction f with
  | zero =>
    intro g at_ l hf hg
    cases g with
    | zero => rfl
    | succ g => rw [recs, recs, none_of at_ l (by omega)]
  | succ f ih =>
    intro g at_ l hf hg
    cases g with
    | zero => rw [recs, recs, none_of at_ l (by omega)]
    | succ g =>
      rw [recs, recs]
      cases hs : step (l.drop at_) with
      | none => rfl
      | some x =>
        obtain ⟨t, k⟩ := x
        have := step_length _ _ _ hs
        dsimp only
        rw [ih g (at_ + k) l (by omega) (by omega)]

/-- how far the records reach -/
def lastAt (at_ : Nat) : List (Nat × List UInt8) → Nat
  | [] => at_
  | x :: xs => lastAt x.1 xs
theorem lastAt_append (xs : List (Nat × List UInt8)) : ∀ (at_ : Nat) (x : Nat × List UInt8), lastAt at_ (xs ++ [x]) = x.1 := by
  induction xs with
  | nil => intro at_ x; rfl
  | cons y ys ih => intro at_ x; exact ih _ _

theorem recs_last (f : Nat) : ∀ (at_ : Nat) (l : List UInt8), at_ ≤ l.length → at_ ≤ lastAt at_ (recs f at_ l) ∧ lastAt at_ (recs f at_ l) ≤ l.length := by
  induction f with
  | zero => intro at_ l h; exact ⟨Nat.le_refl _, h⟩
  | succ f ih =>
    intro at_ l h
    rw [recs]
    cases hs : step (l.drop at_) with
    | none => exact ⟨Nat.le_refl _, h⟩
    | some x =>
      obtain ⟨t, k⟩ := x
      have hk := step_length _ _ _ hs
      rw [List.length_drop] at hk
      have := ih (at_ + k) l (by omega)
      exact ⟨by simp only [lastAt]; omega, this.2⟩

theorem recs_length (f : Nat) : ∀ (at_ : Nat) (l : List UInt8), at_ ≤ l.length → 5 * (recs f at_ l).length + at_ ≤ l.length := by
  induction f with
  | zero => intro at_ l h; simpa [recs] using h
  | succ f ih =>
    intro at_ l h
    rw [recs]
    cases hs : step (l.drop at_) with
    | none => simpa using h
    | some x =>
      obtain ⟨t, k⟩ := x
      have hk := step_length _ _ _ hs
      rw [List.length_drop] at hk
      have := ih (at_ + k) l (by omega)
      simp only [List.length_cons]
      omega

/-- what Read gives: the records, and how many bytes are good -/
def readR (l : List UInt8) : List (List UInt8) × Nat := ((recs (l.length + 1) 0 l).map (·.2), lastAt 0 (recs (l.length + 1) 0 l))

/-- the bytes of records -/
def recsB (ts : List (List UInt8)) : List UInt8 := ts.flatMap recB

/-- the records take just their bytes, and behind them there is none -/
theorem recs_spec (f : Nat) : ∀ (at_ : Nat) (l : List UInt8), at_ ≤ l.length → l.length < at_ + f →
    l.drop at_ = recsB ((recs f at_ l).map (·.2)) ++ l.drop (lastAt at_ (recs f at_ l)) ∧ (∀ t ∈ (recs f at_ l).map (·.2), t.length ≤ 8192) ∧ step (l.drop (lastAt at_ (recs f at_ l))) = none := by
  induction f with
  | zero => intro at_ l h h'; omega
  | succ f ih =>
    intro at_ l h h'
    rw [recs]
    cases hs : step (l.drop at_) with
    | none => exact ⟨by simp [recsB, lastAt], by simp, hs⟩
    | some x =>
      obtain ⟨t, k⟩ := x
      have hk := step_length _ _ _ hs
      rw [List.length_drop] at hk
      obtain ⟨h1, h2, h3⟩ := ih (at_ + k) l (by omega) (by omega)
      obtain ⟨ht, rfl, m, hm⟩ := (step_some _ _ _).1 hs
      refine ⟨?_, ?_, h3⟩
      · have hd : l.drop (at_ + (recB t).length) = m := by rw [← List.drop_drop, hm, List.drop_left]
        simp only [List.map_cons, recsB, List.flatMap_cons, lastAt, List.append_assoc]
        rw [hm, ← hd]
        congr 1
      · intro x hx
        simp only [List.map_cons, List.mem_cons] at hx
        rcases hx with rfl | hx
        · exact ht
        · exact h2 x hx

theorem readR_spec (l : List UInt8) : l = recsB (readR l).1 ++ l.drop (readR l).2 ∧ (∀ t ∈ (readR l).1, t.length ≤ 8192) ∧ step (l.drop (readR l).2) = none ∧ (readR l).2 ≤ l.length ∧ (readR l).2 = (recsB (readR l).1).length := by
  obtain ⟨h1, h2, h3⟩ := recs_spec (l.length + 1) 0 l (by omega) (by omega)
  rw [List.drop_zero] at h1
  have h4 := (recs_last (l.length + 1) 0 l (by omega)).2
  refine ⟨h1, h2, h3, h4, ?_⟩
  have := congrArg List.length h1
  rw [List.length_append, List.length_drop] at this
  simp only [readR]
  omega

/-- it is the only way to take bytes apart so -/
theorem recs_unique (ts : List (List UInt8)) : ∀ (us : List (List UInt8)) (m n : List UInt8), (∀ t ∈ ts, t.length ≤ 8192) → (∀ t ∈ us, t.length ≤ 8192) → step m = none → step n = none → recsB ts ++ m = recsB us ++ n → ts = us ∧ m = n := by
  induction ts with
  | nil =>
    intro us m n _ hu hm hn h
    cases us with
    | nil => exact ⟨rfl, by simpa [recsB] using h⟩
    | cons u us =>
      exfalso
      refine step_none m hm u (recsB us ++ n) (hu u (by simp)) ?_
      simpa [recsB] using h
  | cons t ts ih =>
    intro us m n ht hu hm hn h
    cases us with
    | nil =>
      exfalso
      refine step_none n hn t (recsB ts ++ m) (ht t (by simp)) ?_
      simpa [recsB] using h.symm
    | cons u us =>
      have h1 := (step_some (recsB (t :: ts) ++ m) t _).2 ⟨ht t (by simp), rfl, recsB ts ++ m, by simp [recsB]⟩
      have h2 := (step_some (recsB (u :: us) ++ n) u _).2 ⟨hu u (by simp), rfl, recsB us ++ n, by simp [recsB]⟩
      rw [h, h2] at h1
      simp only [Option.some.injEq, Prod.mk.injEq] at h1
      obtain ⟨rfl, -⟩ := h1
      have h3 : recsB ts ++ m = recsB us ++ n := by
        have : recB u ++ (recsB ts ++ m) = recB u ++ (recsB us ++ n) := by simpa [recsB] using h
        exact List.append_cancel_left this
      obtain ⟨rfl, rfl⟩ := ih us m n (fun x hx => ht x (by simp [hx])) (fun x hx => hu x (by simp [hx])) hm hn h3
      exact ⟨rfl, rfl⟩

theorem readR_of (ts : List (List UInt8)) (m : List UInt8) (ht : ∀ t ∈ ts, t.length ≤ 8192) (hm : step m = none) : readR (recsB ts ++ m) = (ts, (recsB ts).length) := by
  obtain ⟨h1, h2, h3, -, h5⟩ := readR_spec (recsB ts ++ m)
  obtain ⟨he, -⟩ := recs_unique _ _ _ _ h2 ht h3 hm h1.symm
  refine Prod.ext he ?_
  rw [h5, he]

theorem step_nil : step [] = none := by
  cases hs : step [] with
  | none => rfl
  | some x => have := step_length _ _ _ hs; simp at this; omega
end Jrn
end Go.Proofs.Ytjfibmlpjcncmaa
