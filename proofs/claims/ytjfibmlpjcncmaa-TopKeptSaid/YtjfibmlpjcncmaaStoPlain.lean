/- Plain laws of chapter 10: what is written anew is no longer, and tells the same. -/
import Derived.Test.YtjfibmlpjcncmaaStoAnew
import Derived.Test.YtjfibmlpjcncmaaJrnTorn
namespace Go.Proofs.Ytjfibmlpjcncmaa
set_option linter.unusedVariables false
set_option linter.unusedSimpArgs false
namespace Sto
open Oct Crc Disk Jrn

theorem all_list (r : List UInt8) (ls : List (List UInt8)) (h : allR r = (ls, 0)) : listR ls = (r, 0) := by
  obtain ⟨xs, u, e, hg, h0, h1, h2⟩ := getList_spec r
  rw [allR, hg] at h
  by_cases he : e = 0
  · subst he
    simp only [ne_eq, not_true_eq_false, if_false] at h
    split at h
    · simp at h
    · rename_i hu
      simp only [Prod.mk.injEq, and_true] at h
      subst h
      have := put_getList r xs u hg
      rwa [List.take_of_length_le (by omega)] at this
  · simp only [ne_eq, he, not_false_eq_true, if_true, Prod.mk.injEq] at h
    exact h.2.elim

theorem list_all (r : List UInt8) (ls : List (List UInt8)) (h : listR ls = (r, 0)) : allR r = (ls, 0) := by
  have := getList_put ls r [] h
  rw [List.append_nil] at this
  rw [allR, this]
  simp

/-- an entry that has a record; a count -/
def EntOk (e : List UInt8) : Prop := (entR e).2 = 0 ∧ (entR e).1.length ≤ 8192

theorem entB_ok (e : List UInt8) (h : EntOk e) : entB e = recB (entR e).1 := by
  rw [entB, bytesR, if_pos h.2]

theorem cnt_ok (n : Nat) (h : n ≤ 1048576) : (cntR (n : Int)).2 = 0 ∧ (cntR (n : Int)).1.length ≤ 8192 ∧ cntR (n : Int) = listR [[99], putL n] := by
  have hl := putL_length n
  have e : cntR (n : Int) = listR [[99], putL n] := by
    rw [cntR, if_neg (by omega)]; rfl
  rw [e, listR, if_neg (by simp), if_neg (by simp; omega)]
  have h2 := putL_length 2
  have h3 := putL_length (putL n).length
  have h4 := putL_length 1
  refine ⟨rfl, ?_, rfl⟩
  simp [textL]
  omega

theorem cntB_ok (n : Nat) (h0 : 0 < n) (h : n ≤ 1048576) : cntB n = recB (cntR (n : Int)).1 := by
  rw [cntB, if_pos h0, bytesR, if_pos (cnt_ok n h).2.1]

theorem takeR_cases (es : List (List UInt8)) (c : Nat) (r : List UInt8) (es' : List (List UInt8)) (c' : Nat) (hr : r.length ≤ 8192) (h : takeR es c r = some (es', c')) :
    (∃ b, es' = es ++ [b] ∧ c' = c ∧ entR b = (r, 0)) ∨ (∃ n, es' = es ∧ c' = max c n ∧ n ≤ 1048576 ∧ cntR (n : Int) = (r, 0)) := by
  unfold takeR at h
  obtain ⟨ls, e, hq⟩ : ∃ ls e, allR r = (ls, e) := ⟨_, _, rfl⟩
  rw [hq] at h
  dsimp only at h
  by_cases he : e = 0
  · subst he
    have hl := all_list r ls hq
    rw [if_neg (by simp)] at h
    match ls, hl, h with
    | [], _, h => cases h
    | [_], _, h => cases h
    | _ :: _ :: _ :: _, _, h => cases h
    | [a, b], hl, h =>
      dsimp only at h
      by_cases ha : a = [101]
      · subst ha
        rw [if_pos rfl] at h
        cases h
        exact .inl ⟨b, rfl, rfl, hl⟩
      · rw [if_neg ha] at h
        by_cases ha9 : a = [99]
        · subst ha9
          obtain ⟨n, u, e, hg, h0, h1⟩ := getNum_spec b
          rw [if_pos rfl, hg] at h
          dsimp only at h
          by_cases he : e = 0
          · subst he
            rw [if_neg (by simp)] at h
            by_cases hu : u < b.length
            · rw [if_pos hu] at h; cases h
            · rw [if_neg hu] at h
              by_cases hn : 1048576 < n
              · rw [if_pos hn] at h; cases h
              · rw [if_neg hn] at h
                cases h
                have hp := put_getNum b n u hg
                rw [List.take_of_length_le (by omega)] at hp
                refine .inr ⟨n, rfl, rfl, by omega, ?_⟩
                rw [(cnt_ok n (by omega)).2.2, hp]
                exact hl
          · rw [if_pos he] at h; cases h
        · rw [if_neg ha9] at h; cases h
  · rw [if_pos he] at h
    cases h

theorem loadF_length (rs : List (List UInt8)) : ∀ (es0 : List (List UInt8)) (c0 : Nat) (es : List (List UInt8)) (c : Nat), (∀ r ∈ rs, r.length ≤ 8192) → (∀ e ∈ es0, EntOk e) → loadF rs es0 c0 = some (es, c) →
    (es.flatMap entB).length + (cntB c).length ≤ (es0.flatMap entB).length + (cntB c0).length + (recsB rs).length ∧ (∀ e ∈ es, EntOk e) ∧ (c0 ≤ 1048576 → c ≤ 1048576) := by
  induction rs with
  | nil =>
    intro es0 c0 es c _ he h
    simp only [loadF, Option.some.injEq, Prod.mk.injEq] at h
    obtain ⟨rfl, rfl⟩ := h
    exact ⟨by omega, he, id⟩
  | cons r rs ih =>
    intro es0 c0 es c hr he h
    rw [loadF] at h
    have hcons : recsB (r :: rs) = recB r ++ recsB rs := by simp [recsB]
    cases hk : takeR es0 c0 r with
    | none => rw [hk] at h; cases h
    | some x =>
      obtain ⟨es1, c1⟩ := x
      rw [hk] at h
      dsimp only at h
      have hr8 := hr r (by simp)
      rcases takeR_cases es0 c0 r es1 c1 hr8 hk with ⟨b, rfl, rfl, hb⟩ | ⟨n, rfl, rfl, hn, hb⟩
      · have hok : EntOk b := by rw [EntOk, hb]; exact ⟨rfl, hr8⟩
        obtain ⟨h1, h2, h3⟩ := ih _ _ _ _ (fun x hx => hr x (by simp [hx])) (fun e hm => by
          rcases List.mem_append.1 hm with hm | hm
          · exact he e hm
          · rw [List.mem_singleton.1 hm]; exact hok) h
        refine ⟨?_, h2, h3⟩
        rw [List.flatMap_append, List.length_append] at h1
        rw [hcons, List.length_append]
        have : (([b] : List (List UInt8)).flatMap entB).length = (recB r).length := by simp [entB_ok b hok, hb]
        omega
      · obtain ⟨h1, h2, h3⟩ := ih _ _ _ _ (fun x hx => hr x (by simp [hx])) he h
        refine ⟨?_, h2, fun h => h3 (by omega)⟩
        rw [hcons, List.length_append]
        have hmax : (cntB (max c0 n)).length ≤ (cntB c0).length + (recB r).length := by
          rcases Nat.le_total n c0 with hle | hle
          · rw [Nat.max_eq_left hle]; omega
          · rw [Nat.max_eq_right hle]
            by_cases h0 : 0 < n
            · rw [cntB_ok n h0 hn, hb]; show (recB r).length ≤ _; omega
            · rw [cntB, if_neg h0]; simp
        omega

theorem loadR_spec (l : List UInt8) (es : List (List UInt8)) (c : Nat) (h : loadR l = (es, c, 0)) : (anewL es c).length ≤ l.length ∧ (∀ e ∈ es, EntOk e) ∧ c ≤ 1048576 ∧ loadF (readR l).1 [] 0 = some (es, c) := by
  unfold loadR at h
  obtain ⟨h1, h2, h3, h4, h5⟩ := readR_spec l
  cases hk : loadF (readR l).1 [] 0 with
  | none => rw [hk] at h; simp at h
  | some x =>
    obtain ⟨es1, c1⟩ := x
    rw [hk] at h
    simp only [Prod.mk.injEq, and_true] at h
    obtain ⟨rfl, rfl⟩ := h
    obtain ⟨g1, g2, g3⟩ := loadF_length _ _ _ _ _ h2 (by simp) hk
    refine ⟨?_, g2, g3 (by omega), rfl⟩
    rw [anewL, List.length_append]
    simp [cntB] at g1 ⊢
    omega

theorem loadR_err (l : List UInt8) : (loadR l).2.2 = 0 ∨ loadR l = ([], 0, 6) := by
  unfold loadR
  split
  · exact .inr rfl
  · exact .inl rfl

theorem takeR_ent (es : List (List UInt8)) (c : Nat) (e : List UInt8) (h : EntOk e) : takeR es c (entR e).1 = some (es ++ [e], c) := by
  have hl : listR [[101], e] = ((entR e).1, 0) := Prod.ext rfl h.1
  rw [takeR, list_all _ _ hl]
  simp

theorem takeR_cnt (es : List (List UInt8)) (c n : Nat) (h : n ≤ 1048576) : takeR es c (cntR (n : Int)).1 = some (es, max c n) := by
  obtain ⟨h1, h2, h3⟩ := cnt_ok n h
  have hl : listR [[99], putL n] = ((cntR (n : Int)).1, 0) := by rw [← h3]; exact Prod.ext rfl h1
  have hg := getNum_put n (by omega) []
  rw [List.append_nil] at hg
  rw [takeR, list_all _ _ hl]
  dsimp only
  rw [if_neg (by simp), if_neg (by decide), if_pos rfl, hg]
  dsimp only
  rw [if_neg (by simp), if_neg (by omega), if_neg (by omega)]

theorem loadF_append (rs ss : List (List UInt8)) : ∀ es c, loadF (rs ++ ss) es c = match loadF rs es c with
    | none => none
    | some (es', c') => loadF ss es' c' := by
  induction rs with
  | nil => intro es c; rfl
  | cons r rs ih =>
    intro es c
    rw [List.cons_append, loadF, loadF]
    cases takeR es c r with
    | none => rfl
    | some x => exact ih _ _

theorem loadF_ents (es : List (List UInt8)) : ∀ es0 c, (∀ e ∈ es, EntOk e) → loadF (es.map fun e => (entR e).1) es0 c = some (es0 ++ es, c) := by
  induction es with
  | nil => intro es0 c _; simp [loadF]
  | cons e es ih =>
    intro es0 c h
    rw [List.map_cons, loadF, takeR_ent es0 c e (h e (by simp))]
    dsimp only
    rw [ih _ _ (fun x hx => h x (by simp [hx]))]
    simp

/-- the records of what is written anew -/
def anewT (es : List (List UInt8)) (c : Nat) : List (List UInt8) := (if 0 < c then [(cntR (c : Int)).1] else []) ++ es.map fun e => (entR e).1

theorem anew_recs (es : List (List UInt8)) (c : Nat) (he : ∀ e ∈ es, EntOk e) (hc : c ≤ 1048576) : anewL es c = recsB (anewT es c) := by
  have h1 : es.flatMap entB = recsB (es.map fun e => (entR e).1) := by
    unfold recsB
    rw [List.flatMap_map]
    induction es with
    | nil => rfl
    | cons e es ih => rw [List.flatMap_cons, List.flatMap_cons, entB_ok e (he e (by simp)), ih (fun x hx => he x (by simp [hx]))]
  rw [anewL, anewT, h1]
  unfold recsB
  rw [List.flatMap_append]
  congr 1
  by_cases h0 : 0 < c
  · rw [cntB_ok c h0 hc, if_pos h0]; simp
  · rw [cntB, if_neg h0, if_neg h0]; rfl

theorem anewT_short (es : List (List UInt8)) (c : Nat) (he : ∀ e ∈ es, EntOk e) (hc : c ≤ 1048576) : ∀ t ∈ anewT es c, t.length ≤ 8192 := by
  intro t ht
  rcases List.mem_append.1 ht with ht | ht
  · split at ht
    · rw [List.mem_singleton.1 ht]; exact (cnt_ok c hc).2.1
    · simp at ht
  · obtain ⟨e, h, rfl⟩ := List.mem_map.1 ht
    exact (he e h).2

theorem anewT_load (es : List (List UInt8)) (c : Nat) (he : ∀ e ∈ es, EntOk e) (hc : c ≤ 1048576) : loadF (anewT es c) [] 0 = some (es, c) := by
  unfold anewT
  rw [loadF_append]
  by_cases h0 : 0 < c
  · rw [if_pos h0, loadF, takeR_cnt [] 0 c hc]
    simp only [loadF, Nat.zero_max]
    rw [loadF_ents es _ _ he]; simp
  · rw [if_neg h0]
    simp only [loadF]
    rw [loadF_ents es _ _ he]
    simp; omega

/-- what is written anew tells the same -/
theorem anew_load (es : List (List UInt8)) (c : Nat) (he : ∀ e ∈ es, EntOk e) (hc : c ≤ 1048576) : loadR (anewL es c) = (es, c, 0) ∧ readR (anewL es c) = (anewT es c, (anewL es c).length) := by
  have h := read_recs (anewT es c) (anewT_short es c he hc)
  rw [← anew_recs es c he hc] at h
  refine ⟨?_, h⟩
  rw [loadR, h, anewT_load es c he hc]
end Sto
end Go.Proofs.Ytjfibmlpjcncmaa
