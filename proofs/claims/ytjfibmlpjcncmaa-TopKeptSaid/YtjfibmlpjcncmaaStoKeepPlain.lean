/- Plain laws: what a beginning of the records tells, of what they all tell. -/
import Derived.Test.YtjfibmlpjcncmaaStoRefComp
import Derived.Test.YtjfibmlpjcncmaaJrnTorn
namespace Go.Proofs.Ytjfibmlpjcncmaa
open Go.RowKit
set_option linter.unusedVariables false
namespace Sto
open Oct Crc Disk Jrn

theorem loadF_cons (r : List UInt8) (rs : List (List UInt8)) (es : List (List UInt8)) (c : Nat) : loadF (r :: rs) es c = match takeR es c r with
    | none => none
    | some (es', c') => loadF rs es' c' := by
  cases h : takeR es c r with
  | none => simp [loadF, h]
  | some p => obtain ⟨a, b⟩ := p; simp [loadF, h]

theorem loadF_mono (rs : List (List UInt8)) : ∀ es0 c0 es c, (∀ r ∈ rs, r.length ≤ 8192) → loadF rs es0 c0 = some (es, c) → (∃ x, es = es0 ++ x) ∧ c0 ≤ c := by
  induction rs with
  | nil =>
    intro es0 c0 es c _ h
    simp [loadF] at h
    obtain ⟨rfl, rfl⟩ := h
    exact ⟨⟨[], by simp⟩, Nat.le_refl _⟩
  | cons r rs ih =>
    intro es0 c0 es c hs h
    rw [loadF_cons] at h
    cases ht : takeR es0 c0 r with
    | none => rw [ht] at h; simp at h
    | some p =>
      obtain ⟨a, b⟩ := p
      rw [ht] at h
      obtain ⟨⟨x, hx⟩, hc⟩ := ih a b es c (fun r hr => hs r (List.mem_cons_of_mem _ hr)) h
      rcases takeR_cases es0 c0 r a b (hs r (by simp)) ht with ⟨y, rfl, rfl, _⟩ | ⟨n, rfl, rfl, _, _⟩
      · exact ⟨⟨[y] ++ x, by rw [hx, List.append_assoc]⟩, hc⟩
      · exact ⟨⟨x, hx⟩, by omega⟩

/-- records, and what they tell; of the first r of them -/
structure Told (rs : List (List UInt8)) (r : Nat) (es : List (List UInt8)) (m k c : Nat) : Prop where
  all : loadF rs [] 0 = some (es, m)
  syn : loadF (rs.take r) [] 0 = some (es.take k, c)
  rle : r ≤ rs.length
  kle : k ≤ es.length
  short : ∀ t ∈ rs, t.length ≤ 8192

theorem Told.nil : Told [] 0 [] 0 0 0 := ⟨rfl, rfl, Nat.le_refl _, Nat.le_refl _, by simp⟩

theorem Told.sync {rs : List (List UInt8)} {r : Nat} {es : List (List UInt8)} {m k c : Nat} (h : Told rs r es m k c) : Told rs rs.length es m es.length m :=
  ⟨h.all, by rw [List.take_length, List.take_length]; exact h.all, Nat.le_refl _, Nat.le_refl _, h.short⟩

theorem Told.entry {rs : List (List UInt8)} {r : Nat} {es : List (List UInt8)} {m k c : Nat} (h : Told rs r es m k c) (t : List UInt8) (ht : EntOk t) : Told (rs ++ [(entR t).1]) r (es ++ [t]) m k c := by
  have hr := h.rle
  have hk := h.kle
  refine ⟨?_, ?_, by simp; omega, by simp; omega, ?_⟩
  · rw [loadF_append, h.all]
    dsimp only
    rw [loadF_cons, takeR_ent _ _ _ ht]
    rfl
  · rw [List.take_append_of_le_length hr, List.take_append_of_le_length hk]
    exact h.syn
  · intro x hx
    rcases List.mem_append.1 hx with hx | hx
    · exact h.short x hx
    · rw [List.mem_singleton.1 hx]; exact ht.2

theorem Told.count {rs : List (List UInt8)} {r : Nat} {es : List (List UInt8)} {m k c : Nat} (h : Told rs r es m k c) (n : Nat) (hn : n ≤ 1048576) : Told (rs ++ [(cntR (n : Int)).1]) r es (max m n) k c := by
  have hr := h.rle
  refine ⟨?_, ?_, by simp; omega, h.kle, ?_⟩
  · rw [loadF_append, h.all]
    dsimp only
    rw [loadF_cons, takeR_cnt _ _ _ hn]
    rfl
  · rw [List.take_append_of_le_length hr]
    exact h.syn
  · intro x hx
    rcases List.mem_append.1 hx with hx | hx
    · exact h.short x hx
    · rw [List.mem_singleton.1 hx]; exact (cnt_ok n hn).2.1

theorem Told.back {rs : List (List UInt8)} {r : Nat} {es : List (List UInt8)} {m k c : Nat} (h : Told rs r es m k c) (j : Nat) (h1 : r ≤ j) (h2 : j ≤ rs.length) :
    ∃ es' m', Told (rs.take j) j es' m' es'.length m' ∧ es'.length ≤ es.length ∧ es' = es.take es'.length ∧ k ≤ es'.length ∧ c ≤ m' ∧ m' ≤ m := by
  have hs : ∀ t ∈ rs.take j, t.length ≤ 8192 := fun t ht => h.short t (List.mem_of_mem_take ht)
  have hd : ∀ t ∈ rs.drop j, t.length ≤ 8192 := fun t ht => h.short t (List.mem_of_mem_drop ht)
  have hl : (rs.take j).length = j := by rw [List.length_take]; omega
  have ha := h.all
  rw [← List.take_append_drop j rs, loadF_append] at ha
  cases ht : loadF (rs.take j) [] 0 with
  | none => rw [ht] at ha; simp at ha
  | some p =>
    obtain ⟨es', m'⟩ := p
    rw [ht] at ha
    dsimp only at ha
    obtain ⟨⟨x, hx⟩, hm⟩ := loadF_mono _ _ _ _ _ hd ha
    have hb := ht
    have e : rs.take j = rs.take r ++ (rs.drop r).take (j - r) := by
      have := List.take_append_drop r (rs.take j)
      rw [List.take_take, Nat.min_eq_left h1, List.drop_take] at this
      exact this.symm
    rw [e, loadF_append, h.syn] at hb
    dsimp only at hb
    obtain ⟨⟨y, hy⟩, hc⟩ := loadF_mono _ _ _ _ _ (fun t ht => h.short t (List.mem_of_mem_drop (List.mem_of_mem_take ht))) hb
    have hkk : (es.take k).length = k := by rw [List.length_take]; have := h.kle; omega
    refine ⟨es', m', ⟨ht, by rw [List.take_take, Nat.min_self, List.take_length]; exact ht, by omega, Nat.le_refl _, hs⟩, ?_, ?_, ?_, hc, hm⟩
    · rw [hx]; simp
    · rw [hx]; simp
    · rw [hy, List.length_append, hkk]; omega

theorem Told.spec {rs : List (List UInt8)} {r : Nat} {es : List (List UInt8)} {m k c : Nat} (h : Told rs r es m k c) : loadR (recsB rs) = (es, m, 0) := by
  unfold loadR
  rw [read_recs rs h.short]
  dsimp only
  rw [h.all]

theorem Told.anew {rs : List (List UInt8)} {r : Nat} {es : List (List UInt8)} {m k c : Nat} (h : Told rs r es m k c) : Told (anewT es m) (anewT es m).length es m es.length m ∧ anewL es m = recsB (anewT es m) ∧ (recsB (anewT es m)).length ≤ (recsB rs).length := by
  obtain ⟨h1, h2, h3, -⟩ := loadR_spec _ es m h.spec
  have e := anew_recs es m h2 h3
  have hl := anewT_load es m h2 h3
  refine ⟨⟨hl, ?_, Nat.le_refl _, Nat.le_refl _, anewT_short es m h2 h3⟩, e, by rw [← e]; exact h1⟩
  rw [List.take_length, List.take_length]; exact hl

theorem Told.size {rs : List (List UInt8)} {r : Nat} {es : List (List UInt8)} {m k c : Nat} (h : Told rs r es m k c) : es.length ≤ rs.length ∧ m ≤ 1048576 := by
  have h3 := (loadR_spec _ es m h.spec).2.2.1
  refine ⟨?_, h3⟩
  have key : ∀ (rs : List (List UInt8)) es0 c0 es c, (∀ r ∈ rs, r.length ≤ 8192) → loadF rs es0 c0 = some (es, c) → es.length ≤ es0.length + rs.length := by
    intro rs
    induction rs with
    | nil => intro es0 c0 es c _ h; simp [loadF] at h; rw [h.1]; simp
    | cons r rs ih =>
      intro es0 c0 es c hs h
      rw [loadF_cons] at h
      cases ht : takeR es0 c0 r with
      | none => rw [ht] at h; simp at h
      | some p =>
        obtain ⟨a, b⟩ := p
        rw [ht] at h
        have := ih a b es c (fun r hr => hs r (List.mem_cons_of_mem _ hr)) h
        rcases takeR_cases es0 c0 r a b (hs r (by simp)) ht with ⟨y, rfl, rfl, _⟩ | ⟨n, rfl, rfl, _, _⟩
        · simp at this ⊢; omega
        · simp at this ⊢; omega
  have := key rs [] 0 es m h.short h.all
  simpa using this

/-- a record is put, or the disk is as it was -/
theorem rec_ways (l : List UInt8) (S R : Int) (hr : rightB ⟨l.toArray⟩ S R = true) (r : List UInt8 × Nat) :
    (r.2 = 0 ∧ r.1.length ≤ 8192 ∧ (l.length : Int) + ((recB r.1).length : Int) ≤ R ∧ recR ⟨l.toArray⟩ S R r = ⟨⟨(l ++ recB r.1).toArray⟩, S, R, 0⟩) ∨ (∃ e : Int, e ≠ 0 ∧ recR ⟨l.toArray⟩ S R r = ⟨⟨l.toArray⟩, S, R, e⟩) := by
  unfold recR
  by_cases h2 : r.2 = 0
  · rw [if_neg (by simpa using h2)]
    by_cases ht : r.1.length ≤ 8192
    · by_cases hl : (l.length : Int) + ((recB r.1).length : Int) ≤ R
      · exact .inl ⟨h2, ht, hl, add_ok l r.1 S R hr ht hl⟩
      · refine .inr ⟨8, by decide, ?_⟩
        rw [addR, if_pos hr, if_pos ht, writeR, if_pos hr, if_neg (by simp [ByteArray.size]; omega)]
    · refine .inr ⟨7, by decide, ?_⟩
      rw [addR, if_pos hr, if_neg ht]
  · rw [if_pos h2]
    exact .inr ⟨(r.2 : Int), by omega, rfl⟩
end Sto
end Go.Proofs.Ytjfibmlpjcncmaa
