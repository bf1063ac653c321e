/- States of rooms as lists of events; what is left of an event. Plain. -/
import Derived.Test.YtbgjoefpnjgdkaaDoorNamedPlain
namespace Go.Proofs.YtbgjoefpnjgdkaaDoor
set_option linter.unusedVariables false
set_option linter.unusedSimpArgs false
namespace Left
open Named
/-- what is left of an event -/
def redE (e : Ev) : Ev := if e.kind = 6 ∨ e.kind = 5 then ⟨e.room, e.sender, e.kind, e.key, [], e.nonce⟩ else e
theorem redE_kind (e : Ev) : (redE e).kind = e.kind := by unfold redE; split <;> rfl
theorem redE_key (e : Ev) : (redE e).key = e.key := by unfold redE; split <;> rfl
theorem redE_nonce (e : Ev) : (redE e).nonce = e.nonce := by unfold redE; split <;> rfl
theorem redE_form (e : Ev) : formB (redE e) = formB e := by unfold redE; split <;> rfl
theorem redE_body (e : Ev) : (redE e).body = e.body ∨ (redE e).body = [] := by unfold redE; split <;> simp
theorem redE_two (e : Ev) : redE (redE e) = redE e := by
  by_cases h : e.kind = 6 ∨ e.kind = 5
  · rw [redE, if_pos (by rw [redE_kind]; exact h)]
    simp [redE, h]
  · have : redE e = e := by rw [redE, if_neg h]
    rw [this, this]
theorem redE_member (e : Ev) (h : e.kind = 2) : redE e = e := by rw [redE, if_neg (by omega)]
theorem redE_check (e : Ev) (h : checkE e = 0) : checkE (redE e) = 0 := by
  have hp : formB e = true ∧ sizeB e = true := by
    by_cases h3 : formB e = true ∧ sizeB e = true
    · exact h3
    · rw [checkE, if_neg h3] at h; cases h
  rw [checkE, if_pos]
  refine ⟨by rw [redE_form]; exact hp.1, ?_⟩
  have h2 := hp.2
  simp only [sizeB, Bool.and_eq_true, decide_eq_true_eq, redE_nonce] at h2 ⊢
  refine ⟨⟨?_, h2.1.2⟩, h2.2⟩
  rcases redE_body e with h | h <;> rw [h]
  · exact h2.1.1
  · exact Nat.zero_le _

def cmpK (a b : Nat) : Int := if a < b then -1 else if b < a then 1 else 0
def cmpS (a b : List UInt8) : Int := if Op.bytesLess a b = true then -1 else if a = b then 0 else 1
/-- the order of cells -/
def ordI (a b : Ev) : Int := if cmpK a.kind b.kind ≠ 0 then cmpK a.kind b.kind else cmpS a.key b.key
theorem less_total : ∀ a b : List UInt8, Op.bytesLess a b = false → a ≠ b → Op.bytesLess b a = true
  | [], [], _, h => absurd rfl h
  | [], _ :: _, h, _ => by cases h
  | a :: x, [], _, _ => rfl
  | a :: x, b :: y, h, hne => by
    simp only [Op.bytesLess, Bool.or_eq_false_iff, Bool.and_eq_false_iff, decide_eq_false_iff_not, beq_eq_false_iff_ne, Bool.or_eq_true, Bool.and_eq_true, decide_eq_true_eq, beq_iff_eq] at h ⊢
    by_cases hab : a = b
    · subst hab
      right
      refine ⟨rfl, less_total x y ?_ (fun e => hne (by rw [e]))⟩
      rcases h.2 with h2 | h2
      · exact absurd rfl h2
      · exact h2
    · left
      have h1 := h.1
      rw [UInt8.not_lt] at h1
      exact UInt8.lt_of_le_of_ne h1 (fun e => hab e.symm)
theorem cmpS_flip (a b : List UInt8) (h : 0 < cmpS a b) : cmpS b a < 0 := by
  unfold cmpS at h ⊢
  split at h
  · omega
  · split at h
    · omega
    · rename_i h1 h2
      rw [if_pos (less_total a b (by simpa using h1) h2)]
      omega
theorem cmpS_zero (a b : List UInt8) (h : cmpS a b = 0) : a = b := by
  unfold cmpS at h
  split at h
  · omega
  · split at h
    · assumption
    · omega
theorem ordI_flip (a b : Ev) (h : 0 < ordI a b) : ordI b a < 0 := by
  unfold ordI at h ⊢
  by_cases hk : cmpK a.kind b.kind = 0
  · rw [if_neg (fun h => h hk)] at h
    have : cmpK b.kind a.kind = 0 := by unfold cmpK at hk ⊢; repeat' split at hk <;> try omega
    rw [if_neg (fun h => h this)]
    exact cmpS_flip _ _ h
  · rw [if_pos hk] at h
    have : cmpK b.kind a.kind < 0 := by
      unfold cmpK at h ⊢
      split at h
      · omega
      · split at h
        · rw [if_pos (by assumption)]; omega
        · omega
    rw [if_pos (by omega)]
    exact this
theorem ordI_zero (a b : Ev) (h : ordI a b = 0) : a.kind = b.kind ∧ a.key = b.key := by
  unfold ordI at h
  by_cases hk : cmpK a.kind b.kind = 0
  · rw [if_neg (fun h => h hk)] at h
    refine ⟨?_, cmpS_zero _ _ h⟩
    unfold cmpK at hk
    split at hk
    · omega
    · split at hk <;> omega
  · rw [if_pos hk] at h
    exact absurd h hk
theorem ordI_of (a a' b b' : Ev) (h1 : a.kind = a'.kind) (h2 : a.key = a'.key) (h3 : b.kind = b'.kind) (h4 : b.key = b'.key) : ordI a b = ordI a' b' := by
  unfold ordI; rw [h1, h2, h3, h4]

def stateB (k : Nat) : Bool := decide (k ≠ 6) && decide (k ≠ 7) && decide (0 < k ∧ k < 9)
/-- whether a cell is right -/
def rightB (e : Ev) : Bool := stateB e.kind && decide (checkE e = 0)
theorem rightB_red (e : Ev) (h : rightB e = true) : rightB (redE e) = true := by
  unfold rightB at h ⊢
  simp only [Bool.and_eq_true, decide_eq_true_eq] at h ⊢
  exact ⟨by rw [redE_kind]; exact h.1, redE_check e h.2⟩
/-- a right state -/
def Good (es : List Ev) : Prop := (∀ e ∈ es, rightB e = true) ∧ ∀ (i : Nat) (h : i + 1 < es.length), ordI es[i] es[i + 1] < 0
theorem Good.nil : Good [] := ⟨by simp, fun i h => by simp at h⟩
theorem Good.red {es : List Ev} (h : Good es) : Good (es.map redE) := by
  refine ⟨fun e he => ?_, fun i hi => ?_⟩
  · obtain ⟨x, hx, rfl⟩ := List.mem_map.1 he
    exact rightB_red x (h.1 x hx)
  · rw [List.length_map] at hi
    rw [List.getElem_map, List.getElem_map, ordI_of _ _ _ _ (redE_kind _) (redE_key _) (redE_kind _) (redE_key _)]
    exact h.2 i hi

/-- where a binary search ends -/
def bs (p : Nat → Bool) : Nat → Nat → Nat → Nat
  | 0, i, _ => i
  | f + 1, i, j => if i < j then (if p ((i + j) / 2) then bs p f ((i + j) / 2 + 1) j else bs p f i ((i + j) / 2)) else i
theorem bs_spec (p : Nat → Bool) (n : Nat) : ∀ f i j, j - i ≤ f → i ≤ j → j ≤ n → (i = 0 ∨ p (i - 1) = true) → (j = n ∨ p j = false) →
    bs p f i j ≤ n ∧ (bs p f i j = 0 ∨ p (bs p f i j - 1) = true) ∧ (bs p f i j = n ∨ p (bs p f i j) = false)
  | 0, i, j, hf, hij, hjn, h1, h2 => by
    have : i = j := by omega
    subst this
    exact ⟨hjn, h1, h2⟩
  | f + 1, i, j, hf, hij, hjn, h1, h2 => by
    rw [bs]
    split
    · rename_i h
      split
      · rename_i hp
        exact bs_spec p n f _ _ (by omega) (by omega) hjn (.inr (by simpa using hp)) h2
      · rename_i hp
        exact bs_spec p n f _ _ (by omega) (by omega) (by omega) h1 (.inr (by simpa using hp))
    · have : i = j := by omega
      subst this
      exact ⟨hjn, h1, h2⟩
def lessAt (es : List Ev) (e : Ev) (h : Nat) : Bool := decide (ordI (es.getD h zeroE) e < 0)
/-- where an event belongs -/
def atL (es : List Ev) (e : Ev) : Nat := bs (lessAt es e) es.length 0 es.length
/-- whether there is such a cell -/
def isL (es : List Ev) (e : Ev) : Bool := decide (atL es e < es.length) && decide (ordI (es.getD (atL es e) zeroE) e = 0)
/-- why an event is not set -/
def whyL (es : List Ev) (e : Ev) : Nat := if rightB e = false then 2 else if isL es e = false ∧ es.length = 256 then 8 else 0
/-- a state in which an event is set -/
def setL (es : List Ev) (e : Ev) : List Ev := if isL es e = true then es.set (atL es e) e else es.take (atL es e) ++ e :: es.drop (atL es e)
theorem atL_spec (es : List Ev) (e : Ev) : atL es e ≤ es.length ∧ (atL es e = 0 ∨ lessAt es e (atL es e - 1) = true) ∧ (atL es e = es.length ∨ lessAt es e (atL es e) = false) :=
  bs_spec _ _ _ _ _ (by omega) (by omega) (Nat.le_refl _) (.inl rfl) (.inl rfl)
theorem getD_red (es : List Ev) (h : Nat) : ((es.map redE).getD h zeroE).kind = (es.getD h zeroE).kind ∧ ((es.map redE).getD h zeroE).key = (es.getD h zeroE).key := by
  have : (es.map redE).getD h zeroE = redE (es.getD h zeroE) := by
    rw [List.getD_eq_getElem?_getD, List.getD_eq_getElem?_getD, List.getElem?_map]
    cases es[h]? <;> rfl
  rw [this]
  exact ⟨redE_kind _, redE_key _⟩
theorem lessAt_red (es : List Ev) (e : Ev) : lessAt (es.map redE) (redE e) = lessAt es e := by
  funext h
  unfold lessAt
  rw [ordI_of _ _ _ _ (getD_red es h).1 (getD_red es h).2 (redE_kind e) (redE_key e)]
theorem atL_red (es : List Ev) (e : Ev) : atL (es.map redE) (redE e) = atL es e := by
  unfold atL
  rw [lessAt_red, List.length_map]
theorem isL_red (es : List Ev) (e : Ev) : isL (es.map redE) (redE e) = isL es e := by
  unfold isL
  rw [atL_red, List.length_map, ordI_of _ _ _ _ (getD_red es _).1 (getD_red es _).2 (redE_kind e) (redE_key e)]
theorem setL_red (es : List Ev) (e : Ev) : setL (es.map redE) (redE e) = (setL es e).map redE := by
  unfold setL
  rw [isL_red, atL_red]
  split
  · rw [List.map_set]
  · rw [List.map_append, List.map_cons, List.map_take, List.map_drop]
theorem whyL_red (es : List Ev) (e : Ev) (h : whyL es e = 0) : whyL (es.map redE) (redE e) = 0 := by
  unfold whyL at h ⊢
  by_cases hr : rightB e = false
  · rw [if_pos hr] at h; cases h
  · rw [if_neg hr] at h
    rw [if_neg (by rw [rightB_red e (by simpa using hr)]; decide), isL_red, List.length_map]
    exact h
/-- the other way round: where what is left is set, the event is, or it is not right -/
theorem whyL_back (es : List Ev) (e : Ev) (h : whyL (es.map redE) (redE e) = 0) : whyL es e = 0 ∨ checkE e ≠ 0 := by
  unfold whyL at h ⊢
  rw [isL_red, List.length_map] at h
  by_cases hc : checkE e = 0
  · left
    by_cases hr : rightB (redE e) = false
    · rw [if_pos hr] at h; cases h
    · rw [if_neg hr] at h
      have : rightB e = true := by
        have h2 : rightB (redE e) = true := by simpa using hr
        unfold rightB at h2 ⊢
        rw [redE_kind] at h2
        simp only [Bool.and_eq_true, decide_eq_true_eq] at h2 ⊢
        exact ⟨h2.1, hc⟩
      rw [if_neg (by rw [this]; decide)]
      exact h
  · exact .inr hc
theorem setL_length (es : List Ev) (e : Ev) : (setL es e).length ≤ es.length + 1 := by
  have := (atL_spec es e).1
  unfold setL
  split
  · rw [List.length_set]; omega
  · rw [List.length_append, List.length_cons, List.length_take, List.length_drop]; omega
theorem getD_of {es : List Ev} {i : Nat} (h : i < es.length) : es.getD i zeroE = es[i] := by
  rw [List.getD_eq_getElem?_getD, List.getElem?_eq_getElem h]; rfl
theorem setL_good {es : List Ev} {e : Ev} (h : Good es) (hr : rightB e = true) : Good (setL es e) := by
  obtain ⟨h0, h1, h2⟩ := atL_spec es e
  unfold setL
  by_cases hi : isL es e = true
  · rw [if_pos hi]
    unfold isL at hi
    simp only [Bool.and_eq_true, decide_eq_true_eq] at hi
    obtain ⟨hlt, hz⟩ := hi
    rw [getD_of hlt] at hz
    obtain ⟨k1, k2⟩ := ordI_zero _ _ hz
    generalize atL es e = a at *
    refine ⟨fun x hx => ?_, fun i hi => ?_⟩
    · rcases List.mem_or_eq_of_mem_set hx with hx | rfl
      · exact h.1 x hx
      · exact hr
    · rw [List.length_set] at hi
      have hs := h.2 i hi
      have key : ∀ j (hj : j < (es.set a e).length) (hj' : j < es.length), (es.set a e)[j].kind = es[j].kind ∧ (es.set a e)[j].key = es[j].key := by
        intro j hj hj'
        rw [List.getElem_set]
        split
        · subst_vars; exact ⟨k1.symm, k2.symm⟩
        · exact ⟨rfl, rfl⟩
      rw [ordI_of _ _ _ _ (key i _ (by omega)).1 (key i _ (by omega)).2 (key (i + 1) _ hi).1 (key (i + 1) _ hi).2]
      exact hs
  · rw [if_neg hi]
    have hlow : ∀ a, atL es e = a → ∀ (hp : 0 < a) (hle : a - 1 < es.length), ordI es[a - 1] e < 0 := by
      rintro a rfl hp hle
      rcases h1 with h1 | h1
      · omega
      · unfold lessAt at h1
        rw [getD_of (by omega)] at h1
        simpa using h1
    have hhigh : ∀ a, atL es e = a → ∀ (hp : a < es.length), ordI e es[a] < 0 := by
      rintro a rfl hp
      apply ordI_flip
      rcases h2 with h2 | h2
      · omega
      · unfold lessAt at h2
        rw [getD_of hp] at h2
        have h3 : ¬ ordI es[atL es e] e < 0 := by simpa using h2
        have h4 : ordI es[atL es e] e ≠ 0 := fun hz => by
          apply hi
          unfold isL
          rw [getD_of hp]
          simp [hp, hz]
        omega
    clear h1 h2 hi
    obtain ⟨a, ha⟩ : ∃ a, atL es e = a := ⟨_, rfl⟩
    replace hlow := hlow a ha
    replace hhigh := hhigh a ha
    rw [ha] at h0 ⊢
    clear ha
    have hta : (es.take a).length = a := by rw [List.length_take]; omega
    refine ⟨fun x hx => ?_, fun i hi => ?_⟩
    · rw [List.mem_append, List.mem_cons] at hx
      rcases hx with hx | rfl | hx
      · exact h.1 x (List.mem_of_mem_take hx)
      · exact hr
      · exact h.1 x (List.mem_of_mem_drop hx)
    · rw [List.length_append, List.length_cons, List.length_drop, hta] at hi
      have g : ∀ j, (es.take a ++ e :: es.drop a)[j]? = if j < a then es[j]? else if j = a then some e else es[j - 1]? := by
        intro j
        by_cases hj : j < a
        · rw [if_pos hj, List.getElem?_append_left (by omega), List.getElem?_take, if_pos hj]
        · rw [if_neg hj, List.getElem?_append_right (by omega), hta]
          by_cases hja : j = a
          · rw [if_pos hja, hja, Nat.sub_self]; rfl
          · rw [if_neg hja, show j - a = (j - 1 - a) + 1 by omega, List.getElem?_cons_succ, List.getElem?_drop]
            congr 1; omega
      have g' : ∀ j (hj : j < (es.take a ++ e :: es.drop a).length), (es.take a ++ e :: es.drop a)[j] = (if j < a then es[j]? else if j = a then some e else es[j - 1]?).getD zeroE := fun j hj => by
        rw [← g j, List.getElem?_eq_getElem hj]; rfl
      rw [g', g']
      have q : ∀ j (hj : j < es.length), es[j]?.getD zeroE = es[j] := fun j hj => by rw [List.getElem?_eq_getElem hj]; rfl
      by_cases c1 : i + 1 < a
      · rw [if_pos c1, if_pos (by omega), q _ (by omega), q _ (by omega)]
        exact h.2 i (by omega)
      · by_cases c2 : i + 1 = a
        · rw [if_neg c1, if_pos c2, if_pos (by omega), q _ (by omega)]
          subst c2
          exact hlow (by omega) (by omega)
        · by_cases c3 : i = a
          · subst c3
            rw [if_neg (by omega), if_pos rfl, if_neg (by omega), if_neg (by omega), Nat.add_sub_cancel, q _ (by omega)]
            exact hhigh (by omega)
          · rw [if_neg (by omega), if_neg c3, if_neg (by omega), if_neg (by omega), q _ (by omega), q _ (by omega)]
            have := h.2 (i - 1) (by omega)
            simpa [show i - 1 + 1 = i by omega] using this
/-- who is a member -/
def memberL : List Ev → List UInt8 → List UInt8
  | [], _ => [108, 101, 97, 118, 101]
  | e :: r, u => if e.kind = 2 ∧ e.key = u then e.body else memberL r u
theorem memberL_red (u : List UInt8) : ∀ es : List Ev, memberL (es.map redE) u = memberL es u
  | [] => rfl
  | e :: r => by
    rw [List.map_cons, memberL, memberL, redE_kind, redE_key, memberL_red u r]
    by_cases h : e.kind = 2 ∧ e.key = u
    · rw [if_pos h, if_pos h, redE_member e h.1]
    · rw [if_neg h, if_neg h]
end Left
end Go.Proofs.YtbgjoefpnjgdkaaDoor
