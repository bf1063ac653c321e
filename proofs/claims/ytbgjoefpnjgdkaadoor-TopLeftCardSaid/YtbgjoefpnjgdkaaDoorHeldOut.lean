/- A region that draws its order: what only reads may be taken first, if a condition on the world holds behind every operation but those that wait for it (an append onto what was read, a store into it). -/
import Derived.OrdersHeld
import Derived.OwnWalkIn
namespace Go.Proofs.YtbgjoefpnjgdkaaDoor
open Go

/-- Of these operations none may come up while number i has not: each waits for i, or for another one of them. -/
def waitB (md : Region.Mode) (ops : Array Oper) (C : List Nat) (listed : Array Bool) (i : Nat) : Bool :=
  C.all fun c => !listed.getD c true && match ops[c]? with
    | some o => o.after.any fun e => Region.binds md e && (e.on == i || C.contains e.on)
    | none => true

/-- all that wait for number i, one by way of another -/
def waiters (md : Region.Mode) (ops : Array Oper) (i : Nat) : List Nat :=
  (List.range ops.size).foldl (fun D j => match ops[j]? with
    | some o => if o.after.any (fun e => Region.binds md e && (e.on == i || D.contains e.on)) then j :: D else D
    | none => D) []
/-- C waits for number i -/
def waitsB (md : Region.Mode) (ops : Array Oper) (C : List Nat) (listed : Array Bool) (i : Nat) : Bool :=
  waitB md ops (waiters md ops i) listed i && C.all (waiters md ops i).contains

section
variable {P : Program} {ops : Array Oper} {Q : Exit → Act → World → Prop} {md : Region.Mode} {S : World → Prop} {C : List Nat}

theorem waitB_step {listed : Array Bool} {i j : Nat} (hw : waitB md ops C listed i = true) (hi : listed.getD i false = false) (hj : j ∈ Region.ready md ops listed) : j ∉ C := by
  intro hc
  have h := List.all_eq_true.1 hw j hc
  obtain ⟨hjun, oj, hoj, hall⟩ := mem_ready.1 hj
  rw [hoj] at h
  simp only [Bool.and_eq_true] at h
  obtain ⟨_, h2⟩ := h
  rw [Array.any_eq_true'] at h2
  obtain ⟨e, he, h3⟩ := h2
  rw [Bool.and_eq_true, Bool.or_eq_true] at h3
  have h4 := hall e he h3.1
  rcases h3.2 with h5 | h5
  · rw [eq_of_beq h5, hi] at h4; cases h4
  · have h6 := List.all_eq_true.1 hw e.on (by simpa using h5)
    simp only [Bool.and_eq_true] at h6
    have h7 : listed.getD e.on true = false := by simpa using h6.1
    rcases Nat.lt_or_ge e.on listed.size with h' | h'
    · simp [h'] at h4 h7; rw [h4] at h7; cases h7
    · simp [Array.getElem?_eq_none h'] at h4

theorem waitB_set {listed : Array Bool} {i j : Nat} (hw : waitB md ops C listed i = true) (hj : j ∉ C) : waitB md ops C (listed.setIfInBounds j true) i = true := by
  refine List.all_eq_true.2 fun c hc => ?_
  have h := List.all_eq_true.1 hw c hc
  have hne : j ≠ c := fun e => hj (e ▸ hc)
  rw [getD_set_ne true hne]
  exact h

/-- none of C has come up -/
def Unl (C : List Nat) (listed : Array Bool) : Prop := ∀ c ∈ C, listed.getD c true = false
theorem Unl.of_set {listed : Array Bool} {i : Nat} (hi : i ∉ C) : Unl C (listed.setIfInBounds i true) ↔ Unl C listed := by
  refine ⟨fun h c hc => ?_, fun h c hc => ?_⟩
  · have := h c hc
    rwa [getD_set_ne true (fun e : i = c => hi (by rw [e]; exact hc))] at this
  · rw [getD_set_ne true (fun e : i = c => hi (by rw [e]; exact hc))]
    exact h c hc
theorem waitB_unl {listed : Array Bool} {i : Nat} (hw : waitB md ops C listed i = true) : Unl C listed := fun c hc => by
  have h := List.all_eq_true.1 hw c hc
  simp only [Bool.and_eq_true] at h
  simpa using h.1

/-- whatever order is picked from here on, S holding behind every operation till one of C has come up -/
def HeldX (P : Program) (md : Region.Mode) (ops : Array Oper) (Q : Exit → Act → World → Prop) (S : World → Prop) (C : List Nat) : Nat → Array Bool → Act → World → Prop
  | 0, listed, a, w => Region.ready md ops listed = [] ∧ Q .normal a w
  | fuel + 1, listed, a, w => (Region.ready md ops listed = [] → Q .normal a w) ∧
    ∀ i ∈ Region.ready md ops listed, wpOp P ops Q i (fun a' w' => (Unl C (listed.setIfInBounds i true) → S w') ∧ HeldX P md ops Q S C fuel (listed.setIfInBounds i true) a' w') a w

theorem HeldX.any : ∀ (fuel : Nat) (listed : Array Bool) (a : Act) (w : World), HeldX P md ops Q S C fuel listed a w → wpAny P md ops Q fuel listed a w
  | 0, _, _, _, h => h
  | fuel + 1, _, _, _, h => ⟨h.1, fun i hi => wpOp_mono (fun a' w' h' => HeldX.any fuel _ a' w' h'.2) (h.2 i hi)⟩

theorem HeldX.first {i : Nat} {oi : Oper} {v : Value} {T : World → Prop} (hi : ops[i]? = some oi) (hsel : ∀ (j : Nat) (o : Oper) cs b, ops[j]? = some o → o.op ≠ .select cs b)
    (hQ : ∀ c a w, Q (.panic c) (a.put oi.dst v) w → Q (.panic c) a w) (hiC : i ∉ C) (G : Array Bool → Prop) (hG : ∀ listed j, G listed → listed.getD i false = false → j ∈ Region.ready md ops listed → G (listed.setIfInBounds j true))
    (hT : ∀ listed w, G listed → listed.getD i false = false → (Unl C listed → S w) → T w) (fuel : Nat) :
    ∀ (listed : Array Bool) (a : Act) (w : World),
      (∀ j oj, ops[j]? = some oj → j ≠ i → listed.getD j true = false → (∀ e ∈ oj.after, Region.binds md e = true → e.on ≠ i) → oi.apart ops oj = true) →
      i ∈ Region.ready md ops listed → G listed → YieldsIf P ops T oi v a → (Unl C listed → S w) →
      HeldX P md ops Q S C fuel (listed.setIfInBounds i true) (a.put oi.dst v) w → HeldX P md ops Q S C (fuel + 1) listed a w := by
  have hiun : ∀ listed, i ∈ Region.ready md ops listed → listed.getD i false = false := fun listed hr => by
    have h0 := (mem_ready.1 hr).1
    rcases Nat.lt_or_ge i listed.size with h' | h'
    · simp [h'] at h0 ⊢; exact h0
    · simp [Array.getElem?_eq_none h']
  induction fuel with
  | zero =>
    intro listed a w _ hr hg hy hS H
    refine ⟨fun h => absurd hr (by rw [h]; exact List.not_mem_nil), fun j hj => ?_⟩
    by_cases hji : j = i
    · rw [hji]; exact hy.wpOp hi (hT _ _ hg (hiun _ hr) hS) ⟨fun h => hS ((Unl.of_set hiC).1 h), H⟩
    · have := ready_mono hj hji
      rw [H.1] at this
      exact absurd this List.not_mem_nil
  | succ fuel ih =>
    intro listed a w hfree hr hg hy hS H
    refine ⟨fun h => absurd hr (by rw [h]; exact List.not_mem_nil), fun j hj => ?_⟩
    by_cases hji : j = i
    · rw [hji]; exact hy.wpOp hi (hT _ _ hg (hiun _ hr) hS) ⟨fun h => hS ((Unl.of_set hiC).1 h), H⟩
    · obtain ⟨hjun, oj, hoj, hall⟩ := mem_ready.1 hj
      have hnot : ∀ e ∈ oj.after, Region.binds md e = true → e.on ≠ i := by
        intro e he hb heq
        have h1 := hall e he hb
        rw [heq, hiun _ hr] at h1
        cases h1
      have h2 := wpOp_putIf hoj (hfree j oj hoj hji hjun hnot) (fun cs b => hsel i oi cs b hi) (fun cs b => hsel j oj cs b hoj) hQ hy (H.2 j (ready_mono hj hji))
      refine wpOp_mono (fun a' w' h3 => ?_) h2
      have hS' : Unl C (listed.setIfInBounds j true) → S w' := fun h => h3.2.1 (by
        rw [Array.setIfInBounds_comm _ _ (Ne.symm hji)]
        exact (Unl.of_set hiC).2 h)
      refine ⟨hS', ih (listed.setIfInBounds j true) a' w' ?_ (ready_mono hr (Ne.symm hji)) (hG _ _ hg (hiun _ hr) hj) h3.1 hS' ?_⟩
      · intro k ok hk hki hun hno
        refine hfree k ok hk hki ?_ hno
        by_cases hjk : j = k
        · rw [← hjk]; exact hjun
        · rw [getD_set_ne true hjk] at hun; exact hun
      · rw [Array.setIfInBounds_comm _ _ hji]
        exact h3.2.2

/-- take number i first: it reads what S tells, and C waits for it -/
theorem HeldX.take (i : Nat) {oi : Oper} {v : Value} {fuel : Nat} {listed : Array Bool} {a : Act} {w : World} (hi : ops[i]? = some oi)
    (hs : Region.noSelect ops = true) (hf : Region.free md ops listed i = true) (hr : (Region.ready md ops listed).contains i = true) (hw : waitsB md ops C listed i = true)
    (hQ : ∀ c a w, Q (.panic c) (a.put oi.dst v) w → Q (.panic c) a w) (hS : S w) (hy : YieldsIf P ops S oi v a)
    (h : HeldX P md ops Q S C fuel (listed.setIfInBounds i true) (a.put oi.dst v) w) : HeldX P md ops Q S C (fuel + 1) listed a w := by
  have hr' : i ∈ Region.ready md ops listed := by simpa using hr
  have hiun : listed.getD i false = false := by
    have h0 := (mem_ready.1 hr').1
    rcases Nat.lt_or_ge i listed.size with h' | h'
    · simp [h'] at h0 ⊢; exact h0
    · simp [Array.getElem?_eq_none h']
  unfold waitsB at hw
  rw [Bool.and_eq_true] at hw
  obtain ⟨hw, hsub⟩ := hw
  have hsub' : ∀ c ∈ C, c ∈ waiters md ops i := fun c hc => by simpa using List.all_eq_true.1 hsub c hc
  exact HeldX.first hi (Region.noSelect_spec hs) hQ (fun hc => waitB_step hw hiun hr' (hsub' i hc)) (fun l => waitB md ops (waiters md ops i) l i = true)
    (fun l j hg hl hj => waitB_set hg (waitB_step hg hl hj)) (fun l w' hg hl h => h (fun c hc => waitB_unl hg c (hsub' c hc))) fuel listed a w (Region.free_spec hi hf) hr' hw hy (fun _ => hS) h
/-- take number i first: it reads nothing -/
theorem HeldX.move (i : Nat) {oi : Oper} {v : Value} {fuel : Nat} {listed : Array Bool} {a : Act} {w : World} (hi : ops[i]? = some oi)
    (hs : Region.noSelect ops = true) (hf : Region.free md ops listed i = true) (hr : (Region.ready md ops listed).contains i = true) (hC : C.contains i = false)
    (hQ : ∀ c a w, Q (.panic c) (a.put oi.dst v) w → Q (.panic c) a w) (hS : S w) (hy : YieldsIf P ops (fun _ => True) oi v a)
    (h : HeldX P md ops Q S C fuel (listed.setIfInBounds i true) (a.put oi.dst v) w) : HeldX P md ops Q S C (fuel + 1) listed a w :=
  HeldX.first hi (Region.noSelect_spec hs) hQ (by simpa using hC) (fun _ => True) (fun _ _ _ _ _ => trivial) (fun _ _ _ _ _ => trivial) fuel listed a w (Region.free_spec hi hf) (by simpa using hr) trivial hy (fun _ => hS) h

/-- take number i first: it reads nothing, and one of C has come up already -/
theorem HeldX.moveL (i : Nat) {oi : Oper} {v : Value} {fuel : Nat} {listed : Array Bool} {a : Act} {w : World} (hi : ops[i]? = some oi)
    (hs : Region.noSelect ops = true) (hf : Region.free md ops listed i = true) (hr : (Region.ready md ops listed).contains i = true) (hC : C.contains i = false) (hL : (C.any fun c => listed.getD c true) = true)
    (hQ : ∀ c a w, Q (.panic c) (a.put oi.dst v) w → Q (.panic c) a w) (hy : YieldsIf P ops (fun _ => True) oi v a)
    (h : HeldX P md ops Q S C fuel (listed.setIfInBounds i true) (a.put oi.dst v) w) : HeldX P md ops Q S C (fuel + 1) listed a w :=
  HeldX.first hi (Region.noSelect_spec hs) hQ (by simpa using hC) (fun _ => True) (fun _ _ _ _ _ => trivial) (fun _ _ _ _ _ => trivial) fuel listed a w (Region.free_spec hi hf) (by simpa using hr) trivial hy (fun hn => by
    obtain ⟨c, hc, h1⟩ := List.any_eq_true.1 hL
    have h2 := hn c hc
    rw [h1] at h2
    cases h2) h

/-- whichever comes up -/
def HeldXAll (P : Program) (md : Region.Mode) (ops : Array Oper) (Q : Exit → Act → World → Prop) (S : World → Prop) (C : List Nat) (fuel : Nat) (listed : Array Bool) (a : Act) (w : World) (rs : List Nat) : Prop :=
  ∀ i ∈ rs, wpOp P ops Q i (fun a' w' => (Unl C (listed.setIfInBounds i true) → S w') ∧ HeldX P md ops Q S C fuel (listed.setIfInBounds i true) a' w') a w
theorem HeldX.all {fuel : Nat} {listed : Array Bool} {a : Act} {w : World} (rs : List Nat) (hr : Region.ready md ops listed = rs) (hne : rs ≠ [])
    (h : HeldXAll P md ops Q S C fuel listed a w rs) : HeldX P md ops Q S C (fuel + 1) listed a w :=
  ⟨fun h0 => absurd (hr ▸ h0) hne, hr ▸ h⟩
theorem HeldXAll.nil {fuel : Nat} {listed : Array Bool} {a : Act} {w : World} : HeldXAll P md ops Q S C fuel listed a w [] := fun _ h => absurd h List.not_mem_nil
/-- one that S must hold behind -/
theorem HeldXAll.cons {fuel : Nat} {listed : Array Bool} {a : Act} {w : World} {i : Nat} {o : Oper} {rs : List Nat} (ho : ops[i]? = some o)
    (hw : Region.wanted o (yielded ops a.tmps) = true)
    (h : ∀ K : Act → World → Prop, (∀ a w, S w → HeldX P md ops Q S C fuel (listed.setIfInBounds i true) a w → K a w) → Oper.wp P o a w K Q)
    (hs : HeldXAll P md ops Q S C fuel listed a w rs) : HeldXAll P md ops Q S C fuel listed a w (i :: rs) := by
  intro j hj
  rcases List.mem_cons.1 hj with e | hj
  · rw [e]
    unfold Go.wpOp
    rw [ho]
    simp only [hw, if_true]
    exact .inl (h _ (fun a w s k => ⟨fun _ => s, k⟩))
  · exact hs j hj
/-- one of C, or behind one of C -/
theorem HeldXAll.consL {fuel : Nat} {listed : Array Bool} {a : Act} {w : World} {i : Nat} {o : Oper} {rs : List Nat} (ho : ops[i]? = some o)
    (hC : (C.any fun c => (listed.setIfInBounds i true).getD c true) = true) (hw : Region.wanted o (yielded ops a.tmps) = true)
    (h : ∀ K : Act → World → Prop, (∀ a w, HeldX P md ops Q S C fuel (listed.setIfInBounds i true) a w → K a w) → Oper.wp P o a w K Q)
    (hs : HeldXAll P md ops Q S C fuel listed a w rs) : HeldXAll P md ops Q S C fuel listed a w (i :: rs) := by
  intro j hj
  rcases List.mem_cons.1 hj with e | hj
  · rw [e]
    unfold Go.wpOp
    rw [ho]
    simp only [hw, if_true]
    refine .inl (h _ (fun a w k => ⟨fun hn => ?_, k⟩))
    obtain ⟨c, hc, h1⟩ := List.any_eq_true.1 hC
    have h2 := hn c hc
    rw [h1] at h2
    cases h2
  · exact hs j hj
/-- one alone, of C or behind one of C -/
theorem HeldX.last (i : Nat) {fuel : Nat} {listed : Array Bool} {a : Act} {w : World} {o : Oper} (hr : Region.ready md ops listed = [i]) (hC : (C.any fun c => (listed.setIfInBounds i true).getD c true) = true) (ho : ops[i]? = some o)
    (hw : Region.wanted o (yielded ops a.tmps) = true)
    (h : ∀ K : Act → World → Prop, (∀ a w, HeldX P md ops Q S C fuel (listed.setIfInBounds i true) a w → K a w) → Oper.wp P o a w K Q) : HeldX P md ops Q S C (fuel + 1) listed a w := by
  refine ⟨fun h0 => absurd (hr ▸ h0) (by simp), fun j hj => ?_⟩
  rw [hr, List.mem_singleton] at hj
  rw [hj]
  unfold Go.wpOp
  rw [ho]
  simp only [hw, if_true]
  refine .inl (h _ (fun a w k => ⟨fun hn => ?_, k⟩))
  obtain ⟨c, hc, h1⟩ := List.any_eq_true.1 hC
  have h2 := hn c hc
  rw [h1] at h2
  cases h2
/-- one that S must hold behind, alone -/
theorem HeldX.one (i : Nat) {fuel : Nat} {listed : Array Bool} {a : Act} {w : World} {o : Oper} (hr : Region.ready md ops listed = [i]) (ho : ops[i]? = some o)
    (hw : Region.wanted o (yielded ops a.tmps) = true)
    (h : ∀ K : Act → World → Prop, (∀ a w, S w → HeldX P md ops Q S C fuel (listed.setIfInBounds i true) a w → K a w) → Oper.wp P o a w K Q) : HeldX P md ops Q S C (fuel + 1) listed a w :=
  HeldX.all [i] hr (by simp) (HeldXAll.cons ho hw h HeldXAll.nil)
theorem HeldX.done {listed : Array Bool} {a : Act} {w : World} (hr : Region.ready md ops listed = []) (h : Q .normal a w) : ∀ fuel, HeldX P md ops Q S C fuel listed a w
  | 0 => ⟨hr, h⟩
  | _ + 1 => ⟨fun _ => h, by rw [hr]; exact fun _ h => absurd h List.not_mem_nil⟩

/-- the beginning -/
theorem wp_region_heldX (S : World → Prop) (C : List Nat) {id : Nat} {a : Act} {w : World} (hm : P.follows .mixedOrders = true)
    (h : HeldX P .any ops Q S C ops.size (Array.replicate ops.size false) a w.drew) : (Code.region id ops true).wp P Q a w :=
  wp_region_any hm (HeldX.any _ _ _ _ h)
end
end Go.Proofs.YtbgjoefpnjgdkaaDoor
