/- A region that draws its order, in a fence: operations that are not wanted may be taken first too. -/
import Derived.Test.YtbgjoefpnjgdkaaDoorHeldIn
namespace Go.Proofs.YtbgjoefpnjgdkaaDoor
open Go
section
variable {F : Fence} {n : Nat} {P : Program} {ops : Array Oper} {Q : Exit → Act → World → Prop} {S : World → Prop}
def GivesX (F : Fence) (P : Program) (ops : Array Oper) (S : World → Prop) (o : Oper) (v : Value) (a : Act) : Prop :=
  Gives P ops S o v a ∨ (Region.wanted o (yielded ops a.tmps) = false ∧ v = undef ∧ ∀ w f, o.about P w a.eval = some f → F.fn f)
theorem GivesX.put {o : Oper} {v : Value} {a : Act} (h : GivesX F P ops S o v a) (hs : ∀ cs b, o.op ≠ .select cs b) (d : Option Tmp) (u : Value) (hd : ∀ t, d = some t → t ∉ o.looksAt ops) : GivesX F P ops S o v (a.put d u) :=
  h.imp (fun h => h.put hs d u hd) (fun ⟨h1, h2, h3⟩ => ⟨by rw [wanted_put o a d u hd]; exact h1, h2, fun w f hf => h3 w f (by rw [← about_put o w a d u hd]; exact hf)⟩)
theorem GivesX.wpOpIn (hp : Plainly ops) {i : Nat} {o : Oper} {v : Value} {a : Act} (hi : ops[i]? = some o) (h : GivesX F P ops S o v a) {K : Act → World → Prop} {w : World} (hS : S w) (hK : K (a.put o.dst v) w) : wpOpIn F n P ops Q i K a w := by
  rcases h with h | ⟨h1, rfl, h3⟩
  · exact Gives.wpOpIn hp hi h hS hK
  · unfold Go.wpOpIn
    simp only [hi, h1]
    exact ⟨fun f hf => h3 w f hf, hK⟩

/-- an operation apart from one that gives: it does not matter whether the value lies there already -/
theorem wpOpIn_apartX (hp : Plainly ops) {i j : Nat} {oi oj : Oper} {v : Value} (hi : ops[i]? = some oi) (hj : ops[j]? = some oj) (hap : oi.apart ops oj = true)
    (hQ : ∀ c a w, Q (.panic c) (a.put oi.dst v) w → Q (.panic c) a w) {K : Act → World → Prop} {a : Act} {w : World}
    (hy : GivesX F P ops S oi v a) (h : wpOpIn F n P ops Q j K (a.put oi.dst v) w) :
    wpOpIn F n P ops Q j (fun a' w' => GivesX F P ops S oi v a' ∧ K (a'.put oi.dst v) w') a w := by
  obtain ⟨h1, h2, h3⟩ := Oper.apart_spec hap
  have keep : ∀ u, GivesX F P ops S oi v (a.put oj.dst u) := fun u => hy.put (hp.ns i oi hi) oj.dst u h3
  unfold Go.wpOpIn at h ⊢
  simp only [hj] at h ⊢
  rw [wanted_put oj a oi.dst v h1, about_put oj w a oi.dst v h1] at h
  by_cases hw : Region.wanted oj (yielded ops a.tmps) = true
  · rw [if_pos hw] at h ⊢
    unfold Oper.wpIn at h ⊢
    rw [about_put oj w a oi.dst v h1] at h
    obtain ⟨ha, h⟩ := h
    refine ⟨ha, ?_⟩
    rw [Oper.semAt_plain F _ _ (hp.nd j oj hj), execOp_put oj (hp.ns j oj hj) a oi.dst v h1] at h
    rw [Oper.semAt_plain F _ _ (hp.nd j oj hj)]
    have hQ' : ∀ (u : Value) (w'' : World) (d : List Deferred), K (({ a with defers := d }.put oi.dst v).put oj.dst u) w'' → K (({ a with defers := d }.put oj.dst u).put oi.dst v) w'' := fun u w'' d hk => by
      rw [← Act.put_comm _ v u h2]; exact hk
    rcases hr : (execOp a.eval oj).run P w with ⟨x, w'⟩ | ⟨x, w'⟩ <;> rw [hr] at h
    · cases x <;> simp only [Oper.uponIn] at h ⊢
      case value u => exact ⟨keep u, hQ' u w' a.defers h⟩
      case skip => exact ⟨keep undef, hQ' undef w' a.defers h⟩
      case defer d =>
        have hg : GivesX F P ops S oi v { a with defers := d :: a.defers } := hy.imp (fun h => ⟨h.yes, h.run, h.none⟩) (fun h => h)
        refine ⟨hg.put (hp.ns i oi hi) oj.dst undef h3, hQ' undef w' (d :: a.defers) ?_⟩
        rw [← Act.put_defers]; exact h
      case enter f args =>
        refine ⟨h.1, CallsIn.mono h.2 fun e w'' he => ?_⟩
        cases e with
        | returned u => exact ⟨keep u, hQ' u w'' a.defers he⟩
        | panicked c => exact hQ _ _ _ he
        | outgrown => exact he
      case row row args => exact ⟨h.1, RowsIn.mono h.2 fun u w'' he => ⟨keep u, hQ' u w'' a.defers he⟩⟩
      case round l f tmps assign body =>
        refine ⟨h.1, RoundIn.mono h.2 fun e w'' he => ?_⟩
        cases e with
        | returned u => exact ⟨keep u, hQ' u w'' a.defers he⟩
        | panicked c => exact hQ _ _ _ he
        | outgrown => exact he
    · cases x <;> simp only [Oper.uponIn] at h ⊢
      case panic u => exact hQ _ _ _ h
  · rw [if_neg hw] at h ⊢
    refine ⟨h.1, keep undef, ?_⟩
    rw [← Act.put_comm a v undef h2]; exact h.2

theorem HeldIn.firstX (hp : Plainly ops) {i : Nat} {oi : Oper} {v : Value} (hi : ops[i]? = some oi) (hQ : ∀ c a w, Q (.panic c) (a.put oi.dst v) w → Q (.panic c) a w) (fuel : Nat) :
    ∀ (listed : Array Bool) (a : Act) (w : World),
      (∀ j oj, ops[j]? = some oj → j ≠ i → listed.getD j true = false → (∀ e ∈ oj.after, Region.binds .any e = true → e.on ≠ i) → oi.apart ops oj = true) →
      i ∈ Region.ready .any ops listed → GivesX F P ops S oi v a → S w →
      HeldIn F n P ops Q S fuel (listed.setIfInBounds i true) (a.put oi.dst v) w → HeldIn F n P ops Q S (fuel + 1) listed a w := by
  induction fuel with
  | zero =>
    intro listed a w _ hr hy hS H
    refine ⟨fun h => absurd hr (by rw [h]; exact List.not_mem_nil), fun j hj => ?_⟩
    by_cases hji : j = i
    · rw [hji]; exact hy.wpOpIn hp hi hS ⟨hS, H⟩
    · have := ready_mono hj hji
      rw [H.1] at this
      exact absurd this List.not_mem_nil
  | succ fuel ih =>
    intro listed a w hfree hr hy hS H
    refine ⟨fun h => absurd hr (by rw [h]; exact List.not_mem_nil), fun j hj => ?_⟩
    by_cases hji : j = i
    · rw [hji]; exact hy.wpOpIn hp hi hS ⟨hS, H⟩
    · obtain ⟨hjun, oj, hoj, hall⟩ := mem_ready.1 hj
      have hnot : ∀ e ∈ oj.after, Region.binds .any e = true → e.on ≠ i := by
        intro e he hb heq
        have h1 := hall e he hb
        have h0 := (mem_ready.1 hr).1
        rw [heq] at h1
        rcases Nat.lt_or_ge i listed.size with h' | h'
        · simp [h'] at h0 h1; rw [h0] at h1; cases h1
        · simp [Array.getElem?_eq_none h'] at h1
      have h2 := wpOpIn_apartX hp hi hoj (hfree j oj hoj hji hjun hnot) hQ hy (H.2 j (ready_mono hj hji))
      refine wpOpIn_mono (fun a' w' h3 => ⟨h3.2.1, ih (listed.setIfInBounds j true) a' w' ?_ (ready_mono hr (Ne.symm hji)) h3.1 h3.2.1 ?_⟩) h2
      · intro k ok hk hki hun hno
        refine hfree k ok hk hki ?_ hno
        by_cases hjk : j = k
        · rw [← hjk]; exact hjun
        · rw [getD_set_ne true hjk] at hun; exact hun
      · rw [Array.setIfInBounds_comm _ _ hji]
        exact h3.2.2

/-- take number i first -/
theorem HeldIn.takeX (hp : Plainly ops) (i : Nat) (oi : Oper) (v : Value) {fuel : Nat} {listed : Array Bool} {a : Act} {w : World} (hi : ops[i]? = some oi)
    (hf : Region.free .any ops listed i = true) (hr : (Region.ready .any ops listed).contains i = true)
    (hQ : ∀ c a w, Q (.panic c) (a.put oi.dst v) w → Q (.panic c) a w) (hS : S w) (hy : GivesX F P ops S oi v a)
    (h : HeldIn F n P ops Q S fuel (listed.setIfInBounds i true) (a.put oi.dst v) w) : HeldIn F n P ops Q S (fuel + 1) listed a w :=
  HeldIn.firstX hp hi hQ fuel listed a w (Region.free_spec hi hf) (by simpa using hr) hy hS h

end
end Go.Proofs.YtbgjoefpnjgdkaaDoor
