/- A region that draws its order, in a fence that may be a round's: what only reads may be taken first, if a condition on the world holds behind every operation that is carried out. -/
import Derived.OrdersIn
import Derived.OwnWalkIn
namespace Go.Proofs.YtbgjoefpnjgdkaaDoor
open Go

section
variable {F : Fence} {n : Nat} {P : Program} {ops : Array Oper} {Q : Exit → Act → World → Prop} {S : World → Prop}

/-- In this state the operation leaves 'v' and does nothing else, in every world that meets S; and it is about to make no call. -/
structure Gives (P : Program) (ops : Array Oper) (S : World → Prop) (o : Oper) (v : Value) (a : Act) : Prop where
  yes : Region.wanted o (yielded ops a.tmps) = true
  run : ∀ w, S w → (execOp a.eval o).run P w = .ok (.value v) w
  none : ∀ w, o.about P w a.eval = none

theorem Gives.put {o : Oper} {v : Value} {a : Act} (h : Gives P ops S o v a) (hs : ∀ cs b, o.op ≠ .select cs b) (d : Option Tmp) (u : Value) (hd : ∀ t, d = some t → t ∉ o.looksAt ops) : Gives P ops S o v (a.put d u) :=
  ⟨by rw [wanted_put o a d u hd]; exact h.yes, fun w hw => by rw [execOp_put o hs a d u hd]; exact h.run w hw, fun w => by rw [about_put o w a d u hd]; exact h.none w⟩

/-- no operation is a defer statement, and none selects -/
structure Plainly (ops : Array Oper) : Prop where
  nd : ∀ (j : Nat) (o : Oper), ops[j]? = some o → ∀ c, o.op ≠ .defer c
  ns : ∀ (j : Nat) (o : Oper), ops[j]? = some o → ∀ cs b, o.op ≠ .select cs b

def plainB (o : Oper) : Bool := match o.op with
  | .defer _ => false
  | .select _ _ => false
  | _ => true

theorem Plainly.of (h : ops.all plainB = true) : Plainly ops := by
  have hall : ∀ (j : Nat) (o : Oper), ops[j]? = some o → plainB o = true := fun j o hj => by
    rw [Array.all_eq_true'] at h
    exact h o (Array.mem_of_getElem? hj)
  refine ⟨fun j o hj c e => ?_, fun j o hj cs b e => ?_⟩
  all_goals
    have := hall j o hj
    unfold plainB at this
    rw [e] at this
    cases this

theorem Gives.wpOpIn (hp : Plainly ops) {i : Nat} {o : Oper} {v : Value} {a : Act} (hi : ops[i]? = some o) (h : Gives P ops S o v a) {K : Act → World → Prop} {w : World} (hS : S w) (hK : K (a.put o.dst v) w) : wpOpIn F n P ops Q i K a w := by
  unfold Go.wpOpIn
  simp only [hi, h.yes, if_true, Oper.wpIn]
  rw [Oper.semAt_plain F _ _ (hp.nd i o hi), h.run w hS]
  exact ⟨fun f hf => absurd hf (by rw [h.none w]; simp), hK⟩

/-- whatever order is picked from here on, S holding behind every operation -/
def HeldIn (F : Fence) (n : Nat) (P : Program) (ops : Array Oper) (Q : Exit → Act → World → Prop) (S : World → Prop) : Nat → Array Bool → Act → World → Prop
  | 0, listed, a, w => Region.ready .any ops listed = [] ∧ Q .normal a w
  | fuel + 1, listed, a, w => (Region.ready .any ops listed = [] → Q .normal a w) ∧
    ∀ i ∈ Region.ready .any ops listed, wpOpIn F n P ops Q i (fun a' w' => S w' ∧ HeldIn F n P ops Q S fuel (listed.setIfInBounds i true) a' w') a w

theorem HeldIn.any : ∀ (fuel : Nat) (listed : Array Bool) (a : Act) (w : World), HeldIn F n P ops Q S fuel listed a w → wpAnyIn F n P .any ops Q fuel listed a w
  | 0, _, _, _, h => h
  | fuel + 1, _, _, _, h => ⟨h.1, fun i hi => wpOpIn_mono (fun a' w' h' => HeldIn.any fuel _ a' w' h'.2) (h.2 i hi)⟩

/-- an operation apart from one that gives: it does not matter whether the value lies there already -/
theorem wpOpIn_apart (hp : Plainly ops) {i j : Nat} {oi oj : Oper} {v : Value} (hi : ops[i]? = some oi) (hj : ops[j]? = some oj) (hap : oi.apart ops oj = true)
    (hQ : ∀ c a w, Q (.panic c) (a.put oi.dst v) w → Q (.panic c) a w) {K : Act → World → Prop} {a : Act} {w : World}
    (hy : Gives P ops S oi v a) (h : wpOpIn F n P ops Q j K (a.put oi.dst v) w) :
    wpOpIn F n P ops Q j (fun a' w' => Gives P ops S oi v a' ∧ K (a'.put oi.dst v) w') a w := by
  obtain ⟨h1, h2, h3⟩ := Oper.apart_spec hap
  have keep : ∀ u, Gives P ops S oi v (a.put oj.dst u) := fun u => hy.put (hp.ns i oi hi) oj.dst u h3
  unfold Go.wpOpIn at h ⊢
  simp only [hj] at h ⊢
  rw [wanted_put oj a oi.dst v h1, about_put oj w a oi.dst v h1] at h
  by_cases hw : Region.wanted oj (yielded ops a.tmps) = true
  · rw [if_pos hw] at h ⊢
    unfold Oper.wpIn at h ⊢
    rw [about_put oj w a oi.dst v h1] at h
    obtain ⟨ha, h⟩ := h
    refine ⟨ha, ?_⟩
    rw [Oper.semAt_plain F _ _ (hp.nd j oj hj), execOp_put oj (hp.ns j oj hj) a oi.dst v h1] at h
    rw [Oper.semAt_plain F _ _ (hp.nd j oj hj)]
    have hQ' : ∀ (u : Value) (w'' : World) (d : List Deferred), K (({ a with defers := d }.put oi.dst v).put oj.dst u) w'' → K (({ a with defers := d }.put oj.dst u).put oi.dst v) w'' := fun u w'' d hk => by
      rw [← Act.put_comm _ v u h2]; exact hk
    rcases hr : (execOp a.eval oj).run P w with ⟨x, w'⟩ | ⟨x, w'⟩ <;> rw [hr] at h
    · cases x <;> simp only [Oper.uponIn] at h ⊢
      case value u => exact ⟨keep u, hQ' u w' a.defers h⟩
      case skip => exact ⟨keep undef, hQ' undef w' a.defers h⟩
      case defer d =>
        have hg : Gives P ops S oi v { a with defers := d :: a.defers } := ⟨hy.yes, hy.run, hy.none⟩
        refine ⟨hg.put (hp.ns i oi hi) oj.dst undef h3, hQ' undef w' (d :: a.defers) ?_⟩
        rw [← Act.put_defers]; exact h
      case enter f args =>
        refine ⟨h.1, CallsIn.mono h.2 fun e w'' he => ?_⟩
        cases e with
        | returned u => exact ⟨keep u, hQ' u w'' a.defers he⟩
        | panicked c => exact hQ _ _ _ he
        | outgrown => exact he
      case row row args => exact ⟨h.1, RowsIn.mono h.2 fun u w'' he => ⟨keep u, hQ' u w'' a.defers he⟩⟩
      case round l f tmps assign body =>
        refine ⟨h.1, RoundIn.mono h.2 fun e w'' he => ?_⟩
        cases e with
        | returned u => exact ⟨keep u, hQ' u w'' a.defers he⟩
        | panicked c => exact hQ _ _ _ he
        | outgrown => exact he
    · cases x <;> simp only [Oper.uponIn] at h ⊢
      case panic u => exact hQ _ _ _ h
  · rw [if_neg hw] at h ⊢
    refine ⟨h.1, keep undef, ?_⟩
    rw [← Act.put_comm a v undef h2]; exact h.2

theorem HeldIn.first (hp : Plainly ops) {i : Nat} {oi : Oper} {v : Value} (hi : ops[i]? = some oi) (hQ : ∀ c a w, Q (.panic c) (a.put oi.dst v) w → Q (.panic c) a w) (fuel : Nat) :
    ∀ (listed : Array Bool) (a : Act) (w : World),
      (∀ j oj, ops[j]? = some oj → j ≠ i → listed.getD j true = false → (∀ e ∈ oj.after, Region.binds .any e = true → e.on ≠ i) → oi.apart ops oj = true) →
      i ∈ Region.ready .any ops listed → Gives P ops S oi v a → S w →
      HeldIn F n P ops Q S fuel (listed.setIfInBounds i true) (a.put oi.dst v) w → HeldIn F n P ops Q S (fuel + 1) listed a w := by
  induction fuel with
  | zero =>
    intro listed a w _ hr hy hS H
    refine ⟨fun h => absurd hr (by rw [h]; exact List.not_mem_nil), fun j hj => ?_⟩
    by_cases hji : j = i
    · rw [hji]; exact hy.wpOpIn hp hi hS ⟨hS, H⟩
    · have := ready_mono hj hji
      rw [H.1] at this
      exact absurd this List.not_mem_nil
  | succ fuel ih =>
    intro listed a w hfree hr hy hS H
    refine ⟨fun h => absurd hr (by rw [h]; exact List.not_mem_nil), fun j hj => ?_⟩
    by_cases hji : j = i
    · rw [hji]; exact hy.wpOpIn hp hi hS ⟨hS, H⟩
    · obtain ⟨hjun, oj, hoj, hall⟩ := mem_ready.1 hj
      have hnot : ∀ e ∈ oj.after, Region.binds .any e = true → e.on ≠ i := by
        intro e he hb heq
        have h1 := hall e he hb
        have h0 := (mem_ready.1 hr).1
        rw [heq] at h1
        rcases Nat.lt_or_ge i listed.size with h' | h'
        · simp [h'] at h0 h1; rw [h0] at h1; cases h1
        · simp [Array.getElem?_eq_none h'] at h1
      have h2 := wpOpIn_apart hp hi hoj (hfree j oj hoj hji hjun hnot) hQ hy (H.2 j (ready_mono hj hji))
      refine wpOpIn_mono (fun a' w' h3 => ⟨h3.2.1, ih (listed.setIfInBounds j true) a' w' ?_ (ready_mono hr (Ne.symm hji)) h3.1 h3.2.1 ?_⟩) h2
      · intro k ok hk hki hun hno
        refine hfree k ok hk hki ?_ hno
        by_cases hjk : j = k
        · rw [← hjk]; exact hjun
        · rw [getD_set_ne true hjk] at hun; exact hun
      · rw [Array.setIfInBounds_comm _ _ hji]
        exact h3.2.2

/-- take number i first -/
theorem HeldIn.take (hp : Plainly ops) (i : Nat) (oi : Oper) (v : Value) {fuel : Nat} {listed : Array Bool} {a : Act} {w : World} (hi : ops[i]? = some oi)
    (hf : Region.free .any ops listed i = true) (hr : (Region.ready .any ops listed).contains i = true)
    (hQ : ∀ c a w, Q (.panic c) (a.put oi.dst v) w → Q (.panic c) a w) (hS : S w) (hy : Gives P ops S oi v a)
    (h : HeldIn F n P ops Q S fuel (listed.setIfInBounds i true) (a.put oi.dst v) w) : HeldIn F n P ops Q S (fuel + 1) listed a w :=
  HeldIn.first hp hi hQ fuel listed a w (Region.free_spec hi hf) (by simpa using hr) hy hS h

/-- whichever comes up -/
def HeldAll (F : Fence) (n : Nat) (P : Program) (ops : Array Oper) (Q : Exit → Act → World → Prop) (S : World → Prop) (fuel : Nat) (listed : Array Bool) (a : Act) (w : World) (rs : List Nat) : Prop :=
  ∀ i ∈ rs, wpOpIn F n P ops Q i (fun a' w' => S w' ∧ HeldIn F n P ops Q S fuel (listed.setIfInBounds i true) a' w') a w

theorem HeldIn.all {fuel : Nat} {listed : Array Bool} {a : Act} {w : World} (rs : List Nat) (hr : Region.ready .any ops listed = rs) (hne : rs ≠ [])
    (h : HeldAll F n P ops Q S fuel listed a w rs) : HeldIn F n P ops Q S (fuel + 1) listed a w :=
  ⟨fun h0 => absurd (hr ▸ h0) hne, hr ▸ h⟩

theorem HeldAll.nil {fuel : Nat} {listed : Array Bool} {a : Act} {w : World} : HeldAll F n P ops Q S fuel listed a w [] := fun _ h => absurd h List.not_mem_nil

theorem HeldAll.cons {fuel : Nat} {listed : Array Bool} {a : Act} {w : World} {i : Nat} {o : Oper} {rs : List Nat} (ho : ops[i]? = some o)
    (hw : Region.wanted o (yielded ops a.tmps) = true)
    (h : ∀ K : Act → World → Prop, (∀ a w, S w → HeldIn F n P ops Q S fuel (listed.setIfInBounds i true) a w → K a w) → Oper.wpIn F n P o a w K Q)
    (hs : HeldAll F n P ops Q S fuel listed a w rs) : HeldAll F n P ops Q S fuel listed a w (i :: rs) := by
  intro j hj
  rcases List.mem_cons.1 hj with e | hj
  · rw [e]
    unfold Go.wpOpIn
    rw [ho]
    simp only [hw, if_true]
    exact h _ (fun a w s k => ⟨s, k⟩)
  · exact hs j hj

theorem HeldIn.done {listed : Array Bool} {a : Act} {w : World} (hr : Region.ready .any ops listed = []) (h : Q .normal a w) : ∀ fuel, HeldIn F n P ops Q S fuel listed a w
  | 0 => ⟨hr, h⟩
  | _ + 1 => ⟨fun _ => h, by rw [hr]; exact fun _ h => absurd h List.not_mem_nil⟩

/-- the beginning -/
theorem wpIn_region_held (S : World → Prop) {id : Nat} {a : Act} {w : World} (hm : P.follows .mixedOrders = true)
    (h : HeldIn F n P ops Q S ops.size (Array.replicate ops.size false) a w.drew) : (Code.region id ops true).wpIn F n P Q a w :=
  wpIn_region_any hm (HeldIn.any _ _ _ _ h)

end
end Go.Proofs.YtbgjoefpnjgdkaaDoor
