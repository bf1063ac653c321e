/- A range over a function whose iterator tells the round something of the world, and turns objects of its own kind (Ob) between two rounds. -/
import Derived.Test.YtbgjoefpnjgdkaaDoorJ15
import Derived.RangeFuncBox
namespace Go.Proofs.YtbgjoefpnjgdkaaDoor
open Go Go.RowKit
set_option linter.unusedVariables false

/-- J does not mind what an iterator does: new blocks, and a turn of an object of its own kind -/
def AbidesBy {β : Type} (B : Nat) (Ob : Obj → Prop) (J : β → World → Prop) : Prop :=
  ∀ s W W' row, J s W → W.grownBy W' row → (∀ r, row = some r → B ≤ r ∧ ∃ o : Obj, W.heap[r]? = some o ∧ Ob o) → J s W'

/-- an iterator's contract: each element x comes in a world in which T x holds; Kp: what a round must keep; S: which lists come -/
def ToldBy {α : Type} (F : Fence) (n : Nat) (P : Program) (g : Nat) (lb : Array Value) (encs : α → Array Value) (Kp : World → World → Prop) (T : List α → α → World → Prop) (S : List α → Prop) (Ob : Obj → Prop) (w : World) : Prop :=
  ∀ (l : Nat) (J : List α → World → Prop) (W : World), Below w.heap.size w W → AbidesBy W.heap.size Ob J →
    (∀ pre x W1, J pre W1 → T pre x W1 → YieldAt F (n - 1) P l (encs x) W1 fun e W' => e = .returned (.bool true) ∧ J (pre ++ [x]) W' ∧ Kp W1 W') →
    J [] W → CallsIn F n P g (#[.func (.yield l) #[] #[]] ++ lb) W fun e W' => (∃ v, e = .returned v) ∧ ∃ xs, S xs ∧ J xs W'

section
variable {F : Fence} {n : Nat} {P : Program} {w : World}

theorem range_told_by {α : Type} {g : Operand} {ps : Array Tmp} {assign body : Code} {Q : Exit → Act → World → Prop} {a : Act}
    (hro : F.round = none) (h1 : 1 ≤ n) {gf : Nat} {lb : Array Value} (hg : a.eval g = .func (.func gf) #[] lb) (hFg : F.fn gf) (eg : ∀ args w, (callFunc gf args).run P w = .ok (.enter gf args) w)
    {encs : α → Array Value} {Kp : World → World → Prop} {T : List α → α → World → Prop} {S : List α → Prop} {Ob : Obj → Prop} (hseq : ToldBy F (n - 1) P gf lb encs Kp T S Ob w)
    (hKt : ∀ {A B C : World}, Kp A B → Kp B C → Kp A C) (hKb : ∀ (W : World) (l : Nat) (o o' : Obj), w.heap.size ≤ l → W.heap[l]? = some o → o.isCells = false → o.isWalk = false → Kp W (W.putObj l o')) (hps : ∀ x, (encs x).size = ps.size)
    (hT : ∀ pre x, OwnFrom w.heap.size (fun (_ : Unit) W => T pre x W))
    (I : List α → World → Prop) (hI : OwnFrom w.heap.size I) (hIO : AbidesBy w.heap.size Ob I) (h0 : I [] w) (a₁ : α → Act)
    (hassign : ∀ (l : Nat) (x : α) (W : World) (K : Act → World → Prop), K (a₁ x) W →
      assign.wpIn (F.inRound l) (n - 1 - 1) P (Exit.then K (fun _ _ _ => False)) { tmps := (ps.zip (encs x)).foldl (fun t (p, v) => t.setIfInBounds p v) a.tmps, defers := [] } W)
    (hbody : ∀ (l : Nat) (pre : List α) (x : α) (W : World), I pre W → T pre x W → body.wpIn (F.inRound l) (n - 1 - 1) P (toldPost w.heap.size Kp I (pre ++ [x]) W) (a₁ x) W)
    (hdone : ∀ (D : Nat) (xs : List α) (W : World), w.heap.size ≤ D → S xs → I xs W → W.heap[D]? = some (.deferred (some [])) → Q .normal { a with defers := { target := .collected D, args := #[] } :: a.defers } W) :
    (Code.rangeFunc g ps assign body).wpIn F n P Q a w := by
  refine wpIn_rangeFunc fun fn hfn => ?_
  rw [hro]
  -- the record of the loop, in whatever state; it lies in the second of two new blocks
  let record : LoopState → Option Code → Loop := fun st pe => { state := st, pending := pe, fn, tmps := a.tmps, params := ps, assign, body, defers := w.heap.size }
  have hsz : (w.alloc (.deferred (some []))).heap.size = w.heap.size + 1 := World.size_alloc _ _
  generalize hW : (w.alloc (.deferred (some []))).alloc (.loop (record .ready none)) = V
  have hrecV : V.heap[w.heap.size + 1]? = some (.loop (record .ready none)) := by
    rw [← hW, ← hsz]; exact World.alloc_heap_new _ _
  have hcolV : V.heap[w.heap.size]? = some (.deferred (some [])) := by
    rw [← hW, Below.heap_alloc _ _ _ (by omega)]; exact World.alloc_heap_new _ _
  have hIV : I [] V := hW ▸ hI.alloc _ (hI.alloc _ h0)
  have hbV : Below w.heap.size w V := hW ▸ ((Below.refl _ w).alloc (Nat.le_refl _) _).alloc (by omega) _
  have hVs : V.heap.size = w.heap.size + 2 := by rw [← hW, World.size_alloc, hsz]
  refine ⟨w.heap.size + 1, [{ target := .collected w.heap.size, args := #[] }], V, { target := .fn (.func gf) lb, args := #[.func (.yield (w.heap.size + 1)) #[] #[]] }, V, gf, #[.func (.yield (w.heap.size + 1)) #[] #[]] ++ lb, V, ?_, ?_, ?_, ?_, fun _ => h1, ?_⟩
  · rw [← hW]; exact run_enterLoop_outer _ _ _ _ _
  · simp only [resolve, hg]; simp [go_sem]
  · intro f' hf'
    simp only [Target.leads] at hf'
    cases hf'
    exact hFg
  · simp [invoke, go_sem, eg]
  -- an invariant of the iterator's: mine, and the two blocks
  have stay : ∀ {A B : World} {row : Option Nat} {k : Nat} {o : Obj}, k < V.heap.size → A.heap[k]? = some o → A.grownBy B row → (∀ r, row = some r → V.heap.size ≤ r ∧ ∃ o : Obj, A.heap[r]? = some o ∧ Ob o) → B.heap[k]? = some o := by
    intro A B row k o hk ho hg' hr
    refine (hg'.block k (Array.getElem?_eq_some_iff.1 ho).1 fun e => ?_).trans ho
    have := (hr k e.symm).1
    omega
  refine (hseq (w.heap.size + 1) (fun pre W => I pre W ∧ W.heap[w.heap.size + 1]? = some (.loop (record .ready none)) ∧ W.heap[w.heap.size]? = some (.deferred (some []))) V hbV
    (fun s A B row hs hg' hr => ⟨hIO s A B row hs.1 hg' (fun r e => ⟨Nat.le_trans (by omega) (hr r e).1, (hr r e).2⟩), stay (by omega) hs.2.1 hg' hr, stay (by omega) hs.2.2 hg' hr⟩) ?_ ⟨hIV, hrecV, hcolV⟩).mono ?_
  · -- one round
    rintro pre x W ⟨hi, hl, hk⟩ ht
    have hlt : w.heap.size + 1 < W.heap.size := (Array.getElem?_eq_some_iff.1 hl).1
    refine ⟨fn, _, assign, body, run_yield hl (hps x), roundIn_of_wpIn hfn (hassign _ x W _ ⟨_, run_beginRound hl rfl, ?_⟩)⟩
    generalize hU : W.putObj (w.heap.size + 1) (.loop { record .ready none with state := .busy }) = U
    have hlU : U.heap[w.heap.size + 1]? = some (.loop { record .ready none with state := .busy }) := hU ▸ World.putObj_heap_same hlt
    have hkU : U.heap[w.heap.size]? = some (.deferred (some [])) := hU ▸ (World.putObj_heap_other (by omega)).trans hk
    have hpU : Kp W U := hU ▸ hKb _ _ _ _ (by omega) hl rfl rfl
    have hiU : I pre U := hU ▸ hI.putObj _ hi (by omega) hl rfl
    have htU : T pre x U := hU ▸ (hT pre x).putObj (s := ()) _ ht (by omega) hl rfl
    refine wpIn_mono (hbody _ pre x U hiU htU) ?_
    rintro e a3 W3 hp
    cases e with
    | normal =>
      obtain ⟨hk3, hp3, hi3⟩ := hp
      have hl3 := hk3.same _ _ (by omega) hlU rfl
      have hk4 := hk3.same _ _ (Nat.le_refl _) hkU rfl
      exact ⟨_, _, run_endRound none hl3, rfl, ⟨hI.putObj _ hi3 (by omega) hl3 rfl, World.putObj_heap_same (Array.getElem?_eq_some_iff.1 hl3).1, (World.putObj_heap_other (by omega)).trans hk4⟩, hKt (hKt hpU hp3) (hKb _ _ _ _ (by omega) hl3 rfl rfl)⟩
    | _ => exact hp.elim
  · -- the iterator has returned
    rintro e W2 ⟨⟨v, rfl⟩, xs, hS, hi, hl, hk⟩
    exact ⟨none, _, run_endLoop hl (by simp [record]), hdone _ xs _ (Nat.le_refl _) hS (hI.putObj _ hi (by omega) hl rfl) ((World.putObj_heap_other (by omega)).trans hk)⟩
end
end Go.Proofs.YtbgjoefpnjgdkaaDoor
