/- More of bytes that may be appended to: in a range over a function. -/
import Derived.Test.YtbgjoefpnjgdkaaDoorBag
import Derived.RangeFuncBox
import Derived.Lib.SlBytesConst
namespace Go.Proofs.YtbgjoefpnjgdkaaDoor
open Go.RowKit
set_option linter.unusedVariables false
/-- its row is not a block that holds something else -/
theorem Bag.ne_box {base b : Nat} {w : World} {v u : Value} {l : List UInt8} (h : Bag base w v l) (hl : 0 < l.length) (hb : w.cell? ⟨b, 0, none⟩ = some u) (hu : ∀ c : Int, u ≠ .int .u8 c) : v.ownBlock ≠ some b := by
  rcases h with ⟨rfl, rfl⟩ | ⟨g, cap, rfl, _, _, _, h1, _⟩
  · cases hl
  · intro e
    injection e with e
    simp only at e
    subst e
    have h0 := h1 0 hl
    rw [hb] at h0
    exact hu _ (Option.some.inj h0)

/-- a literal that was converted to its own type -/
theorem Bag.literal (w : World) (l : List UInt8) (C : Array Value) (t : TypeId) (k : Nat) (base H : Nat) (hH : w.heap.size = H) (hb : base ≤ H) (hC : C = (bytesV l).toArray) (hk : l.length ≤ k) (m : Nat) : Bag base (w.alloc (.cells C t (k, m))) (.slice (some ⟨H, 0, none⟩) l.length l.length) l := by
  subst hH hC
  refine .inr ⟨w.heap.size, l.length, rfl, hb, by simp, Nat.le_refl _, fun j hj => ?_, fun j hj => ⟨?_, ?_⟩⟩
  · rw [World.cell?_alloc_mark w (bytesV l).toArray t (k, m) j]
    simp [bytesV, hj]
  · rw [World.cell?_alloc_mark w (bytesV l).toArray t (k, m) j]
    simp [bytesV, hj]
  · refine (World.frozen?_alloc_mark w (bytesV l).toArray t k m j).trans ?_
    simp only [Bool.and_eq_false_iff, decide_eq_false_iff_not]
    left; omega

/-- it outlives what is done to blocks that are no cells -/
theorem Bag.from {β : Type} {base : Nat} {v : Value} {f : β → List UInt8} {s : β} {W W' : World} {row : Option Nat} (h : Bag base W v (f s)) (hl : 0 < (f s).length) (hg : W.grownBy W' row) (hr : ∀ r, row = some r → ∃ o : Obj, W.heap[r]? = some o ∧ o.isCells = false) : Bag base W' v (f s) := by
  refine h.kept hg ?_
  by_cases h0 : v.ownBlock = none
  · exact .inl h0
  · right
    intro e
    rcases h with ⟨_, h1⟩ | ⟨g, cap, rfl, _, _, _, h1, _⟩
    · rw [h1] at hl; cases hl
    · obtain ⟨o, ho, hc⟩ := hr g e.symm
      have hcell := h1 0 hl
      unfold World.cell? at hcell
      simp only [ho] at hcell
      cases o <;> simp_all [Obj.isCells]

theorem row_ne_cell {W : World} {row : Option Nat} {b : Nat} {u : Value} (hc : W.cell? ⟨b, 0, none⟩ = some u) (hr : ∀ r, row = some r → ∃ o : Obj, W.heap[r]? = some o ∧ o.isCells = false) : some b ≠ row := by
  intro e
  obtain ⟨o, ho, hcc⟩ := hr b e.symm
  unfold World.cell? at hc
  simp only [ho] at hc
  cases o <;> simp_all [Obj.isCells]
theorem boxed_low {W W' : World} {B : Nat} {t : TypeId} {v : Value} (h : Boxed W B t v) (hb : Below W.heap.size W W') : Boxed W' B t v :=
  h.kept (row := none) ⟨hb.os, hb.tape, hb.output, hb.size, fun k hk _ => hb.block k hk⟩ (by simp)
theorem keeps_low {W W' : World} (hb : Below W.heap.size W W') : KeepsOthers W W' :=
  KeepsOthers.of_grownBy (row := none) ⟨hb.os, hb.tape, hb.output, hb.size, fun k hk _ => hb.block k hk⟩ (fun j o e => by cases e)

/-- a literal's new row -/
theorem Bag.fresh (w : World) (l : List UInt8) (C : Array Value) (t : TypeId) (base H : Nat) (hH : w.heap.size = H) (hb : base ≤ H) (hC : C = (bytesV l).toArray) : Bag base (w.alloc (.cells C t)) (.slice (some ⟨H, 0, none⟩) l.length l.length) l := by
  subst hH hC
  refine .inr ⟨w.heap.size, l.length, rfl, hb, by simp, Nat.le_refl _, fun j hj => ?_, fun j hj => ⟨?_, ?_⟩⟩
  · rw [World.cell?_alloc_mark w (bytesV l).toArray t (0, 0) j]
    simp [bytesV, hj]
  · rw [World.cell?_alloc_mark w (bytesV l).toArray t (0, 0) j]
    simp [bytesV, hj]
  · exact (World.frozen?_alloc_mark w (bytesV l).toArray t 0 0 j).trans (by simp)
theorem add_block (b j : Nat) : ((⟨b, 0, none⟩ : Addr).add j).block = b := by unfold Addr.add; split <;> rfl
end Go.Proofs.YtbgjoefpnjgdkaaDoor
