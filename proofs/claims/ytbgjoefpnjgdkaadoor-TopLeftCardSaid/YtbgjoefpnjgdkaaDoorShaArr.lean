/- A block of words, cell by cell. -/
import Derived.Test.YtbgjoefpnjgdkaaDoorBase
import Derived.Lib.Hide
namespace Go.Proofs.YtbgjoefpnjgdkaaDoor
open Go.RowKit
set_option linter.unusedVariables false
namespace Sha
/-- block n holds N words: those of f -/
structure Arr (n : Nat) (w : World) (f : Nat → Int) (N : Nat) : Prop where
  size : n < w.heap.size
  cell : ∀ j, j < N → w.cell? ⟨n, j, none⟩ = some (.int .u32 (f j))
  froz : ∀ j, w.frozen? ⟨n, j, none⟩ = false

theorem Arr.below {n : Nat} {w w' : World} {f : Nat → Int} {N : Nat} (h : Arr n w f N) (hb : Below w.heap.size w w') : Arr n w' f N :=
  ⟨Nat.lt_of_lt_of_le h.size hb.size, fun j hj => by rw [hb.cell (p := ⟨n, j, none⟩) h.size]; exact h.cell j hj, fun j => by rw [hb.frozen (p := ⟨n, j, none⟩) h.size]; exact h.froz j⟩

theorem Arr.drew {n : Nat} {w : World} {f : Nat → Int} {N : Nat} (h : Arr n w f N) : Arr n w.drew f N := ⟨h.size, h.cell, h.froz⟩

theorem Arr.set {n : Nat} {w : World} {f : Nat → Int} {N : Nat} (h : Arr n w f N) (j : Nat) (hj : j < N) (v : Int) : Arr n (w.setCell ⟨n, j, none⟩ (.int .u32 v)) (fun i => if i = j then v else f i) N := by
  refine ⟨by simpa [World.setCell] using h.size, fun i hi => ?_, fun i => by rw [World.frozen?_setCell]; exact h.froz i⟩
  by_cases hij : i = j
  · subst hij
    rw [if_pos rfl]
    exact World.cell?_setCell_same' _ _ _ (by rw [h.cell i hi]; rfl)
  · rw [if_neg hij, World.cell?_setCell_other _ _ _ _ (by intro e; injection e with _ e2; exact hij e2.symm)]
    exact h.cell i hi

theorem Arr.far {n m : Nat} {w : World} {f : Nat → Int} {N : Nat} (h : Arr n w f N) (hne : m ≠ n) (i : Nat) (v : Value) : Arr n (w.setCell ⟨m, i, none⟩ v) f N := by
  refine ⟨by simpa [World.setCell] using h.size, fun j hj => ?_, fun j => by rw [World.frozen?_setCell]; exact h.froz j⟩
  rw [World.cell?_setCell_other _ _ _ _ (by intro e; injection e with e1; exact hne e1)]
  exact h.cell j hj

theorem Arr.congr {n : Nat} {w : World} {f g : Nat → Int} {N : Nat} (h : Arr n w f N) (hfg : ∀ j, j < N → f j = g j) : Arr n w g N :=
  ⟨h.size, fun j hj => by rw [← hfg j hj]; exact h.cell j hj, h.froz⟩

/-- a new block of zeros -/
theorem Arr.zeros (w : World) (N : Nat) (C : Array Value) (t : TypeId) (hC : C = Array.replicate N (.int .u32 0)) : Arr w.heap.size (w.alloc (.cells C t)) (fun _ => 0) N := by
  subst hC
  refine ⟨by simp, fun j hj => ?_, fun j => (World.frozen?_alloc_mark w _ t 0 0 j).trans (by simp)⟩
  have := World.cell?_alloc_mark w (Array.replicate N (.int .u32 0)) t (0, 0) j
  rw [this]
  simp [hj]

theorem below_setCells {B b : Nat} {w : World} (hb : B ≤ b) : ∀ (vs : List Value) (o : Nat) (w' : World), Below B w w' → Below B w (w'.setCells b o vs)
  | [], _, _, h => h
  | v :: r, o, w', h => by
    rw [World.setCells]
    exact below_setCells hb r (o + 1) _ (h.setCell (p := ⟨b, o, none⟩) hb v)

/-- a result that lies in a block -/
theorem results_cell {fn : Func} {t : Tmp} {ty : TypeId} (h : fn.results = #[.cell t ty]) (tmps : Array Value) (P : Program) (w : World) (b : Nat) (cs : List Value) (hv : tmps.getD t undef = .pointer (some ⟨b, 0, none⟩)) (hl : (loadVar ty ⟨b, 0, none⟩).run P w = .ok (.agg cs.toArray) w) :
    (results fn tmps).run P w = .ok (.agg cs.toArray) w := by
  have hv' : tmps[t]?.getD undef = .pointer (some ⟨b, 0, none⟩) := by simpa using hv
  simp [results, h, hv', asAddr, hl]
end Sha
end Go.Proofs.YtbgjoefpnjgdkaaDoor
