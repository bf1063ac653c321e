/- A block of words that is known whole: for the law of copy. -/
import Derived.Test.YtbgjoefpnjgdkaaDoorShaArr
import Derived.Laws.CopyOwn
namespace Go.Proofs.YtbgjoefpnjgdkaaDoor
open Go.RowKit
set_option linter.unusedVariables false
namespace Sha
/-- N words as cells -/
def cellsOfF (f : Nat → Int) (N : Nat) : List Value := (List.range N).map fun j => Value.int .u32 (f j)
theorem cellsOfF_length (f : Nat → Int) (N : Nat) : (cellsOfF f N).length = N := by simp [cellsOfF]
theorem cellsOfF_at (f : Nat → Int) (N j : Nat) (h : j < N) : (cellsOfF f N)[j]? = some (.int .u32 (f j)) := by
  rw [cellsOfF, List.getElem?_map, List.getElem?_range h]; rfl

/-- block n is just these N words -/
def Row (n : Nat) (w : World) (f : Nat → Int) (N : Nat) (t : TypeId) : Prop := w.heap[n]? = some (.cells (cellsOfF f N).toArray t (0, 0))

theorem Row.lt {n : Nat} {w : World} {f : Nat → Int} {N : Nat} {t : TypeId} (h : Row n w f N t) : n < w.heap.size := (Array.getElem?_eq_some_iff.1 h).1

theorem Row.arr {n : Nat} {w : World} {f : Nat → Int} {N : Nat} {t : TypeId} (h : Row n w f N t) : Arr n w f N := by
  refine ⟨h.lt, fun j hj => ?_, fun j => ?_⟩
  · unfold Row at h
    simp [World.cell?, h, cellsOfF_at f N j hj]
  · unfold Row at h
    simp [World.frozen?, h]

theorem Row.below {n : Nat} {w w' : World} {f : Nat → Int} {N : Nat} {t : TypeId} (h : Row n w f N t) (hb : Below w.heap.size w w') : Row n w' f N t := by
  unfold Row
  rw [hb.block n h.lt]; exact h

theorem Row.drewN {n : Nat} {w : World} {f : Nat → Int} {N : Nat} {t : TypeId} (h : Row n w f N t) (k : Nat) : Row n (w.drewN k) f N t := h
theorem Row.congr {n : Nat} {w : World} {f g : Nat → Int} {N : Nat} {t : TypeId} (h : Row n w f N t) (hfg : ∀ j, j < N → f j = g j) : Row n w g N t := by
  unfold Row at h ⊢
  rw [h]
  have : cellsOfF f N = cellsOfF g N := by
    unfold cellsOfF
    exact List.map_congr_left fun j hj => by rw [hfg j (List.mem_range.1 hj)]
  rw [this]

theorem splice_shift (f : Nat → Int) : splice (cellsOfF f 8) 1 (cellsOfF f 7) = cellsOfF (fun i => if i = 0 then f 0 else f (i - 1)) 8 := rfl

theorem Row.set {n : Nat} {w : World} {f : Nat → Int} {N : Nat} {t : TypeId} (h : Row n w f N t) (j : Nat) (hj : j < N) (v : Int) : Row n (w.setCell ⟨n, j, none⟩ (.int .u32 v)) (fun i => if i = j then v else f i) N t := by
  unfold Row at h ⊢
  have hl := (Array.getElem?_eq_some_iff.1 h).1
  have e : (cellsOfF (fun i => if i = j then v else f i) N).toArray = (cellsOfF f N).toArray.setIfInBounds j (.int .u32 v) := by
    apply Array.ext_getElem?
    intro i
    rw [Array.getElem?_setIfInBounds]
    simp only [List.getElem?_toArray, List.size_toArray, cellsOfF_length]
    by_cases hi : i < N
    · rw [cellsOfF_at _ N i hi]
      by_cases hij : j = i
      · subst hij; rw [if_pos rfl, if_pos hj, if_pos rfl]
      · rw [if_neg hij, cellsOfF_at _ N i hi, if_neg (fun e => hij e.symm)]
    · rw [List.getElem?_eq_none (by rw [cellsOfF_length]; omega)]
      by_cases hij : j = i
      · omega
      · rw [if_neg hij, List.getElem?_eq_none (by rw [cellsOfF_length]; omega)]
  rw [e]
  simp only [World.setCell]
  rw [Array.getElem?_modify, if_pos rfl, h]
  rfl
end Sha
end Go.Proofs.YtbgjoefpnjgdkaaDoor
