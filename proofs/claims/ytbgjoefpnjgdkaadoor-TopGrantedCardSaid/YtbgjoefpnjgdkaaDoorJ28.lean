/- Joined of 2 texts: their lemmas, one behind the other; each says below what it holds. -/
import Derived.Test.YtbgjoefpnjgdkaaDoorJ27
import Derived.Test.YtbgjoefpnjgdkaaDoorJ01
import Derived.Deep.MidRow
/- book.Add to none. -/
namespace Go.Proofs.YtbgjoefpnjgdkaaDoor
open Go.RowKit
set_option linter.unusedVariables false
set_option linter.unusedSimpArgs false
set_option maxRecDepth 100000
namespace Book
set_option maxHeartbeats 1000000 in
theorem add_bad (sv fr to hi : Int) (root : Array Value) (hr : root.size = 32) (hbad : ¬ rightP sv fr to hi) (w : World) : Calls Tryd.prog 21 #[.slice none 0 0, grantV sv fr to hi root] w fun e w' => e = .returned (.tuple #[.slice none 0 0, .int .i64 2]) ∧ Below w.heap.size w w' := by
  have HRI := Lib.hid (fun (W : World) => right_any sv fr to hi root hr W)
  rw [show decide (rightP sv fr to hi) = false from decide_eq_false hbad] at HRI
  unfold grantV at *
  have hsz : (#[Value.int .i64 sv, .int .i64 fr, .int .i64 to, .int .i64 hi] ++ root).size = 36 := by simp [hr]
  generalize (#[Value.int .i64 sv, .int .i64 fr, .int .i64 to, .int .i64 hi] ++ root) = g at *
  have hb := (Below.refl w.heap.size w).alloc (Nat.le_refl _) (.cells g 51)
  have hq := World.alloc_heap_new w (.cells g 51)
  have hra : (w.alloc (.cells g 51)).rangeAt w.heap.size 0 g.toList := fun j u hu => by
    rw [Nat.zero_add]
    refine (World.cell?_alloc_mark w g 51 (0, 0) j).trans ?_
    simpa using hu
  have HI : Hid ((Tryd.prog.info? 51).map (·.size) = some g.toList.length) := by rw [Array.length_toList, hsz]; exact Lib.hid (by kernel_rfl)
  have HRA := Lib.hid hra
  clear hra hq
  go_enter Tryd.func21, Tryd.ntmps21
  go_wp2_with fail
  refine (check_nil _).mono ?_
  rintro e w1 ⟨rfl, rfl⟩
  go_wp2_with fail
  refine (clone_nil _).mono ?_
  rintro e w1 ⟨rfl, rfl⟩
  generalize w.alloc (.cells g 51) = wa at *
  go_wp2_with (with_reducible refine wpList_load_mid rfl 51 _ rfl w.heap.size 0 rfl g.toList _ HRA.out Tryd.underlying51 rfl HI.out ?_)
  refine (HRI.out _).mono ?_
  rintro e w2 ⟨rfl, hb2⟩
  have hB := hb.trans (hb2.mono hb.size)
  go_wp2_with fail
  refine bodyPost_ret (v := .tuple #[.slice none 0 0, .int .i64 2]) (by simp [results, Tryd.f21, go_sem]) rfl ⟨rfl, hB⟩
end Book
end Go.Proofs.YtbgjoefpnjgdkaaDoor
/- A block of cells that may be written, told by its cells. -/
namespace Go.Proofs.YtbgjoefpnjgdkaaDoor
open Go.RowKit
set_option linter.unusedVariables false
set_option linter.unusedSimpArgs false

/-- block g holds these cells from its head on, and they may be written -/
structure Blk (w : World) (g : Nat) (cs : List Value) : Prop where
  size : g < w.heap.size
  at_ : w.rangeAt g 0 cs
  there : w.there g 0 cs.length
theorem blk_sets (g o : Nat) (vs : List Value) (w : World) : (w.setCells g o vs).heap.size = w.heap.size := by
  induction vs generalizing o w with
  | nil => rfl
  | cons v r ih => rw [World.setCells, ih]; simp [World.setCell]
namespace Blk
theorem cell {w : World} {g : Nat} {cs : List Value} (h : Blk w g cs) (i : Nat) {v : Value} (hv : cs[i]? = some v) : w.cell? ⟨g, i, none⟩ = some v := by
  have := h.at_ i v hv
  rwa [Nat.zero_add] at this
theorem froz {w : World} {g : Nat} {cs : List Value} (h : Blk w g cs) (i : Nat) (hi : i < cs.length) : w.frozen? ⟨g, i, none⟩ = false := by
  have := (h.there i hi).2
  rwa [Nat.zero_add] at this
theorem below {w w' : World} {g : Nat} {cs : List Value} (h : Blk w g cs) {B : Nat} (hb : Below B w w') (hB : g < B) : Blk w' g cs :=
  ⟨Nat.lt_of_lt_of_le h.size hb.size, fun j v hv => (hb.cell (p := ⟨g, 0 + j, none⟩) hB).trans (h.at_ j v hv), fun j hj => by rw [hb.cell (p := ⟨g, 0 + j, none⟩) hB, hb.frozen (p := ⟨g, 0 + j, none⟩) hB]; exact h.there j hj⟩
theorem low {w w' : World} {g : Nat} {cs : List Value} (h : Blk w g cs) (hb : Below w.heap.size w w') : Blk w' g cs := h.below hb h.size
theorem drew {w : World} {g : Nat} {cs : List Value} (h : Blk w g cs) : Blk w.drew g cs := ⟨h.size, h.at_, h.there⟩
theorem alloc {w : World} {g : Nat} {cs : List Value} (h : Blk w g cs) (o : Obj) : Blk (w.alloc o) g cs := h.low ((Below.refl _ _).alloc (Nat.le_refl _) o)
theorem grown {w w' : World} {g : Nat} {cs : List Value} {row : Option Nat} (h : Blk w g cs) (hg : w.grownBy w' row) (hne : row ≠ some g) : Blk w' g cs := by
  have hbl : w'.heap[g]? = w.heap[g]? := hg.block g h.size (fun e => hne e.symm)
  exact ⟨Nat.lt_of_lt_of_le h.size hg.size, fun j v hv => (World.cell?_of_block (a := ⟨g, 0 + j, none⟩) hbl).trans (h.at_ j v hv), fun j hj => by rw [World.cell?_of_block (a := ⟨g, 0 + j, none⟩) hbl, World.frozen?_of_block (a := ⟨g, 0 + j, none⟩) hbl]; exact h.there j hj⟩
theorem new (w : World) (c : Array Value) (t : TypeId) : Blk (w.alloc (.cells c t)) w.heap.size c.toList := by
  have hc : ∀ j, (w.alloc (.cells c t)).cell? ⟨w.heap.size, 0 + j, none⟩ = c.toList[j]? := fun j => by
    rw [Nat.zero_add, World.cell?_alloc_mark w c t (0, 0) j]; simp
  refine ⟨by simp, fun j v hv => (hc j).trans hv, fun j hj => ⟨?_, ?_⟩⟩
  · rw [hc j, List.getElem?_eq_getElem hj]; rfl
  · exact (World.frozen?_alloc_mark w _ t 0 0 (0 + j)).trans (by simp)
theorem made (w : World) (cs : List Value) (t : TypeId) : Blk (w.alloc (.cells cs.toArray t)) w.heap.size cs := by
  simpa using new w cs.toArray t
theorem set {w : World} {g : Nat} {cs : List Value} (h : Blk w g cs) (i : Nat) (hi : i < cs.length) (u : Value) : Blk (w.setCell ⟨g, i, none⟩ u) g (cs.set i u) := by
  refine ⟨by simpa [World.setCell] using h.size, fun j v hv => ?_, fun j hj => ?_⟩
  · rw [Nat.zero_add]
    by_cases hij : i = j
    · subst hij
      rw [List.getElem?_set_self hi] at hv
      cases hv
      exact World.cell?_setCell_same' _ _ _ (by rw [h.cell i (List.getElem?_eq_getElem hi)]; rfl)
    · rw [List.getElem?_set_ne hij] at hv
      rw [World.cell?_setCell_other _ _ _ _ (by intro e; injection e with _ e2; exact hij e2)]
      exact h.cell j hv
  · rw [List.length_set] at hj
    rw [Nat.zero_add]
    refine ⟨?_, by rw [World.frozen?_setCell]; exact h.froz j hj⟩
    by_cases hij : i = j
    · subst hij
      rw [World.cell?_setCell_same' _ _ _ (by rw [h.cell i (List.getElem?_eq_getElem hi)]; rfl)]; rfl
    · rw [World.cell?_setCell_other _ _ _ _ (by intro e; injection e with _ e2; exact hij e2), h.cell j (List.getElem?_eq_getElem hj)]; rfl
theorem far {w : World} {g : Nat} {cs : List Value} (h : Blk w g cs) {b : Nat} (hne : g ≠ b) (i : Nat) (u : Value) : Blk (w.setCell ⟨b, i, none⟩ u) g cs := by
  have hbl : (w.setCell ⟨b, i, none⟩ u).heap[g]? = w.heap[g]? := Below.heap_setCell _ _ _ _ hne
  exact ⟨by simpa [World.setCell] using h.size, fun j v hv => (World.cell?_of_block (a := ⟨g, 0 + j, none⟩) hbl).trans (h.at_ j v hv), fun j hj => by rw [World.cell?_of_block (a := ⟨g, 0 + j, none⟩) hbl, World.frozen?_of_block (a := ⟨g, 0 + j, none⟩) hbl]; exact h.there j hj⟩
/-- a part of it -/
theorem part {w : World} {g : Nat} {cs : List Value} (h : Blk w g cs) (o : Nat) (xs : List Value) (hx : (cs.drop o).take xs.length = xs) : w.rangeAt g o xs := fun j v hv => by
  have h2 := h.at_ (o + j) v (by
    have hj := (List.getElem?_eq_some_iff.1 hv).1
    rw [← hx, List.getElem?_take_of_lt hj, List.getElem?_drop] at hv
    exact hv)
  rwa [Nat.zero_add] at h2
theorem partThere {w : World} {g : Nat} {cs : List Value} (h : Blk w g cs) (o n : Nat) (hn : o + n ≤ cs.length) : w.there g o n := fun j hj => by
  have h2 := h.there (o + j) (by omega)
  rwa [Nat.zero_add] at h2
/-- its end is written anew -/
theorem tail {w : World} {g : Nat} {a b : List Value} (h : Blk w g (a ++ b)) (xs : List Value) (hx : xs.length = b.length) : Blk (w.setCells g a.length xs) g (a ++ xs) := by
  refine ⟨by rw [blk_sets]; exact h.size, fun j v hv => ?_, fun j hj => ?_⟩
  · by_cases hj : j < a.length
    · rw [List.getElem?_append_left hj] at hv
      rw [World.cell?_setCells_out g _ _ w _ (fun _ _ => .inl (by show 0 + j < a.length; omega))]
      exact h.at_ j v (by rw [List.getElem?_append_left hj]; exact hv)
    · rw [List.getElem?_append_right (by omega)] at hv
      have h2 := World.rangeAt_setCells_same w g a.length xs (h.partThere _ _ (by rw [List.length_append]; omega)) (j - a.length) v hv
      rwa [show a.length + (j - a.length) = 0 + j by omega] at h2
  · exact World.there_setCells h.there _ _ _ j (by rw [List.length_append] at hj ⊢; omega)
end Blk
end Go.Proofs.YtbgjoefpnjgdkaaDoor
