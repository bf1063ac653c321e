/- power's reader: next, num. -/
import Derived.Test.YtbgjoefpnjgdkaaDoorAboveLib
import Derived.Test.YtbgjoefpnjgdkaaDoorBlk
namespace Go.Proofs.YtbgjoefpnjgdkaaDoor
open Go.RowKit
set_option linter.unusedVariables false
set_option linter.unusedSimpArgs false
set_option maxRecDepth 100000
namespace Above
open Named Oct
/-- a row of texts that lies below block g -/
def Low (w : World) (g : Nat) (v : Value) (ls : List (List UInt8)) : Prop :=
  (∃ p cap, v = .slice p 0 cap ∧ ls = []) ∨ ∃ b o cap, v = .slice (some ⟨b, o, none⟩) ls.length cap ∧ b < g ∧ ls.length ≤ cap ∧ ∀ (j : Nat) (hj : j < ls.length), w.cell? ⟨b, o + j, none⟩ = some (.string ⟨(ls[j]).toArray⟩)
theorem gb_trans {w w1 w2 : World} {g : Nat} (h : w.grownBy w1 (some g)) (h2 : w1.grownBy w2 (some g)) : w.grownBy w2 (some g) :=
  ⟨h2.os.trans h.os, h2.tape.trans h.tape, h2.output.trans h.output, Nat.le_trans h.size h2.size, fun k hk hne => (h2.block k (Nat.lt_of_lt_of_le hk h.size) hne).trans (h.block k hk hne)⟩
theorem gb_below {w w' : World} (g : Nat) (h : Below w.heap.size w w') : w.grownBy w' (some g) := ⟨h.os, h.tape, h.output, h.size, fun k hk _ => h.block k hk⟩
theorem gb_set (w : World) (g i : Nat) (v : Value) : w.grownBy (w.setCell ⟨g, i, none⟩ v) (some g) := ⟨rfl, rfl, rfl, by simp [World.setCell], fun k hk hne => Below.heap_setCell _ _ _ _ (fun e => hne (by rw [e]))⟩
theorem Low.grown {w w' : World} {g : Nat} {v : Value} {ls : List (List UInt8)} (h : Low w g v ls) (hg : g < w.heap.size) (hgb : w.grownBy w' (some g)) : Low w' g v ls := by
  rcases h with h | ⟨b, o, cap, h1, h2, h3, h4⟩
  · exact .inl h
  · exact .inr ⟨b, o, cap, h1, h2, h3, fun j hj => (World.cell?_of_block (a := ⟨b, o + j, none⟩) (hgb.block b (by omega) (fun e => by injection e with e; omega))).trans (h4 j hj)⟩
theorem Low.form {w : World} {g : Nat} {v : Value} {ls : List (List UInt8)} (h : Low w g v ls) : ∃ p cap, v = .slice p ls.length cap := by
  rcases h with ⟨p, cap, rfl, rfl⟩ | ⟨b, o, cap, rfl, -⟩
  · exact ⟨_, _, rfl⟩
  · exact ⟨_, _, rfl⟩
/-- the reader's box: what is left, and whether something was wrong -/
structure Rdr (w : World) (g : Nat) (ls : List (List UInt8)) (bad : Bool) (v : Value) : Prop where
  box : Blk w g [v, .bool bad]
  row : Low w g v ls
  short : ∀ l ∈ ls, l.length ≤ 1048576

theorem Rdr.low {w w' : World} {g : Nat} {ls : List (List UInt8)} {bad : Bool} {v : Value} (h : Rdr w g ls bad v) (hb : Below w.heap.size w w') : Rdr w' g ls bad v :=
  ⟨h.box.low hb, h.row.grown h.box.size (gb_below g hb), h.short⟩

set_option maxHeartbeats 1000000 in
theorem next_nil (g : Nat) (p : Option Addr) (cap : Nat) (bad : Bool) (w : World) (h : Blk w g [.slice p 0 cap, .bool bad]) :
    Calls Tryd.prog 75 #[.pointer (some ⟨g, 0, none⟩)] w fun e w' => e = .returned (.string ⟨#[]⟩) ∧ w' = w.setCell ⟨g, 1, none⟩ (.bool true) := by
  have c0 := h.cell 0 rfl
  have c1 := h.cell 1 rfl
  have f1 := h.froz 1 (by simp)
  go_enter Tryd.func75, Tryd.ntmps75
  go_wp2_with fail
  go_ret
  exact ⟨rfl, rfl⟩

set_option maxHeartbeats 1000000 in
theorem next_cons (g b o n cap : Nat) (l : List UInt8) (bad : Bool) (w : World) (h : Blk w g [.slice (some ⟨b, o, none⟩) (n + 1) cap, .bool bad]) (hc : n + 1 ≤ cap) (hn : n ≤ 1048577) (hl : w.cell? ⟨b, o, none⟩ = some (.string ⟨l.toArray⟩)) :
    Calls Tryd.prog 75 #[.pointer (some ⟨g, 0, none⟩)] w fun e w' => e = .returned (.string ⟨l.toArray⟩) ∧ ∃ p, (0 < n → p = some ⟨b, o + 1, none⟩) ∧ w' = w.setCell ⟨g, 0, none⟩ (.slice p n (cap - 1)) := by
  have c0 := h.cell 0 rfl
  have f0 := h.froz 0 (by simp)
  have hni : (n : Int) ≤ 1048577 := by omega
  have hci : (n : Int) + 1 ≤ (cap : Int) := by omega
  go_enter Tryd.func75, Tryd.ntmps75
  go_wp2_with fail
  · go_ret
    exact ⟨rfl, some ⟨b, o, none⟩, fun hh => absurd hh (by omega), by first | rfl | simp⟩
  · go_ret
    exact ⟨rfl, some ⟨b, o + 1, none⟩, fun _ => rfl, by first | rfl | simp⟩

theorem next_any (g : Nat) (ls : List (List UInt8)) (bad : Bool) (v : Value) (w : World) (h : Rdr w g ls bad v) (hl : ls.length ≤ 1048577) :
    Calls Tryd.prog 75 #[.pointer (some ⟨g, 0, none⟩)] w fun e w' => ∃ (s : List UInt8) (bad' : Bool) (v' : Value), e = .returned (.string ⟨s.toArray⟩) ∧ s.length ≤ 1048576 ∧ Rdr w' g ls.tail bad' v' ∧ w.grownBy w' (some g) := by
  cases ls with
  | nil =>
    obtain ⟨p, cap, rfl⟩ := h.row.form
    refine (next_nil g p cap bad w h.box).mono ?_
    rintro e w' ⟨rfl, rfl⟩
    refine ⟨[], true, _, rfl, Nat.zero_le _, ⟨h.box.set 1 (by simp) (.bool true), .inl ⟨_, _, rfl, rfl⟩, fun l hl => by cases hl⟩, gb_set _ _ _ _⟩
  | cons l r =>
    rcases h.row with ⟨_, _, _, h0⟩ | ⟨b, o, cap, rfl, hb, hc, hcl⟩
    · cases h0
    · have h0 := hcl 0 (by simp)
      refine (next_cons g b o r.length cap l bad w h.box hc (by simp at hl; omega) h0).mono ?_
      rintro e w' ⟨rfl, p, hp, rfl⟩
      have hg := gb_set w g 0 (.slice p r.length (cap - 1))
      refine ⟨l, bad, _, rfl, h.short l (by simp), ⟨h.box.set 0 (by simp) _, ?_, fun x hx => h.short x (List.mem_cons_of_mem _ hx)⟩, hg⟩
      by_cases hr : 0 < r.length
      · refine .inr ⟨b, o + 1, cap - 1, by rw [hp hr]; rfl, hb, by simp at hc ⊢; omega, fun j hj => ?_⟩
        have h2 := hcl (j + 1) (by simpa using hj)
        rw [show o + 1 + j = o + (j + 1) by omega]
        refine (World.cell?_of_block (a := ⟨b, o + (j + 1), none⟩) (hg.block b (by have := h.box.size; omega) (fun e => by injection e with e; omega))).trans ?_
        simpa using h2
      · obtain rfl : r = [] := List.length_eq_zero_iff.1 (by omega)
        exact .inl ⟨p, cap - 1, rfl, rfl⟩
end Above
end Go.Proofs.YtbgjoefpnjgdkaaDoor
