/- The walks of the document's GetList and All, and of Same. -/
import Derived.Test.YtbgjoefpnjgdkaaDoorOctList
import Derived.Deep.DeepMust
import Derived.BigQuiet
import Derived.Deep.QuietTactic
import Derived.WalkLawsBesides
namespace Go.Proofs.YtbgjoefpnjgdkaaDoor
open Go.RowKit
set_option linter.unusedVariables false
set_option linter.unusedSimpArgs false
set_option maxRecDepth 4000
theorem info_str : (Tryd.prog.info? 9).map (fun i => (i.zero, i.size, i.bytes)) = some (some (.string ⟨#[]⟩), 1, 16) := by kernel_rfl

/-- a row of one's own lies where nothing below the heap's end turns -/
theorem own_kept {B : Nat} {e : TypeId} {k : Nat} {v : Value} {n : Nat} {xs : List Value} {w w' : World} (h : w.ownsRow B e k v n xs) (hb : Below w.heap.size w w') : w'.ownsRow B e k v n xs :=
  h.kept (row := none) ⟨hb.os, hb.tape, hb.output, hb.size, fun j hj _ => hb.block j hj⟩ (by cases hv : v.ownBlock <;> simp)

/-- strings as cells -/
def strsV (ls : List (List UInt8)) : List Value := ls.map fun t => .string ⟨t.toArray⟩
theorem strsV_length (l : List (List UInt8)) : (strsV l).length = l.length := by simp [strsV]
theorem strsV_append (l m : List (List UInt8)) : strsV (l ++ m) = strsV l ++ strsV m := by simp [strsV]

/-- v owns these strings, in blocks from base on -/
def OwnS (base : Nat) (w : World) (v : Value) (l : List (List UInt8)) : Prop := w.ownsRow base 9 1 v l.length (strsV l)

theorem OwnS.nil (base : Nat) (w : World) : OwnS base w (.slice none 0 0) [] := World.ownsRow_nil w base _ 1

theorem OwnS.row {base : Nat} {w : World} {v : Value} {l : List (List UInt8)} (h : OwnS base w v l) : Oct.StrRow w v l := by
  have h0 := h
  rcases h.2 with ⟨rfl, hl⟩ | ⟨g, cap, cur, rfl, hg, hh, hn, hc, hs, ht⟩
  · exact .inl ⟨_, _, rfl, List.length_eq_zero_iff.1 hl⟩
  · refine .inr ⟨g, 0, cap, rfl, (h0.lt g rfl).2, fun j hj => ?_⟩
    have := h0.cells (g := g) rfl j (.string ⟨(l[j]).toArray⟩) (by simp [strsV, hj])
    rw [Addr.add_lit] at this
    exact this

namespace Oct

def gts : Nat → Nat → List UInt8 → List (List UInt8) → List (List UInt8) × Nat × Nat
  | 0, at_, _, acc => (acc, at_, 0)
  | n + 1, at_, l, acc => if (getText (l.drop at_)).2.2 ≠ 0 then ([], 0, (getText (l.drop at_)).2.2) else gts n (at_ + (getText (l.drop at_)).2.1) l (acc ++ [(getText (l.drop at_)).1])

/-- the texts that bytes begin with: the texts, how many bytes, and why not -/
def getList (l : List UInt8) : List (List UInt8) × Nat × Nat :=
  if (getNum l).2.2 ≠ 0 then ([], 0, (getNum l).2.2)
  else if 256 < (getNum l).1 then ([], 0, 7)
  else gts (getNum l).1 (getNum l).2.1 l []

theorem getText_spec (l : List UInt8) : ∃ t u e, getText l = (t, u, e) ∧ (e = 0 → u ≤ l.length ∧ t.length ≤ 8192 ∧ 0 < u ∧ u ≤ 8199) ∧ (e ≠ 0 → u = 0 ∧ t = []) ∧ e ≤ 7 := by
  obtain ⟨n, u, e, hg, h0, h1⟩ := getNum_spec l
  rw [getText, hg]
  by_cases he : e = 0
  · subst he
    have := h0 rfl
    rw [if_neg (by simp)]
    split
    · exact ⟨[], 0, 7, rfl, by simp, by simp, by omega⟩
    · rename_i h8
      split
      · exact ⟨[], 0, 5, rfl, by simp, by simp, by omega⟩
      · rename_i h9
        dsimp only at h8 h9
        refine ⟨(l.drop u).take n, u + n, 0, rfl, fun _ => ⟨by omega, ?_, by omega, by omega⟩, by simp, by omega⟩
        rw [List.length_take]; exact Nat.le_trans (Nat.min_le_left _ _) (by omega)
  · have := h1 he
    rw [if_pos he]
    exact ⟨[], 0, e, rfl, by simp [he], by simp, by omega⟩

theorem ext_drop (l : List UInt8) (n : Nat) : (⟨l.toArray⟩ : ByteArray).extract n l.length = ⟨(l.drop n).toArray⟩ := by
  refine ByteArray.ext ?_
  rw [← Array.toList_inj]
  simp
  exact List.take_of_length_le (by simp)

theorem gts_spec (n : Nat) : ∀ (at_ : Nat) (l : List UInt8) (acc : List (List UInt8)), at_ ≤ l.length → ((gts n at_ l acc).2.2 = 0 → (gts n at_ l acc).2.1 ≤ l.length) ∧ ((gts n at_ l acc).2.2 ≠ 0 → (gts n at_ l acc).1 = [] ∧ (gts n at_ l acc).2.1 = 0) ∧ (gts n at_ l acc).2.2 ≤ 7 := by
  induction n with
  | zero => intro at_ l acc h; simp [gts, h]
  | succ n ih =>
    intro at_ l acc h
    obtain ⟨t, u, e, hg, h0, h1, h2⟩ := getText_spec (l.drop at_)
    rw [gts, hg]
    by_cases he : e = 0
    · subst he
      have h3 := (h0 rfl).1
      rw [List.length_drop] at h3
      rw [if_neg (by simp)]
      exact ih _ _ _ (by dsimp only; omega)
    · rw [if_pos he]
      simp [he, h2]

theorem gts_length (n : Nat) : ∀ (at_ : Nat) (l : List UInt8) (acc : List (List UInt8)), (gts n at_ l acc).1.length ≤ acc.length + n := by
  induction n with
  | zero => intro at_ l acc; simp [gts]
  | succ n ih =>
    intro at_ l acc
    rw [gts]
    split
    · simp
    · refine Nat.le_trans (ih _ _ _) ?_
      simp; omega

theorem getList_length (l : List UInt8) : (getList l).1.length ≤ 256 := by
  rw [getList]
  split
  · simp
  · split
    · simp
    · refine Nat.le_trans (gts_length _ _ _ _) ?_
      simp; omega

theorem getList_spec (l : List UInt8) : ∃ ls u e, getList l = (ls, u, e) ∧ (e = 0 → u ≤ l.length) ∧ (e ≠ 0 → ls = [] ∧ u = 0) ∧ e ≤ 7 := by
  refine ⟨(getList l).1, (getList l).2.1, (getList l).2.2, rfl, ?_⟩
  obtain ⟨n, u, e, hg, h0, h1⟩ := getNum_spec l
  rw [getList, hg]
  by_cases he : e = 0
  · subst he
    rw [if_neg (by simp)]
    split
    · simp
    · exact gts_spec _ _ _ _ (h0 rfl).2.2.2
  · have := h1 he
    rw [if_pos he]
    simp [he]
    omega

/-- the texts of a list that is all there is -/
def allR (l : List UInt8) : List (List UInt8) × Nat :=
  if (getList l).2.2 ≠ 0 then ([], (getList l).2.2) else if (getList l).2.1 < l.length then ([], 6) else ((getList l).1, 0)

theorem allR_length (l : List UInt8) : (allR l).1.length ≤ 256 := by
  rw [allR]
  split
  · simp
  · split
    · simp
    · exact getList_length l

theorem StrRow.form {w : World} {v : Value} {ls : List (List UInt8)} (h : StrRow w v ls) : ∃ p cap, v = .slice p ls.length cap := by
  rcases h with ⟨p, cap, rfl, rfl⟩ | ⟨b, o, cap, rfl, -, -⟩
  · exact ⟨_, _, rfl⟩
  · exact ⟨_, _, rfl⟩

end Oct
end Go.Proofs.YtbgjoefpnjgdkaaDoor
