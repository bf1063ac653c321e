/- Joined of 2 texts: their lemmas, one behind the other; each says below what it holds. -/
import Derived.Test.YtbgjoefpnjgdkaaDoorJ09
import Derived.Deep.DeepMust
import Derived.BigQuiet
import Derived.Deep.QuietTactic
import Derived.WalkLawsBesides
import Derived.RangeFuncNested
import Derived.RangeFuncBound
import Derived.RangeFuncCalls
import Derived.RangeFuncLeaves
import Derived.Shelf.Abstract
import Derived.Shelf.RegionOpen
import Derived.OwnWalkIn
import Derived.TacticsInMore
import Derived.LoopNIn
import Derived.LoopIn
/- The walks of the document's GetList and All, and of Same. -/
namespace Go.Proofs.YtbgjoefpnjgdkaaDoor
open Go.RowKit
set_option linter.unusedVariables false
set_option linter.unusedSimpArgs false
set_option maxRecDepth 4000
theorem info_str : (Tryd.prog.info? 9).map (fun i => (i.zero, i.size, i.bytes)) = some (some (.string ⟨#[]⟩), 1, 16) := by kernel_rfl

/-- a row of one's own lies where nothing below the heap's end turns -/
theorem own_kept {B : Nat} {e : TypeId} {k : Nat} {v : Value} {n : Nat} {xs : List Value} {w w' : World} (h : w.ownsRow B e k v n xs) (hb : Below w.heap.size w w') : w'.ownsRow B e k v n xs :=
  h.kept (row := none) ⟨hb.os, hb.tape, hb.output, hb.size, fun j hj _ => hb.block j hj⟩ (by cases hv : v.ownBlock <;> simp)

/-- strings as cells -/
def strsV (ls : List (List UInt8)) : List Value := ls.map fun t => .string ⟨t.toArray⟩
theorem strsV_length (l : List (List UInt8)) : (strsV l).length = l.length := by simp [strsV]
theorem strsV_append (l m : List (List UInt8)) : strsV (l ++ m) = strsV l ++ strsV m := by simp [strsV]

/-- v owns these strings, in blocks from base on -/
def OwnS (base : Nat) (w : World) (v : Value) (l : List (List UInt8)) : Prop := w.ownsRow base 9 1 v l.length (strsV l)

theorem OwnS.nil (base : Nat) (w : World) : OwnS base w (.slice none 0 0) [] := World.ownsRow_nil w base _ 1

theorem OwnS.row {base : Nat} {w : World} {v : Value} {l : List (List UInt8)} (h : OwnS base w v l) : Oct.StrRow w v l := by
  have h0 := h
  rcases h.2 with ⟨rfl, hl⟩ | ⟨g, cap, cur, rfl, hg, hh, hn, hc, hs, ht⟩
  · exact .inl ⟨_, _, rfl, List.length_eq_zero_iff.1 hl⟩
  · refine .inr ⟨g, 0, cap, rfl, (h0.lt g rfl).2, fun j hj => ?_⟩
    have := h0.cells (g := g) rfl j (.string ⟨(l[j]).toArray⟩) (by simp [strsV, hj])
    rw [Addr.add_lit] at this
    exact this

namespace Oct

def gts : Nat → Nat → List UInt8 → List (List UInt8) → List (List UInt8) × Nat × Nat
  | 0, at_, _, acc => (acc, at_, 0)
  | n + 1, at_, l, acc => if (getText (l.drop at_)).2.2 ≠ 0 then ([], 0, (getText (l.drop at_)).2.2) else gts n (at_ + (getText (l.drop at_)).2.1) l (acc ++ [(getText (l.drop at_)).1])

/-- the texts that bytes begin with: the texts, how many bytes, and why not -/
def getList (l : List UInt8) : List (List UInt8) × Nat × Nat :=
  if (getNum l).2.2 ≠ 0 then ([], 0, (getNum l).2.2)
  else if 256 < (getNum l).1 then ([], 0, 7)
  else gts (getNum l).1 (getNum l).2.1 l []

theorem getText_spec (l : List UInt8) : ∃ t u e, getText l = (t, u, e) ∧ (e = 0 → u ≤ l.length ∧ t.length ≤ 8192 ∧ 0 < u ∧ u ≤ 8199) ∧ (e ≠ 0 → u = 0 ∧ t = []) ∧ e ≤ 7 := by
  obtain ⟨n, u, e, hg, h0, h1⟩ := getNum_spec l
  rw [getText, hg]
  by_cases he : e = 0
  · subst he
    have := h0 rfl
    rw [if_neg (by simp)]
    split
    · exact ⟨[], 0, 7, rfl, by simp, by simp, by omega⟩
    · rename_i h8
      split
      · exact ⟨[], 0, 5, rfl, by simp, by simp, by omega⟩
      · rename_i h9
        dsimp only at h8 h9
        refine ⟨(l.drop u).take n, u + n, 0, rfl, fun _ => ⟨by omega, ?_, by omega, by omega⟩, by simp, by omega⟩
        rw [List.length_take]; exact Nat.le_trans (Nat.min_le_left _ _) (by omega)
  · have := h1 he
    rw [if_pos he]
    exact ⟨[], 0, e, rfl, by simp [he], by simp, by omega⟩

theorem ext_drop (l : List UInt8) (n : Nat) : (⟨l.toArray⟩ : ByteArray).extract n l.length = ⟨(l.drop n).toArray⟩ := by
  refine ByteArray.ext ?_
  rw [← Array.toList_inj]
  simp
  exact List.take_of_length_le (by simp)

theorem gts_spec (n : Nat) : ∀ (at_ : Nat) (l : List UInt8) (acc : List (List UInt8)), at_ ≤ l.length → ((gts n at_ l acc).2.2 = 0 → (gts n at_ l acc).2.1 ≤ l.length) ∧ ((gts n at_ l acc).2.2 ≠ 0 → (gts n at_ l acc).1 = [] ∧ (gts n at_ l acc).2.1 = 0) ∧ (gts n at_ l acc).2.2 ≤ 7 := by
  induction n with
  | zero => intro at_ l acc h; simp [gts, h]
  | succ n ih =>
    intro at_ l acc h
    obtain ⟨t, u, e, hg, h0, h1, h2⟩ := getText_spec (l.drop at_)
    rw [gts, hg]
    by_cases he : e = 0
    · subst he
      have h3 := (h0 rfl).1
      rw [List.length_drop] at h3
      rw [if_neg (by simp)]
      exact ih _ _ _ (by dsimp only; omega)
    · rw [if_pos he]
      simp [he, h2]

theorem gts_length (n : Nat) : ∀ (at_ : Nat) (l : List UInt8) (acc : List (List UInt8)), (gts n at_ l acc).1.length ≤ acc.length + n := by
  induction n with
  | zero => intro at_ l acc; simp [gts]
  | succ n ih =>
    intro at_ l acc
    rw [gts]
    split
    · simp
    · refine Nat.le_trans (ih _ _ _) ?_
      simp; omega

theorem getList_length (l : List UInt8) : (getList l).1.length ≤ 256 := by
  rw [getList]
  split
  · simp
  · split
    · simp
    · refine Nat.le_trans (gts_length _ _ _ _) ?_
      simp; omega

theorem getList_spec (l : List UInt8) : ∃ ls u e, getList l = (ls, u, e) ∧ (e = 0 → u ≤ l.length) ∧ (e ≠ 0 → ls = [] ∧ u = 0) ∧ e ≤ 7 := by
  refine ⟨(getList l).1, (getList l).2.1, (getList l).2.2, rfl, ?_⟩
  obtain ⟨n, u, e, hg, h0, h1⟩ := getNum_spec l
  rw [getList, hg]
  by_cases he : e = 0
  · subst he
    rw [if_neg (by simp)]
    split
    · simp
    · exact gts_spec _ _ _ _ (h0 rfl).2.2.2
  · have := h1 he
    rw [if_pos he]
    simp [he]
    omega

/-- the texts of a list that is all there is -/
def allR (l : List UInt8) : List (List UInt8) × Nat :=
  if (getList l).2.2 ≠ 0 then ([], (getList l).2.2) else if (getList l).2.1 < l.length then ([], 6) else ((getList l).1, 0)

theorem allR_length (l : List UInt8) : (allR l).1.length ≤ 256 := by
  rw [allR]
  split
  · simp
  · split
    · simp
    · exact getList_length l

theorem StrRow.form {w : World} {v : Value} {ls : List (List UInt8)} (h : StrRow w v ls) : ∃ p cap, v = .slice p ls.length cap := by
  rcases h with ⟨p, cap, rfl, rfl⟩ | ⟨b, o, cap, rfl, -, -⟩
  · exact ⟨_, _, rfl⟩
  · exact ⟨_, _, rfl⟩

end Oct
end Go.Proofs.YtbgjoefpnjgdkaaDoor
/- The iterator behind octet.texts: its contract. -/
namespace Go.Proofs.YtbgjoefpnjgdkaaDoor
open Go.RowKit Go.Shelf
set_option linter.unusedVariables false
set_option linter.unusedSimpArgs false
set_option maxRecDepth 100000
attribute [local go_sem] Oper.semAt_some
namespace Oct

/-- one reading: the text, how far, and why no farther -/
abbrev Rd := List UInt8 × Nat × Nat
abbrev encRd (x : Rd) : Array Value := #[.string ⟨x.1.toArray⟩, .agg #[.int .i64 (x.2.1 : Int), .int .i64 (x.2.2 : Int)]]

/-- the readings that the iterator hands over -/
def items : Nat → Nat → List UInt8 → List Rd
  | 0, _, _ => []
  | n + 1, at_, l => if (getText (l.drop at_)).2.2 ≠ 0 then [((getText (l.drop at_)).1, at_ + (getText (l.drop at_)).2.1, (getText (l.drop at_)).2.2)]
    else ((getText (l.drop at_)).1, at_ + (getText (l.drop at_)).2.1, (getText (l.drop at_)).2.2) :: items n (at_ + (getText (l.drop at_)).2.1) l

set_option maxHeartbeats 1000000 in
theorem texts_in (F : Fence) (n : Nat) (hF : F.fn 90) (hro : F.round = none) (l : List UInt8) (k : Nat) (w : World) :
    CallsIn F n Tryd.prog 90 #[.string ⟨l.toArray⟩, .int .u64 (k : Int)] w fun e w' => e = .returned (.func (.func 130) #[] #[.pointer (some ⟨w.heap.size + 1, 0, none⟩), .pointer (some ⟨w.heap.size, 0, none⟩)]) ∧ w' = (w.alloc (.cells #[.string ⟨l.toArray⟩] 9)).alloc (.cells #[.int .u64 (k : Int)] 95) := by
  refine callsIn_of_wp Tryd.func90 rfl hF ?_ hro
  simp only [Tryd.ntmps90, List.size_toArray, List.length_cons, List.length_nil, Nat.reduceAdd, Nat.reduceSub, Array.replicate_succ, Array.replicate_zero, List.push_toArray, List.append_toArray, List.nil_append, List.cons_append]
  gi_wp2
  go_ret
  exact ⟨rfl, rfl⟩

set_option maxHeartbeats 1000000 in
theorem texts1_in (n : Nat) (hn : 3 ≤ n) (lp Bn : Nat) (l : List UInt8) (hl : l.length ≤ maxLen) (k : Nat) (hk256 : k ≤ 256) (J Jx : List Rd → World → Prop)
    (hY : ∀ pre x W, J pre W → pre.length < (items k 0 l).length → YieldAt Fence.wide (n - 1) Tryd.prog lp (encRd x) W fun e W' =>
      (e = .returned (.bool true) ∧ J (pre ++ [x]) W' ∧ W'.cell? ⟨Bn, 0, none⟩ = W.cell? ⟨Bn, 0, none⟩) ∨ (e = .returned (.bool false) ∧ Jx (pre ++ [x]) W'))
    (W : World) (hBn : W.cell? ⟨Bn, 0, none⟩ = some (.string ⟨l.toArray⟩)) (hBk : W.cell? ⟨Bn + 1, 0, none⟩ = some (.int .u64 (k : Int))) (h0 : J [] W) :
    CallsIn Fence.wide n Tryd.prog 130 #[.func (.yield lp) #[] #[], .pointer (some ⟨Bn + 1, 0, none⟩), .pointer (some ⟨Bn, 0, none⟩)] W fun e W' => (∃ v, e = .returned v) ∧
      ((∃ ys, ys = items k 0 l ∧ J ys W') ∨ (∃ pre, pre <+: items k 0 l ∧ Jx pre W')) := by
  refine callsIn_of_wp Tryd.func130 rfl trivial ?_ rfl
  simp only [Tryd.ntmps130, List.size_toArray, List.length_cons, List.length_nil, Nat.reduceAdd, Nat.reduceSub, Array.replicate_succ, Array.replicate_zero, List.push_toArray, List.append_toArray, List.nil_append, List.cons_append]
  gi_wp2
  gi_loopw [4, 9] (fun a i wr => ∃ (j at_ : Nat) (pre : List Rd), j ≤ k ∧ at_ ≤ l.length ∧ at_ ≤ 8199 * j ∧ a = .int .i64 (at_ : Int) ∧ i = .int .u64 (j : Int) ∧ Hid (pre ++ items (k - j) at_ l = items k 0 l) ∧ wr.cell? ⟨Bn, 0, none⟩ = some (.string ⟨l.toArray⟩) ∧ J pre wr)
    (fun _ i _ => k - (intOf i).toNat)
  case atStart =>
    exact ⟨0, 0, [], by omega, by omega, by omega, rfl, rfl, Lib.hid rfl, hBn, h0⟩
  case round =>
    obtain ⟨j, at_, pre, hj, hat, haj, rfl, rfl, HG, hB, hJ⟩ := hrel
    by_cases hjk : j < k
    · have hjki : (j : Int) < (k : Int) := by omega
      have hati : (at_ : Int) ≤ (l.length : Int) := by omega
      obtain ⟨t, u2, e2, hgt, h3, h4, h5⟩ := getText_spec (l.drop at_)
      have hx := ext_drop l at_
      have HG2 : Hid (pre ++ (if e2 ≠ 0 then [(t, at_ + u2, e2)] else (t, at_ + u2, e2) :: items (k - (j + 1)) (at_ + u2) l) = items k 0 l) := by
        have h := HG.out
        rw [show k - j = (k - (j + 1)) + 1 by omega, items, hgt] at h
        exact Lib.hid h
      have hct := fun w => getText_any (l.drop at_) (by rw [List.length_drop]; omega) w
      rw [hgt] at hct
      have HC := Lib.hid hct
      have H3 := Lib.hid h3
      have H4 := Lib.hid h4
      have hu2m : u2 ≤ 8199 := by
        by_cases he : e2 = 0
        · exact (h3 he).2.2.2
        · rw [(h4 he).1]; omega
      have hlen : pre.length < (items k 0 l).length := by
        rw [← HG2.out]
        split <;> simp
      obtain ⟨fn, tmps, assign, body, hy, hR⟩ := hY pre (t, at_ + u2, e2) wr hJ hlen
      have hsm : (at_ : Int) + (u2 : Int) ≤ 3000000 := by omega
      clear hct hgt h3 h4
      dsimp only [encRd] at hy
      rw [show ((at_ + u2 : Nat) : Int) = (at_ : Int) + (u2 : Int) by omega] at hy
      gi_wp2_with fail
      refine ⟨trivial, fun _ => by omega, (callsIn_wide.2 (HC.out _)).mono ?_⟩
      rintro e w2 ⟨rfl, rfl⟩
      gi_wp2
      refine ⟨fun _ => by omega, hR.mono ?_⟩
      rintro e W3 (⟨rfl, hJ3, hk3⟩ | ⟨rfl, hJx3⟩)
      · have hB3 : W3.cell? ⟨Bn, 0, none⟩ = some (.string ⟨l.toArray⟩) := hk3.trans hB
        have hg2 := HG2.out
        by_cases he2 : e2 = 0
        · subst he2
          rw [if_neg (by simp)] at hg2
          have HG3 := Lib.hid hg2
          obtain ⟨hu2, -, -, -⟩ := H3.out rfl
          rw [List.length_drop] at hu2
          clear hg2 HG2 HG
          gi_wp2
          go_roundw
          case rel => exact ⟨j + 1, at_ + u2, pre ++ [(t, at_ + u2, 0)], by omega, by omega, by omega, by go_num, by go_num, Lib.hid (by rw [← HG3.out]; simp), hB3, hJ3⟩
          case measure => simp [intOf]; omega
        · rw [if_pos he2] at hg2
          have HG3 := Lib.hid hg2
          clear hg2 HG2 HG
          have hei : ¬ (e2 : Int) = 0 := by omega
          gi_wp2
          refine bodyPost_ret (results_none rfl _ _ _) rfl ?_
          exact ⟨⟨_, rfl⟩, .inl ⟨_, HG3.out, hJ3⟩⟩
      · gi_wp2
        refine bodyPost_ret (results_none rfl _ _ _) rfl ?_
        refine ⟨⟨_, rfl⟩, .inr ⟨_, ?_, hJx3⟩⟩
        have hg2 := HG2.out
        rw [← hg2]
        split
        · exact List.prefix_refl _
        · exact ⟨items (k - (j + 1)) (at_ + u2) l, by simp⟩
    · have hjk' : j = k := by omega
      subst hjk'
      have hg := HG.out
      rw [Nat.sub_self, items, List.append_nil] at hg
      have HG2 := Lib.hid hg
      clear hg HG
      gi_wp2
      go_end0
      exact ⟨⟨_, rfl⟩, .inl ⟨pre, HG2.out, hJ⟩⟩

theorem texts_stops (n : Nat) (hn : 3 ≤ n) (Bn : Nat) (l : List UInt8) (hl : l.length ≤ maxLen) (k : Nat) (hk : k ≤ 256) (w : World) (hB : Bn + 1 < w.heap.size) (hc1 : w.cell? ⟨Bn, 0, none⟩ = some (.string ⟨l.toArray⟩)) (hc2 : w.cell? ⟨Bn + 1, 0, none⟩ = some (.int .u64 (k : Int))) :
    SeqStopsK Fence.wide n Tryd.prog 130 #[.pointer (some ⟨Bn + 1, 0, none⟩), .pointer (some ⟨Bn, 0, none⟩)] encRd (fun A B => B.cell? ⟨Bn, 0, none⟩ = A.cell? ⟨Bn, 0, none⟩) (fun ys => ys = items k 0 l) (fun pre => pre <+: items k 0 l) (items k 0 l).length w := fun lp J Jx W hW _ _ hY h0 =>
  texts1_in n hn lp Bn l hl k hk J Jx hY W ((hW.cell (p := ⟨Bn, 0, none⟩) (by simp; omega)).trans hc1) ((hW.cell (p := ⟨Bn + 1, 0, none⟩) hB).trans hc2) h0

/-- how far the last reading came -/
def lastAt (at_ : Nat) : List Rd → Nat
  | [] => at_
  | x :: xs => lastAt x.2.1 xs
theorem lastAt_append (xs : List Rd) : ∀ (at_ : Nat) (x : Rd), lastAt at_ (xs ++ [x]) = x.2.1 := by
  induction xs with
  | nil => intro at_ x; rfl
  | cons y ys ih => intro at_ x; exact ih _ _

theorem gts_ok (u : Nat) (l : List UInt8) (n : Nat) : ∀ (at_ : Nat) (acc : List (List UInt8)), (∀ x ∈ items n at_ (l.drop u), x.2.2 = 0) → gts n (u + at_) l acc = (acc ++ (items n at_ (l.drop u)).map (·.1), u + lastAt at_ (items n at_ (l.drop u)), 0) := by
  induction n with
  | zero => intro at_ acc _; simp [gts, items, lastAt]
  | succ n ih =>
    intro at_ acc h
    rw [items, List.drop_drop] at h ⊢
    rw [gts]
    by_cases he : (getText (l.drop (u + at_))).2.2 = 0
    · rw [if_neg (by simpa using he)] at h ⊢
      rw [if_neg (by simpa using he), Nat.add_assoc, ih _ _ (fun x hx => h x (List.mem_cons_of_mem _ hx))]
      simp [lastAt]
    · rw [if_pos (by simpa using he)] at h
      exact absurd (h _ (List.mem_singleton_self _)) he

theorem gts_bad (u : Nat) (l : List UInt8) (n : Nat) : ∀ (at_ : Nat) (acc : List (List UInt8)) (pre : List Rd) (x : Rd), pre ++ [x] <+: items n at_ (l.drop u) → (∀ y ∈ pre, y.2.2 = 0) → x.2.2 ≠ 0 → gts n (u + at_) l acc = ([], 0, x.2.2) := by
  induction n with
  | zero => intro at_ acc pre x hp _ _; rw [items, List.prefix_nil] at hp; simp at hp
  | succ n ih =>
    intro at_ acc pre x hp hy hx
    rw [items, List.drop_drop] at hp
    rw [gts]
    by_cases he : (getText (l.drop (u + at_))).2.2 = 0
    · rw [if_neg (by simpa using he)] at hp
      rw [if_neg (by simpa using he)]
      cases pre with
      | nil =>
        rw [List.nil_append, List.cons_prefix_cons] at hp
        rw [hp.1] at hx
        exact absurd he hx
      | cons y ys =>
        rw [List.cons_append, List.cons_prefix_cons] at hp
        rw [Nat.add_assoc]
        exact ih _ _ ys x hp.2 (fun z hz => hy z (List.mem_cons_of_mem _ hz)) hx
    · rw [if_pos (by simpa using he)] at hp ⊢
      cases pre with
      | nil =>
        rw [List.nil_append, List.cons_prefix_cons] at hp
        rw [hp.1]
      | cons y ys =>
        have := hp.length_le
        simp at this
end Oct
end Go.Proofs.YtbgjoefpnjgdkaaDoor
