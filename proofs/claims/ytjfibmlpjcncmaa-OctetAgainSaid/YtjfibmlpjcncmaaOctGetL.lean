/- The walks of the document's GetList and All, and of Same. -/
import Derived.Test.YtjfibmlpjcncmaaOctList
import Derived.Deep.DeepMust
import Derived.BigQuiet
import Derived.Deep.QuietTactic
import Derived.WalkLawsBesides
namespace Go.Proofs.Ytjfibmlpjcncmaa
open Go.RowKit
set_option linter.unusedVariables false
set_option linter.unusedSimpArgs false
set_option maxRecDepth 4000
theorem info_str : (Try.prog.info? 9).map (fun i => (i.zero, i.size, i.bytes)) = some (some (.string ⟨#[]⟩), 1, 16) := by kernel_rfl

/-- a row of one's own lies where nothing below the heap's end turns -/
theorem own_kept {B : Nat} {e : TypeId} {k : Nat} {v : Value} {n : Nat} {xs : List Value} {w w' : World} (h : w.ownsRow B e k v n xs) (hb : Below w.heap.size w w') : w'.ownsRow B e k v n xs :=
  h.kept (row := none) ⟨hb.os, hb.tape, hb.output, hb.size, fun j hj _ => hb.block j hj⟩ (by cases hv : v.ownBlock <;> simp)

/-- strings as cells -/
def strsV (ls : List (List UInt8)) : List Value := ls.map fun t => .string ⟨t.toArray⟩
theorem strsV_length (l : List (List UInt8)) : (strsV l).length = l.length := by simp [strsV]
theorem strsV_append (l m : List (List UInt8)) : strsV (l ++ m) = strsV l ++ strsV m := by simp [strsV]

/-- v owns these strings, in blocks from base on -/
def OwnS (base : Nat) (w : World) (v : Value) (l : List (List UInt8)) : Prop := w.ownsRow base 9 1 v l.length (strsV l)

theorem OwnS.nil (base : Nat) (w : World) : OwnS base w (.slice none 0 0) [] := World.ownsRow_nil w base _ 1

theorem OwnS.row {base : Nat} {w : World} {v : Value} {l : List (List UInt8)} (h : OwnS base w v l) : Oct.StrRow w v l := by
  have h0 := h
  rcases h.2 with ⟨rfl, hl⟩ | ⟨g, cap, cur, rfl, hg, hh, hn, hc, hs, ht⟩
  · exact .inl ⟨_, _, rfl, List.length_eq_zero_iff.1 hl⟩
  · refine .inr ⟨g, 0, cap, rfl, (h0.lt g rfl).2, fun j hj => ?_⟩
    have := h0.cells (g := g) rfl j (.string ⟨(l[j]).toArray⟩) (by simp [strsV, hj])
    rw [Addr.add_lit] at this
    exact this

namespace Oct

def gts : Nat → Nat → List UInt8 → List (List UInt8) → List (List UInt8) × Nat × Nat
  | 0, at_, _, acc => (acc, at_, 0)
  | n + 1, at_, l, acc => if (getText (l.drop at_)).2.2 ≠ 0 then ([], 0, (getText (l.drop at_)).2.2) else gts n (at_ + (getText (l.drop at_)).2.1) l (acc ++ [(getText (l.drop at_)).1])

/-- the texts that bytes begin with: the texts, how many bytes, and why not -/
def getList (l : List UInt8) : List (List UInt8) × Nat × Nat :=
  if (getNum l).2.2 ≠ 0 then ([], 0, (getNum l).2.2)
  else if 256 < (getNum l).1 then ([], 0, 7)
  else gts (getNum l).1 (getNum l).2.1 l []

theorem getText_spec (l : List UInt8) : ∃ t u e, getText l = (t, u, e) ∧ (e = 0 → u ≤ l.length ∧ t.length ≤ 8192 ∧ 0 < u ∧ u ≤ 8199) ∧ (e ≠ 0 → u = 0 ∧ t = []) ∧ e ≤ 7 := by
  obtain ⟨n, u, e, hg, h0, h1⟩ := getNum_spec l
  rw [getText, hg]
  by_cases he : e = 0
  · subst he
    have := h0 rfl
    rw [if_neg (by simp)]
    split
    · exact ⟨[], 0, 7, rfl, by simp, by simp, by omega⟩
    · rename_i h8
      split
      · exact ⟨[], 0, 5, rfl, by simp, by simp, by omega⟩
      · rename_i h9
        dsimp only at h8 h9
        refine ⟨(l.drop u).take n, u + n, 0, rfl, fun _ => ⟨by omega, ?_, by omega, by omega⟩, by simp, by omega⟩
        rw [List.length_take]; exact Nat.le_trans (Nat.min_le_left _ _) (by omega)
  · have := h1 he
    rw [if_pos he]
    exact ⟨[], 0, e, rfl, by simp [he], by simp, by omega⟩

theorem ext_drop (l : List UInt8) (n : Nat) : (⟨l.toArray⟩ : ByteArray).extract n l.length = ⟨(l.drop n).toArray⟩ := by
  refine ByteArray.ext ?_
  rw [← Array.toList_inj]
  simp
  exact List.take_of_length_le (by simp)

set_option maxHeartbeats 1000000 in
theorem refGetList_any (l : List UInt8) (w : World) :
    Calls Try.prog 23 #[.string ⟨l.toArray⟩] w fun e w' => ∃ v, e = .returned (.tuple #[v, .int .i64 ((getList l).2.1 : Int), .int .i64 ((getList l).2.2 : Int)]) ∧ OwnS w.heap.size w' v (getList l).1 ∧ Below w.heap.size w w' := by
  obtain ⟨i0, hi, hz0, hz1, hz2⟩ := info_parts info_str
  obtain ⟨n, u, e, hg, h0, h1⟩ := getNum_spec l
  have hc := fun w => refGetNum_any l w
  rw [hg] at hc
  have HT : Hid (getList l = if e ≠ 0 then ([], 0, e) else if 256 < n then ([], 0, 7) else gts n u l []) := by
    refine Lib.hid ?_
    rw [getList, hg]
  go_enter Try.func23, Try.ntmps23
  go_wp2_with fail
  refine (hc _).mono ?_
  rintro e1 w1 ⟨rfl, hbw⟩
  clear hc hg
  have ht := HT.out
  have hsz1 := hbw.size
  by_cases he : e = 0
  · subst he
    have h0' := h0 rfl
    have HN : Hid (n ≤ 281474976710656) := Lib.hid h0'.1
    obtain ⟨-, hu0, hu7, hul⟩ := h0'
    clear h0 h1
    rw [if_neg (by simp)] at ht
    by_cases hn : 256 < n
    · rw [if_pos hn] at ht
      have HT := Lib.hid ht
      clear ht
      have hni : (256 : Int) < (n : Int) := by omega
      go_wp2
      go_ret3
      rw [HT.out]; exact ⟨_, rfl, OwnS.nil _ _, hbw⟩
    · rw [if_neg hn] at ht
      have HT := Lib.hid ht
      clear ht
      have hni : (n : Int) ≤ 256 := by omega
      go_wp2
      go_loopw [6, 8, 9] (fun a v i wr => ∃ (k at_ : Nat) (ls : List (List UInt8)), k ≤ n ∧ at_ ≤ l.length ∧ at_ ≤ 7 + 8199 * k ∧ ls.length = k ∧ a = .int .i64 (at_ : Int) ∧ i = .int .u64 (k : Int) ∧ Hid (OwnS w.heap.size wr v ls) ∧ Hid (gts (n - k) at_ l ls = getList l) ∧ Below w.heap.size w wr)
        (fun _ _ i _ => n - (intOf i).toNat)
      case atStart => exact ⟨0, u, [], by omega, by omega, by omega, rfl, rfl, rfl, Lib.hid (OwnS.nil _ _), Lib.hid HT.out.symm, hbw⟩
      case round =>
        obtain ⟨k, at_, ls, hk, hat, hak, hlk, rfl, rfl, HO, HG, hbr⟩ := hrel
        clear hbw hsz1
        have hsz := hbr.size
        by_cases hkn : k < n
        · have hkni : (k : Int) < (n : Int) := by omega
          have hati : (at_ : Int) ≤ (l.length : Int) := by omega
          obtain ⟨t, u2, e2, hgt, h3, h4, h5⟩ := getText_spec (l.drop at_)
          have hx := ext_drop l at_
          have HG2 : Hid ((if e2 ≠ 0 then ([], 0, e2) else gts (n - (k + 1)) (at_ + u2) l (ls ++ [t])) = getList l) := by
            have h := HG.out
            rw [show n - k = (n - (k + 1)) + 1 by omega, gts, hgt] at h
            exact Lib.hid h
          have hct := fun w => refGetText_any (l.drop at_) w
          rw [hgt] at hct
          have HC := Lib.hid hct
          have H3 := Lib.hid h3
          clear hct hgt h3 h4
          go_wp2_with fail
          refine (HC.out _).mono ?_
          rintro e w2 ⟨rfl, hbw2⟩
          have hb2 := hbr.trans (hbw2.mono hsz)
          have hO2 := HO.out
          have hg2 := HG2.out
          by_cases he2 : e2 = 0
          · subst he2
            have h3' := H3.out rfl
            rw [if_neg (by simp)] at hg2
            have HG3 := Lib.hid hg2
            clear hg2 HG2 HG
            obtain ⟨hu2, ht2, hu2p, hu2m⟩ := h3'
            rw [List.length_drop] at hu2
            unfold OwnS at hO2
            have hown := own_kept hO2 hbw2
            have hbs := hb2.size
            have hu2i : (at_ : Int) + (u2 : Int) ≤ 3000000 := by omega
            go_wp2_with (at_builtin; go_must (refine wpList_append_own _ rfl (.tmp 40) (.tmp 42) _ rfl w.heap.size 9 i0 (.string ⟨#[]⟩) 1 16 Try.underlying32 hi hz0 hz1 hz2 rfl (by decide) _ _ _ rfl (hown.alloc _) ⟨w2.heap.size, 0, none⟩ 1 1 [.string ⟨t.toArray⟩] rfl rfl (cell_one_new _ _ _) (by simp [Value.oneCell']) (by unfold maxLen; omega) (by omega) (by simp; omega) ?_; intro v' w3 hown' hgrow _))
            have hO3 : OwnS w.heap.size w3 v' (ls ++ [t]) := by
              unfold OwnS
              rw [strsV_append, List.length_append]
              exact hown'
            refine ⟨⟨k + 1, at_ + u2, ls ++ [t], by omega, by omega, by omega, by simp; omega, by go_num, by go_num, Lib.hid hO3, Lib.hid HG3.out, (hb2.alloc hbs _).grown hgrow (by simp; omega) (fun k hk => (hown.lt k hk).1)⟩, by simp [intOf]; omega⟩
          · rw [if_pos he2] at hg2
            have HG3 := Lib.hid hg2
            clear hg2 HG2 HG
            have hei : ¬ (e2 : Int) = 0 := by omega
            go_wp2
            go_ret3
            rw [← HG3.out]; exact ⟨_, rfl, OwnS.nil _ _, hb2⟩
        · have hkn' : k = n := by omega
          subst hkn'
          have hg := HG.out
          rw [Nat.sub_self, gts] at hg
          have HG2 := Lib.hid hg
          clear hg HG
          go_wp2
          go_ret3
          rw [← HG2.out]; exact ⟨_, rfl, HO.out, hbr⟩
  · rw [if_pos he] at ht
    have HT := Lib.hid ht
    clear ht
    have hei : ¬ (e : Int) = 0 := by omega
    go_wp2
    go_ret3
    rw [HT.out]; exact ⟨_, rfl, OwnS.nil _ _, hbw⟩

theorem gts_spec (n : Nat) : ∀ (at_ : Nat) (l : List UInt8) (acc : List (List UInt8)), at_ ≤ l.length → ((gts n at_ l acc).2.2 = 0 → (gts n at_ l acc).2.1 ≤ l.length) ∧ ((gts n at_ l acc).2.2 ≠ 0 → (gts n at_ l acc).1 = [] ∧ (gts n at_ l acc).2.1 = 0) ∧ (gts n at_ l acc).2.2 ≤ 7 := by
  induction n with
  | zero => intro at_ l acc h; simp [gts, h]
  | succ n ih =>
    intro at_ l acc h
    obtain ⟨t, u, e, hg, h0, h1, h2⟩ := getText_spec (l.drop at_)
    rw [gts, hg]
    by_cases he : e = 0
    · subst he
      have h3 := (h0 rfl).1
      rw [List.length_drop] at h3
      rw [if_neg (by simp)]
      exact ih _ _ _ (by dsimp only; omega)
    · rw [if_pos he]
      simp [he, h2]

theorem gts_length (n : Nat) : ∀ (at_ : Nat) (l : List UInt8) (acc : List (List UInt8)), (gts n at_ l acc).1.length ≤ acc.length + n := by
  induction n with
  | zero => intro at_ l acc; simp [gts]
  | succ n ih =>
    intro at_ l acc
    rw [gts]
    split
    · simp
    · refine Nat.le_trans (ih _ _ _) ?_
      simp; omega

theorem getList_length (l : List UInt8) : (getList l).1.length ≤ 256 := by
  rw [getList]
  split
  · simp
  · split
    · simp
    · refine Nat.le_trans (gts_length _ _ _ _) ?_
      simp; omega

theorem getList_spec (l : List UInt8) : ∃ ls u e, getList l = (ls, u, e) ∧ (e = 0 → u ≤ l.length) ∧ (e ≠ 0 → ls = [] ∧ u = 0) ∧ e ≤ 7 := by
  refine ⟨(getList l).1, (getList l).2.1, (getList l).2.2, rfl, ?_⟩
  obtain ⟨n, u, e, hg, h0, h1⟩ := getNum_spec l
  rw [getList, hg]
  by_cases he : e = 0
  · subst he
    rw [if_neg (by simp)]
    split
    · simp
    · exact gts_spec _ _ _ _ (h0 rfl).2.2.2
  · have := h1 he
    rw [if_pos he]
    simp [he]
    omega

/-- the texts of a list that is all there is -/
def allR (l : List UInt8) : List (List UInt8) × Nat :=
  if (getList l).2.2 ≠ 0 then ([], (getList l).2.2) else if (getList l).2.1 < l.length then ([], 6) else ((getList l).1, 0)

theorem allR_length (l : List UInt8) : (allR l).1.length ≤ 256 := by
  rw [allR]
  split
  · simp
  · split
    · simp
    · exact getList_length l

set_option maxHeartbeats 1000000 in
theorem refAll_any (l : List UInt8) (w : World) :
    Calls Try.prog 25 #[.string ⟨l.toArray⟩] w fun e w' => ∃ v, e = .returned (.tuple #[v, .int .i64 ((allR l).2 : Int)]) ∧ OwnS w.heap.size w' v (allR l).1 ∧ Below w.heap.size w w' := by
  obtain ⟨ls, u, e, hg, h0, h1, h2⟩ := getList_spec l
  have hc := fun w => refGetList_any l w
  rw [hg] at hc
  have HT : Hid (allR l = if e ≠ 0 then ([], e) else if u < l.length then ([], 6) else (ls, 0)) := by
    refine Lib.hid ?_
    rw [allR, hg]
  go_enter Try.func25, Try.ntmps25
  go_wp2_with fail
  refine (hc _).mono ?_
  rintro e1 w1 ⟨v, rfl, hv, hbw⟩
  clear hc hg
  have HV := Lib.hid hv
  clear hv
  have ht := HT.out
  by_cases he : e = 0
  · subst he
    have h0' := h0 rfl
    clear h0 h1
    rw [if_neg (by simp)] at ht
    by_cases hn : u < l.length
    · rw [if_pos hn] at ht
      have HT := Lib.hid ht
      clear ht
      have hni : ¬ (u : Int) = (l.length : Int) := by omega
      go_wp2
      go_ret2
      rw [HT.out]; exact ⟨_, rfl, OwnS.nil _ _, hbw⟩
    · rw [if_neg hn] at ht
      have HT := Lib.hid ht
      clear ht
      have hni : (u : Int) = (l.length : Int) := by omega
      go_wp2
      go_ret2
      rw [HT.out]; exact ⟨_, rfl, HV.out, hbw⟩
  · rw [if_pos he] at ht
    have HT := Lib.hid ht
    clear ht
    have hei : ¬ (e : Int) = 0 := by omega
    go_wp2
    go_ret2
    rw [HT.out]; exact ⟨_, rfl, OwnS.nil _ _, hbw⟩

set_option maxHeartbeats 1000000 in
theorem same_some (b o cap b' o' cap' : Nat) (la lb : List (List UInt8)) (w : World) (hbw : b < w.heap.size) (hbw' : b' < w.heap.size) (hc : ∀ (j : Nat) (hj : j < la.length), w.cell? ⟨b, o + j, none⟩ = some (.string ⟨(la[j]).toArray⟩)) (hc' : ∀ (j : Nat) (hj : j < lb.length), w.cell? ⟨b', o' + j, none⟩ = some (.string ⟨(lb[j]).toArray⟩)) (hlen : la.length = lb.length) (h256i : (la.length : Int) ≤ 2097152) :
    Calls Try.prog 26 #[.slice (some ⟨b, o, none⟩) la.length cap, .slice (some ⟨b', o', none⟩) lb.length cap'] w fun e w' => e = .returned (.bool (decide (la = lb))) ∧ Below w.heap.size w w' := by
  have hleni : (la.length : Int) = (lb.length : Int) := by omega
  go_enter Try.func26, Try.ntmps26
  go_wp2
  go_loopw [13] (fun i wr => ∃ (k : Nat), k ≤ la.length ∧ i = .int .i64 (k : Int) ∧ Hid (la.take k = lb.take k) ∧ Below w.heap.size w wr) (fun i _ => la.length - (intOf i).toNat)
  case atStart => exact ⟨0, by omega, rfl, Lib.hid (by simp), Below.refl _ _⟩
  case round =>
    obtain ⟨k, hk, rfl, HT, hbr⟩ := hrel
    by_cases hkl : k < la.length
    · have hkl' : k < lb.length := by omega
      have hkli : (k : Int) < (la.length : Int) := by omega
      have hkli' : (k : Int) < (lb.length : Int) := by omega
      obtain ⟨t, ht⟩ : ∃ t, la[k]'hkl = t := ⟨_, rfl⟩
      obtain ⟨t', ht'⟩ : ∃ t, lb[k]'hkl' = t := ⟨_, rfl⟩
      have hck : wr.cell? ⟨b, o + k, none⟩ = some (.string ⟨t.toArray⟩) := by rw [← ht, ← hc k hkl]; exact hbr.cell (p := ⟨b, o + k, none⟩) hbw
      have hck' : wr.cell? ⟨b', o' + k, none⟩ = some (.string ⟨t'.toArray⟩) := by rw [← ht', ← hc' k hkl']; exact hbr.cell (p := ⟨b', o' + k, none⟩) hbw'
      have HT1 := Lib.hid (show la.take (k + 1) = la.take k ++ [t] by rw [← ht]; exact List.take_succ_eq_append_getElem hkl)
      have HT2 := Lib.hid (show lb.take (k + 1) = lb.take k ++ [t'] by rw [← ht']; exact List.take_succ_eq_append_getElem hkl')
      clear hc hc'
      by_cases he : t = t'
      · subst he
        go_wp2_with fail
        go_quiet (fail)
        go_wp2
        go_roundw
        case rel => exact ⟨k + 1, by omega, rfl, Lib.hid (by rw [HT1.out, HT2.out, HT.out]), below_drewN hbr _⟩
        case measure => simp [intOf]; omega
      · have hne : la ≠ lb := by
          intro h
          subst h
          exact he (ht.symm.trans ht')
        have hb : (t == t') = false := by simpa using he
        go_wp2_with fail
        go_quiet (fail)
        go_wp2
        go_ret
        rw [decide_eq_false hne]
        exact ⟨rfl, below_drewN hbr _⟩
    · have hkl' : k = la.length := by omega
      subst hkl'
      have hE : la = lb := by
        have h := HT.out
        rw [List.take_length, List.take_of_length_le (by omega)] at h
        exact h
      go_wp2
      go_ret
      rw [decide_eq_true hE]
      exact ⟨rfl, hbr⟩

theorem same_len (p p' : Option Addr) (n n' cap cap' : Nat) (hn : n ≠ n') (w : World) :
    Calls Try.prog 26 #[.slice p n cap, .slice p' n' cap'] w fun e w' => e = .returned (.bool false) ∧ w = w' := by
  have hni : ¬ (n : Int) = (n' : Int) := by omega
  go_enter Try.func26, Try.ntmps26
  go_wp2
  go_ret
  exact ⟨rfl, rfl⟩

theorem same_zero (p p' : Option Addr) (cap cap' : Nat) (w : World) :
    Calls Try.prog 26 #[.slice p 0 cap, .slice p' 0 cap'] w fun e w' => e = .returned (.bool true) ∧ w = w' := by
  go_enter Try.func26, Try.ntmps26
  go_wp2
  go_loop [13] (fun i => i = .int .i64 0) (fun i => 0)
  case atStart => exact rfl
  case round =>
    subst hrel
    go_wp2
    go_ret
    exact ⟨rfl, rfl⟩

theorem StrRow.form {w : World} {v : Value} {ls : List (List UInt8)} (h : StrRow w v ls) : ∃ p cap, v = .slice p ls.length cap := by
  rcases h with ⟨p, cap, rfl, rfl⟩ | ⟨b, o, cap, rfl, -, -⟩
  · exact ⟨_, _, rfl⟩
  · exact ⟨_, _, rfl⟩

theorem same_big (va vb : Value) (la lb : List (List UInt8)) (w : World) (ha : StrRow w va la) (hb : StrRow w vb lb) (h256 : (la.length : Int) ≤ 2097152) :
    Calls Try.prog 26 #[va, vb] w fun e w' => e = .returned (.bool (decide (la = lb))) ∧ Below w.heap.size w w' := by
  by_cases hlen : la.length = lb.length
  · by_cases h0 : la.length = 0
    · obtain ⟨p, cap, rfl⟩ := ha.form
      obtain ⟨p', cap', rfl⟩ := hb.form
      have h1 : la = [] := List.length_eq_zero_iff.1 h0
      have h2 : lb = [] := List.length_eq_zero_iff.1 (by omega)
      subst h1; subst h2
      refine (same_zero p p' cap cap' w).mono ?_
      rintro e w' ⟨rfl, rfl⟩
      exact ⟨rfl, Below.refl _ _⟩
    · rcases ha with ⟨-, -, -, rfl⟩ | ⟨b, o, cap, rfl, h2, h3⟩
      · exact absurd rfl h0
      · rcases hb with ⟨-, -, -, rfl⟩ | ⟨b', o', cap', rfl, h2', h3'⟩
        · exact absurd hlen h0
        · exact same_some b o cap b' o' cap' la lb w h2 h2' h3 h3' hlen h256
  · obtain ⟨p, cap, rfl⟩ := ha.form
    obtain ⟨p', cap', rfl⟩ := hb.form
    rw [decide_eq_false (fun h => hlen (by rw [h]))]
    refine (same_len p p' _ _ cap cap' hlen w).mono ?_
    rintro e w' ⟨rfl, rfl⟩
    exact ⟨rfl, Below.refl _ _⟩

theorem same_any (va vb : Value) (la lb : List (List UInt8)) (w : World) (ha : StrRow w va la) (hb : StrRow w vb lb) (h256 : la.length ≤ 256) :
    Calls Try.prog 26 #[va, vb] w fun e w' => e = .returned (.bool (decide (la = lb))) ∧ Below w.heap.size w w' :=
  same_big va vb la lb w ha hb (by omega)
end Oct
end Go.Proofs.Ytjfibmlpjcncmaa
