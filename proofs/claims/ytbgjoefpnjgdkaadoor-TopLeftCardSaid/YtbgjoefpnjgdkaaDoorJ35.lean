/- Joined of 2 texts: their lemmas, one behind the other; each says below what it holds. -/
import Derived.Test.YtbgjoefpnjgdkaaDoorLeftRow
import Derived.Test.YtbgjoefpnjgdkaaDoorEventCheck
import Derived.RangeFuncNested
import Derived.RangeFuncBound
import Derived.RangeFuncCalls
import Derived.RangeFuncLeaves
import Derived.Shelf.Abstract
import Derived.Shelf.RegionOpen
import Derived.WalkKit
import Derived.OwnWalkIn
import Derived.TacticsInMore
import Derived.LoopNIn
import Derived.LoopIn
import Derived.RangeFuncFrom
import Derived.RangeFuncKeeps
/- state.of and its iterator. -/
namespace Go.Proofs.YtbgjoefpnjgdkaaDoor
open Go.RowKit Go.Shelf
set_option linter.unusedVariables false
set_option linter.unusedSimpArgs false
set_option maxRecDepth 100000
attribute [local go_sem] Oper.semAt_some
namespace Left
open Named
def memP (e : Ev) : Bool := decide (e.kind = 2)
def leaveL : List UInt8 := [108, 101, 97, 118, 101]
def firstF : List Ev → List UInt8 → List UInt8
  | [], _ => leaveL
  | e :: r, u => if e.key = u then e.body else firstF r u
theorem memberL_first (u : List UInt8) : ∀ es : List Ev, memberL es u = firstF (es.filter memP) u
  | [] => rfl
  | e :: r => by
    rw [memberL, memberL_first u r]
    by_cases hk : e.kind = 2
    · rw [List.filter_cons_of_pos (by simp [memP, hk]), firstF]
      by_cases hu : e.key = u
      · rw [if_pos ⟨hk, hu⟩, if_pos hu]
      · rw [if_neg (fun h => hu h.2), if_neg hu]
    · rw [List.filter_cons_of_neg (by simp [memP, hk]), if_neg (fun h => hk h.1)]
theorem firstF_at {u : List UInt8} {x : Ev} (hx : x.key = u) (suf : List Ev) : ∀ pre : List Ev, (∀ e ∈ pre, e.key ≠ u) → firstF (pre ++ x :: suf) u = x.body
  | [], _ => by rw [List.nil_append, firstF, if_pos hx]
  | e :: r, h => by rw [List.cons_append, firstF, if_neg (h e (by simp)), firstF_at hx suf r (fun e he => h e (by simp [he]))]
theorem firstF_none {u : List UInt8} : ∀ xs : List Ev, (∀ e ∈ xs, e.key ≠ u) → firstF xs u = leaveL
  | [], _ => rfl
  | e :: r, h => by rw [firstF, if_neg (h e (by simp)), firstF_none r (fun e he => h e (by simp [he]))]
theorem take_filter (es : List Ev) (j : Nat) (hj : j < es.length) : (es.take (j + 1)).filter memP = (es.take j).filter memP ++ (if memP es[j] = true then [es[j]] else []) := by
  rw [List.take_succ_eq_append_getElem hj, List.filter_append]
  congr 1
  by_cases h : memP es[j] = true
  · rw [if_pos h, List.filter_cons_of_pos h, List.filter_nil]
  · rw [if_neg h, List.filter_cons_of_neg h, List.filter_nil]
theorem filter_split (es : List Ev) (j : Nat) : es.filter memP = (es.take j).filter memP ++ (es.drop j).filter memP := by
  rw [← List.filter_append, List.take_append_drop]

theorem of_maker (p : Option Addr) (n cap : Nat) (w : World) : Calls Tryd.prog 89 #[.slice p n cap, .int .u8 2] w fun e w' => e = .returned (.func (.func 129) #[] #[.pointer (some ⟨w.heap.size, 0, none⟩), .pointer (some ⟨w.heap.size + 1, 0, none⟩)]) ∧
      w' = (w.alloc (.cells #[.slice p n cap] 84)).alloc (.cells #[.int .u8 2] 54) := by
  go_enter Tryd.func89, Tryd.ntmps89
  go_wp2_with fail
  go_ret
  exact ⟨rfl, rfl⟩

set_option maxHeartbeats 8000000 in
theorem of_stops (n : Nat) (hn : 3 ≤ n) (p : Option Addr) (cap : Nat) (es : List Ev) (b1 b2 : Nat) (w : World) (hA : Blk w b1 [.slice p es.length cap]) (hB : Blk w b2 [.int .u8 2]) (hr : CRow w (.slice p es.length cap) es) (hl : es.length ≤ 256) :
    SeqStopsK Fence.wide n Tryd.prog 129 #[.pointer (some ⟨b1, 0, none⟩), .pointer (some ⟨b2, 0, none⟩)] (fun x : Ev => #[Value.string ⟨x.key.toArray⟩, evV x]) (Below w.heap.size) (fun xs => xs = es.filter memP) (fun pre => ∃ suf, es.filter memP = pre ++ suf) es.length w := by
  intro l J Jx W hW hJ hJx hY h0
  have hJb : ∀ pre A B, J pre A → Below A.heap.size A B → J pre B := fun pre A B h hb => hJ _ A B none h ⟨hb.os, hb.tape, hb.output, hb.size, fun k hk _ => hb.block k hk⟩ (fun r e => by cases e)
  have HA := Lib.hid hA
  have HB := Lib.hid hB
  have HR := Lib.hid hr
  have hli : (es.length : Int) ≤ 256 := by omega
  have h6 := (HA.out.low hW).cell 0 rfl
  clear hA hB hr
  refine callsIn_of_wp Tryd.func129 rfl trivial ?_ rfl
  simp only [Tryd.ntmps129, List.size_toArray, List.length_cons, List.length_nil, Nat.reduceAdd, Nat.reduceSub, Array.replicate_succ, Array.replicate_zero, List.push_toArray, List.append_toArray, List.nil_append, List.cons_append]
  gi_wp2_with fail
  gi_loopw [8] (fun i wr => ∃ j : Nat, j ≤ es.length ∧ i = .int .i64 (j : Int) ∧ Hid (J ((es.take j).filter memP) wr) ∧ Hid (Below w.heap.size w wr)) (fun i _ => es.length - (intOf i).toNat)
  case atStart => exact ⟨0, by omega, rfl, Lib.hid (by simpa using h0), Lib.hid hW⟩
  case round =>
    obtain ⟨j, hj, rfl, HJ, HW⟩ := hrel
    by_cases hlt : j < es.length
    · obtain ⟨b, rfl, -, hcap, hbl, hrg⟩ := HR.out.at hlt
      have hji : (j : Int) < (es.length : Int) := by omega
      have HN := Lib.hid (take_filter es j hlt)
      have HSP := Lib.hid (filter_split es (j + 1))
      have hlen : ((es.take j).filter memP).length < es.length := by
        have := List.length_filter_le memP (es.take j)
        rw [List.length_take] at this
        omega
      clear h6
      generalize es[j] = x at *
      obtain ⟨room, sender, kind, key, body, nonce⟩ := x
      have e0 : wr.cell? ⟨b, j * 8, none⟩ = some (.int .u8 (kind : Int)) := (HW.out.cell (p := ⟨b, j * 8 + 0, none⟩) hbl).trans (hrg 0 _ rfl)
      have e1 : wr.cell? ⟨b, j * 8 + 1, none⟩ = some (.string ⟨key.toArray⟩) := (HW.out.cell (p := ⟨b, j * 8 + 1, none⟩) hbl).trans (hrg 1 _ rfl)
      have e2 : wr.cell? ⟨b, j * 8 + 2, none⟩ = some (.string ⟨room.toArray⟩) := (HW.out.cell (p := ⟨b, j * 8 + 2, none⟩) hbl).trans (hrg 2 _ rfl)
      have e3 : wr.cell? ⟨b, j * 8 + 3, none⟩ = some (.string ⟨sender.toArray⟩) := (HW.out.cell (p := ⟨b, j * 8 + 3, none⟩) hbl).trans (hrg 3 _ rfl)
      have e4 : wr.cell? ⟨b, j * 8 + 4, none⟩ = some (.int .u8 (kind : Int)) := (HW.out.cell (p := ⟨b, j * 8 + 4, none⟩) hbl).trans (hrg 4 _ rfl)
      have e5 : wr.cell? ⟨b, j * 8 + 5, none⟩ = some (.string ⟨key.toArray⟩) := (HW.out.cell (p := ⟨b, j * 8 + 5, none⟩) hbl).trans (hrg 5 _ rfl)
      have e6 : wr.cell? ⟨b, j * 8 + 6, none⟩ = some (.string ⟨body.toArray⟩) := (HW.out.cell (p := ⟨b, j * 8 + 6, none⟩) hbl).trans (hrg 6 _ rfl)
      have e7 : wr.cell? ⟨b, j * 8 + 7, none⟩ = some (.int .i64 nonce) := (HW.out.cell (p := ⟨b, j * 8 + 7, none⟩) hbl).trans (hrg 7 _ rfl)
      clear hrg
      have hsz := HW.out.size
      have B3 := HW.out.alloc HW.out.size (.cells #[.int .u8 (kind : Int), .string ⟨key.toArray⟩, .string ⟨room.toArray⟩, .string ⟨sender.toArray⟩, .int .u8 (kind : Int), .string ⟨key.toArray⟩, .string ⟨body.toArray⟩, .int .i64 nonce] 91)
      have J3 := hJb _ _ _ HJ.out ((Below.refl wr.heap.size wr).alloc (Nat.le_refl _) (.cells #[.int .u8 (kind : Int), .string ⟨key.toArray⟩, .string ⟨room.toArray⟩, .string ⟨sender.toArray⟩, .int .u8 (kind : Int), .string ⟨key.toArray⟩, .string ⟨body.toArray⟩, .int .i64 nonce] 91))
      have k0 := (HB.out.below HW.out HB.out.size).cell 0 rfl
      have hb2 : b2 < wr.heap.size := Nat.lt_of_lt_of_le HB.out.size hsz
      by_cases hk : kind = 2
      · have HP := Lib.hid (show (es.take (j + 1)).filter memP = (es.take j).filter memP ++ [⟨room, sender, kind, key, body, nonce⟩] by rw [HN.out, if_pos (show memP _ = true from decide_eq_true hk)])
        have hkd : ((kind : Int) == 2) = true := by simp [hk]
        clear HN hk
        obtain ⟨fy, ty, ay, cy, hy, hR⟩ := hY _ ⟨room, sender, kind, key, body, nonce⟩ _ J3 hlen
        unfold evV at hy
        dsimp only at hy
        gi_wp2_with fail
        refine ⟨fun _ => by omega, hR.mono ?_⟩
        rintro e W3 (⟨rfl, hJ3, hk3⟩ | ⟨rfl, hJx3⟩)
        · gi_wp2
          go_roundw
          case rel => exact ⟨j + 1, by omega, by go_num, Lib.hid (by rw [HP.out]; exact hJ3), Lib.hid (B3.trans hk3)⟩
          case measure => simp [intOf]; omega
        · gi_wp2
          refine bodyPost_ret (results_none rfl _ _ _) rfl ?_
          exact ⟨⟨_, rfl⟩, .inr ⟨_, ⟨(es.drop (j + 1)).filter memP, by rw [HSP.out, HP.out]⟩, hJx3⟩⟩
      · have HP := Lib.hid (show (es.take (j + 1)).filter memP = (es.take j).filter memP by rw [HN.out, if_neg (by simp [memP, hk]), List.append_nil])
        have hki : ¬ (kind : Int) = 2 := by omega
        have hkd : ((kind : Int) == 2) = false := by simpa using hki
        clear HN hk
        gi_wp2
        refine ⟨(fun f e => by cases e), ?_⟩
        gi_wp2
        go_roundw
        case rel => exact ⟨j + 1, by omega, by go_num, Lib.hid (by rw [HP.out]; exact J3), Lib.hid B3⟩
        case measure => simp [intOf]; omega
    · obtain rfl : j = es.length := by omega
      rw [List.take_length] at HJ
      clear hlt hj h6
      gi_wp2
      refine bodyPost_end (results_none rfl _ _ _) rfl ?_
      exact ⟨⟨_, rfl⟩, .inl ⟨_, rfl, HJ.out⟩⟩
end Left
end Go.Proofs.YtbgjoefpnjgdkaaDoor
/- state.Member. -/
namespace Go.Proofs.YtbgjoefpnjgdkaaDoor
open Go.RowKit Go.Shelf
set_option linter.unusedVariables false
set_option linter.unusedSimpArgs false
set_option maxRecDepth 100000
attribute [local go_sem] Oper.semAt_some
namespace Left
open Named
/-- a block that holds these cells, whole -/
def Whole (W : World) (g : Nat) (cs : Array Value) (t : TypeId) : Prop := W.heap[g]? = some (.cells cs t (0, 0))
theorem Whole.blk {W : World} {g : Nat} {cs : Array Value} {t : TypeId} (h : Whole W g cs t) : Blk W g cs.toList := by
  have hc : ∀ k, W.cell? ⟨g, k, none⟩ = cs.toList[k]? := fun k => by rw [World.cell?]; simp only [show W.heap[g]? = _ from h]; simp
  exact ⟨(Array.getElem?_eq_some_iff.1 h).1, fun j v hv => by rw [Nat.zero_add, hc]; exact hv, fun j hj => ⟨by rw [Nat.zero_add, hc, List.getElem?_eq_getElem hj]; rfl, by simp [World.frozen?, show W.heap[g]? = _ from h]⟩⟩
theorem Whole.new (W : World) (cs : Array Value) (t : TypeId) : Whole (W.alloc (.cells cs t)) W.heap.size cs t := World.alloc_heap_new W _
theorem whole_own {B : Nat} (g : Nat) (cs : Array Value) (t : TypeId) : OwnFrom B (fun (_ : Unit) W => Whole W g cs t) := fun s X Y row hs hg hr =>
  (hg.block g (Array.getElem?_eq_some_iff.1 hs).1 (fun e => by
    obtain ⟨-, o, ho, hc⟩ := hr g e.symm
    rw [show X.heap[g]? = _ from hs] at ho
    cases ho; cases hc)).trans hs
theorem keepsB {W W' : World} (hb : Below W.heap.size W W') : KeepsOthers W W' :=
  KeepsOthers.of_grownBy (row := none) ⟨hb.os, hb.tape, hb.output, hb.size, fun k hk _ => hb.block k hk⟩ (fun j o e => by cases e)
def noPanic (Q : Exit → Act → World → Prop) : Exit → Act → World → Prop
  | .panic _, _, _ => False
  | .normal, a, w => Q .normal a w
  | .ret, a, w => Q .ret a w
  | .exit i, a, w => Q (.exit i) a w
  | .goto i, a, w => Q (.goto i) a w
  | .outgrown, a, w => Q .outgrown a w
theorem noPanic_le {Q : Exit → Act → World → Prop} : ∀ e a w, noPanic Q e a w → Q e a w := by
  intro e a w h
  cases e <;> first | exact h | exact False.elim h
set_option maxHeartbeats 16000000 in
theorem member_any (v : Value) (es : List Ev) (u : List UInt8) (w : World) (hr : CRow w v es) (hl : es.length ≤ 256) :
    Calls Tryd.prog 37 #[v, .string ⟨u.toArray⟩] w fun e w' => e = .returned (.string ⟨(memberL es u).toArray⟩) ∧ Below w.heap.size w w' := by
  obtain ⟨p, cap, rfl⟩ := hr.form
  have HR := Lib.hid hr
  have HM := Lib.hid (memberL_first u es)
  clear hr
  have U := (Blk.new w #[.string ⟨u.toArray⟩] 9).alloc (.cells #[.string ⟨#[]⟩] 9)
  have R := Blk.new (w.alloc (.cells #[.string ⟨u.toArray⟩] 9)) #[.string ⟨#[]⟩] 9
  have B := ((Below.refl w.heap.size w).alloc (Nat.le_refl _) (.cells #[.string ⟨u.toArray⟩] 9)).alloc (by simp) (.cells #[.string ⟨#[]⟩] 9)
  have hz1 : ((w.alloc (.cells #[.string ⟨u.toArray⟩] 9)).alloc (.cells #[.string ⟨#[]⟩] 9)).heap.size = w.heap.size + 1 + 1 := by simp
  simp only [World.size_alloc] at R
  refine callsIn_wide (n := 9).1 ?_
  refine callsIn_of_wp_marks Tryd.func37 rfl trivial ?_ rfl
  refine wpIn_wide.2 ?_
  refine wp_mono (Q := noPanic (bodyPostM Fence.wide 9 Tryd.prog Tryd.f37 _)) ?_ noPanic_le
  simp only [Tryd.ntmps37, List.size_toArray, List.length_cons, List.length_nil, Nat.reduceAdd, Nat.reduceSub, Array.replicate_succ, Array.replicate_zero, List.push_toArray, List.append_toArray, List.nil_append, List.cons_append]
  go_wp2_with fail
  generalize (w.alloc (.cells #[.string ⟨u.toArray⟩] 9)).alloc (.cells #[.string ⟨#[]⟩] 9) = w1 at *
  refine (of_maker p es.length cap w1).mono ?_
  rintro e w2 ⟨rfl, rfl⟩
  have C1 := (Blk.new w1 #[.slice p es.length cap] 84).alloc (.cells #[.int .u8 2] 54)
  have C2 := Blk.new (w1.alloc (.cells #[.slice p es.length cap] 84)) #[.int .u8 2] 54
  simp only [World.size_alloc] at C2
  have hbw := ((Below.refl w1.heap.size w1).alloc (Nat.le_refl _) (.cells #[.slice p es.length cap] 84)).alloc (by simp) (.cells #[.int .u8 2] 54)
  have hz2 : ((w1.alloc (.cells #[.slice p es.length cap] 84)).alloc (.cells #[.int .u8 2] 54)).heap.size = w1.heap.size + 1 + 1 := by simp
  have U := U.low hbw
  have R := R.low hbw
  have B := B.trans (hbw.mono B.size)
  have hR2 := HR.out.low B
  clear hbw
  generalize (w1.alloc (.cells #[.slice p es.length cap] 84)).alloc (.cells #[.int .u8 2] 54) = W0 at *
  rw [hz1] at hz2 C1 C2
  go_wp2_with fail
  have hseq := of_stops 8 (by omega) p cap es (w.heap.size + 1 + 1) (w.heap.size + 1 + 1 + 1) W0 C1 C2 hR2 hl
  have HU := Lib.hid U
  have HRB := Lib.hid R
  have HB0 := Lib.hid B
  clear U R B C1 C2 hR2 hz2
  refine (wpIn_wide (n := 9)).1 ?_
  refine wpIn_rangeFunc_ownH (n := 9) (α := Ev) (ps := #[9, 10]) (a := { tmps := ?tm, defers := ?df }) (encs := fun x : Ev => #[Value.string ⟨x.key.toArray⟩, evV x]) rfl (by omega) (gf := 129) (lb := #[.pointer (some ⟨w.heap.size + 1 + 1, 0, none⟩), .pointer (some ⟨w.heap.size + 1 + 1 + 1, 0, none⟩)]) ?hg trivial (enters_of Tryd.func129 (by kernel_rfl) rfl) hseq belowK_t (belowK_b (Nat.le_refl _)) (Below.refl _ _) (fun _ => rfl)
    (fun pre W => (∀ e ∈ pre, e.key ≠ u) ∧ Below W0.heap.size W0 W)
    (fun c pre W => (c = .ret ∧ ∃ pre' x, pre = pre' ++ [x] ∧ (∀ e ∈ pre', e.key ≠ u) ∧ x.key = u ∧ W.cell? ⟨w.heap.size + 1, 0, none⟩ = some (.string ⟨x.body.toArray⟩)) ∧ Below w.heap.size w W)
    (OwnFrom.and (fun s A B row hs hg hr => hs) (ownFrom_below (Nat.le_refl _) (Nat.le_refl _)))
    (fun c => OwnFrom.and (Own.from (fun s A B row hs hg hr => by
      obtain ⟨h1, pre', x, h2, h3, h4, h5⟩ := hs
      exact ⟨h1, pre', x, h2, h3, h4, cell_kept h5 hg hr⟩) _) (ownFrom_below (Nat.le_refl _) HB0.out.size))
    ⟨(fun y hy => by cases hy), Below.refl _ _⟩
    (fun x a' W => ∃ g, Whole W g #[.string ⟨x.room.toArray⟩, .string ⟨x.sender.toArray⟩, .int .u8 (x.kind : Int), .string ⟨x.key.toArray⟩, .string ⟨x.body.toArray⟩, .int .i64 x.nonce] 56 ∧ a' = { tmps := ((((?tm).setIfInBounds 9 (.string ⟨x.key.toArray⟩)).setIfInBounds 10 (evV x)).setIfInBounds 5 (.string ⟨x.key.toArray⟩)).setIfInBounds 6 (.pointer (some ⟨g, 0, none⟩)), defers := [] })
    (fun x a' s X Y row hs hg hr => by
      obtain ⟨g, h1, h2⟩ := hs
      exact ⟨g, whole_own g _ _ () X Y row h1 hg hr, h2⟩) ?assign ?body ?done ?stop
  case hg => rfl
  case assign =>
    intro l pre x W K hI hK
    obtain ⟨room, sender, kind, key, body, nonce⟩ := x
    have hba := (Below.refl W.heap.size W).alloc (Nat.le_refl _) (.cells #[.string ⟨room.toArray⟩, .string ⟨sender.toArray⟩, .int .u8 (kind : Int), .string ⟨key.toArray⟩, .string ⟨body.toArray⟩, .int .i64 nonce] 56)
    have hk := hK _ _ ((keepsB hba).from _) (hba.mono hI.2.size) ⟨hI.1, hI.2.trans (hba.mono hI.2.size)⟩ ⟨_, Whole.new W #[.string ⟨room.toArray⟩, .string ⟨sender.toArray⟩, .int .u8 (kind : Int), .string ⟨key.toArray⟩, .string ⟨body.toArray⟩, .int .i64 nonce] 56, rfl⟩
    clear hK hba hI
    unfold evV at *
    dsimp only at *
    gi_wp2_with fail
    exact hk
  case body =>
    rintro l pre x a' W hlB hrec ⟨hI1, hB⟩ ⟨g, hWh, rfl⟩ _
    obtain ⟨room, sender, kind, key, body, nonce⟩ := x
    unfold evV
    dsimp only at hWh ⊢
    have E := hWh.blk
    have U := HU.out.low hB
    have R := HRB.out.low hB
    have HI1 := Lib.hid hI1
    have HBW := Lib.hid hB
    have uc := U.cell 0 rfl
    have rc := R.cell 0 rfl
    have rf := R.froz 0 (by simp)
    have rz := R.size
    have ez := E.size
    have e4 := E.cell 4 rfl
    clear hI1 hB hWh hrec
    by_cases hk : key = u
    · subst hk
      have hq : (key == key) = true := by simp
      gi_wp2_with fail
      have R9 := R.set 0 (by simp) (.string ⟨body.toArray⟩)
      refine ⟨(KeepsOthers.setCell W ⟨w.heap.size + 1, 0, none⟩ (.string ⟨body.toArray⟩)).from _, ⟨rfl, pre, _, rfl, HI1.out, rfl, R9.cell 0 rfl⟩, ?_⟩
      exact (HB0.out.trans (HBW.out.mono HB0.out.size)).setCell (p := ⟨w.heap.size + 1, 0, none⟩) (by show w.heap.size ≤ w.heap.size + 1; omega) _
    · have hq : (key == u) = false := by simpa using hk
      gi_wp2_with fail
      refine ⟨KeepsFrom.refl _ _, Below.refl _ _, fun e he => ?_, HBW.out⟩
      rcases List.mem_append.1 he with h | h
      · exact HI1.out e h
      · rw [List.mem_singleton.1 h]; exact hk
  case done =>
    rintro D ys W hD rfl ⟨hI1, hB⟩ hK
    have R := HRB.out.low hB
    have HI1 := Lib.hid hI1
    have er := R.cell 0 rfl
    have fr := R.froz 0 (by simp)
    have zr := R.size
    have BW := HB0.out.trans (hB.mono HB0.out.size)
    clear hI1
    simp only [Exit.inBlock, Exit.then]
    go_wp2_with fail
    have K9 := (KeepsOthers.setCell W ⟨w.heap.size + 1, 0, none⟩ (.string ⟨#[108, 101, 97, 118, 101]⟩)).same D _ hK rfl
    have R9 := R.set 0 (by simp) (.string ⟨#[108, 101, 97, 118, 101]⟩)
    have B9 := BW.setCell (p := ⟨w.heap.size + 1, 0, none⟩) (by show w.heap.size ≤ w.heap.size + 1; omega) (.string ⟨#[108, 101, 97, 118, 101]⟩)
    have hwD : w.heap.size ≤ D := by have := HB0.out.size; omega
    generalize W.setCell ⟨w.heap.size + 1, 0, none⟩ (.string ⟨#[108, 101, 97, 118, 101]⟩) = W9 at *
    have d0 := cell_kept (R9.cell 0 rfl) (grownBy_putObj' W9 D (.deferred none)) (fun r e => by cases e; exact ⟨_, K9, rfl⟩)
    show bodyPostM _ _ _ _ _ Exit.ret _ _
    refine ⟨by simp, .inl ⟨_, _, rfl, run_takeDeferred K9, ?_⟩⟩
    refine ⟨.string ⟨#[108, 101, 97, 118, 101]⟩, by simp [results, Tryd.f37, go_sem, d0], ?_, B9.trans (belowK_b (w := w) (Nat.le_refl _) W9 D _ _ hwD K9 rfl rfl)⟩
    rw [HM.out, firstF_none _ HI1.out]
    rfl
  case stop =>
    rintro D c pre W hD ⟨suf, hsuf⟩ ⟨⟨rfl, pre', x, hp1, hp2, hp3, hc⟩, hB⟩ hK
    refine wpIn_wide.2 ?_
    go_wp2_with fail
    try simp only [Exit.inBlock, Exit.then]
    have hwD : w.heap.size ≤ D := by have := HB0.out.size; omega
    have d0 := cell_kept hc (grownBy_putObj' W D (.deferred none)) (fun r e => by cases e; exact ⟨_, hK, rfl⟩)
    have hm : memberL es u = x.body := by rw [HM.out, hsuf, hp1, List.append_assoc, List.singleton_append, firstF_at hp3 suf pre' hp2]
    show bodyPostM _ _ _ _ _ Exit.ret _ _
    refine ⟨by simp, .inl ⟨_, _, rfl, run_takeDeferred hK, ?_⟩⟩
    exact ⟨.string ⟨x.body.toArray⟩, by simp [results, Tryd.f37, go_sem, d0], by rw [hm], hB.trans (belowK_b (w := w) (Nat.le_refl _) W D _ _ hwD hK rfl rfl)⟩
end Left
end Go.Proofs.YtbgjoefpnjgdkaaDoor
