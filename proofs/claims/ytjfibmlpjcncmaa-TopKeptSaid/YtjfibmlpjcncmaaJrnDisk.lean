/- The walks of journal.Add and Mend, and of the document's. -/
import Derived.Test.YtjfibmlpjcncmaaJrnRef
import Derived.Test.YtjfibmlpjcncmaaDiskLives
import Derived.Deep.RegionHeld3
import Derived.Deep.DrawnRows
namespace Go.Proofs.Ytjfibmlpjcncmaa
open Go.RowKit
set_option linter.unusedVariables false
set_option linter.unusedSimpArgs false
set_option maxRecDepth 4000
attribute [local go_sem ↓] Go.wp_at_zero Go.wp_at_succ
namespace Jrn
open Oct Crc Disk

theorem _root_.Go.Proofs.Ytjfibmlpjcncmaa.Disk.Two.drew {n : Nat} {w : World} {a b c d e f : Value} (h : Two n w a b c d e f) : Two n w.drew a b c d e f := ⟨h.size, h.a0, h.a1, h.a2, h.b0, h.b1, h.b2, h.fa0, h.fa1, h.fa2, h.fb0, h.fb1, h.fb2⟩

/-- what Add gives -/
def addR (D : ByteArray) (S R : Int) (t : List UInt8) : Res :=
  if rightB D S R then (if t.length ≤ 8192 then writeR D S R ⟨(recB t).toArray⟩ else ⟨D, S, R, 7⟩) else Disk.zero 2
/-- what Mend gives -/
def mendR (D : ByteArray) (S R : Int) : Res :=
  if rightB D S R then ⟨⟨(D.data.toList.take (readR D.data.toList).2).toArray⟩, ((readR D.data.toList).2 : Int), R, 0⟩ else Disk.zero 2

set_option maxHeartbeats 1000000 in
theorem add_any (D : ByteArray) (S R : Int) (t : List UInt8) (w : World) :
    Calls Try.prog 36 #[.agg #[.string D, .int .i64 S, .int .i64 R], .string ⟨t.toArray⟩] w fun e w' => e = .returned (.tuple #[.agg #[.string (addR D S R t).d, .int .i64 (addR D S R t).s, .int .i64 (addR D S R t).r], .int .i64 (addR D S R t).e]) ∧ Below w.heap.size w w' := by
  have c1 := fun w => check_any D S R w
  unfold chkE at c1
  by_cases hr : rightB D S R = true
  · rw [addR, if_pos hr]
    rw [if_pos hr] at c1
    have c2 := fun w => bytes_any t w
    by_cases ht : t.length ≤ 8192
    · rw [if_pos ht]
      rw [bytesR, if_pos ht] at c2
      have c3 := fun w => write_any D S R ⟨(recB t).toArray⟩ w
      generalize writeR D S R ⟨(recB t).toArray⟩ = r at *
      generalize recB t = x at *
      clear ht hr
      go_enter Try.func36, Try.ntmps36
      go_wp2_with fail
      refine (c1 _).mono ?_
      rintro e w1 ⟨rfl, hb⟩
      have T := (Two.made w _ _ _ _ _ _ _ _).below hb
      have B : Below w.heap.size w w1 := (((Below.refl _ _).alloc (Nat.le_refl _) _).alloc (by simp) _).trans (hb.mono (by simp <;> omega))
      have TT := T
      obtain ⟨hz, a0, a1, a2, b0, b1, b2, fa0, fa1, fa2, fb0, fb1, fb2⟩ := T
      clear hb c1
      go_wp2_with fail
      refine (c2 _).mono ?_
      rintro e w2 ⟨rfl, hb⟩
      have T := TT.below hb
      replace B := B.trans (hb.mono B.size)
      clear hz a0 a1 a2 b0 b1 b2 fa0 fa1 fa2 fb0 fb1 fb2 hb TT c2
      have TT := T
      obtain ⟨hz, a0, a1, a2, b0, b1, b2, fa0, fa1, fa2, fb0, fb1, fb2⟩ := T
      go_wp2_with fail
      refine (c3 _).mono ?_
      rintro e w3 ⟨rfl, hb⟩
      have T := TT.below hb
      replace B := B.trans (hb.mono B.size)
      clear hz a0 a1 a2 b0 b1 b2 fa0 fa1 fa2 fb0 fb1 fb2 hb TT c3
      have TT := T
      obtain ⟨hz, a0, a1, a2, b0, b1, b2, fa0, fa1, fa2, fb0, fb1, fb2⟩ := T
      go_wp2_with fail
      exact bodyPost_ret (v := .tuple #[.agg #[.string r.d, .int .i64 r.s, .int .i64 r.r], .int .i64 r.e]) (by simp [results, Try.results36, go_sem, *]) rfl ⟨rfl, (by repeat (first | exact B | exact Below.refl _ _ | refine Below.drew ?_ | refine Below.setCell ?_ (by simp) _ | refine Below.alloc ?_ (Nat.le_refl _) _ | refine Below.alloc ?_ (by have := B.size; simp <;> omega) _))⟩
    · rw [if_neg ht]
      rw [bytesR, if_neg ht] at c2
      clear ht hr
      go_enter Try.func36, Try.ntmps36
      go_wp2_with fail
      refine (c1 _).mono ?_
      rintro e w1 ⟨rfl, hb⟩
      have T := (Two.made w _ _ _ _ _ _ _ _).below hb
      have B : Below w.heap.size w w1 := (((Below.refl _ _).alloc (Nat.le_refl _) _).alloc (by simp) _).trans (hb.mono (by simp <;> omega))
      have TT := T
      obtain ⟨hz, a0, a1, a2, b0, b1, b2, fa0, fa1, fa2, fb0, fb1, fb2⟩ := T
      clear hb c1
      go_wp2_with fail
      refine (c2 _).mono ?_
      rintro e w2 ⟨rfl, hb⟩
      have T := TT.below hb
      replace B := B.trans (hb.mono B.size)
      clear hz a0 a1 a2 b0 b1 b2 fa0 fa1 fa2 fb0 fb1 fb2 hb TT c2
      have TT := T
      obtain ⟨hz, a0, a1, a2, b0, b1, b2, fa0, fa1, fa2, fb0, fb1, fb2⟩ := T
      go_wp2_with fail
      exact bodyPost_ret (v := .tuple #[.agg #[.string D, .int .i64 S, .int .i64 R], .int .i64 7]) (by simp [results, Try.results36, go_sem, *]) rfl ⟨rfl, (by repeat (first | exact B | exact Below.refl _ _ | refine Below.drew ?_ | refine Below.setCell ?_ (by simp) _ | refine Below.alloc ?_ (Nat.le_refl _) _ | refine Below.alloc ?_ (by have := B.size; simp <;> omega) _))⟩
  · rw [addR, if_neg hr]
    rw [if_neg hr] at c1
    clear hr
    go_enter Try.func36, Try.ntmps36
    go_wp2_with fail
    refine (c1 _).mono ?_
    rintro e w1 ⟨rfl, hb⟩
    have T := (Two.made w _ _ _ _ _ _ _ _).below hb
    have B : Below w.heap.size w w1 := (((Below.refl _ _).alloc (Nat.le_refl _) _).alloc (by simp) _).trans (hb.mono (by simp <;> omega))
    have TT := T
    obtain ⟨hz, a0, a1, a2, b0, b1, b2, fa0, fa1, fa2, fb0, fb1, fb2⟩ := T
    clear hb c1
    go_wp2_with fail
    exact bodyPost_ret (v := .tuple #[.agg #[.string ⟨#[]⟩, .int .i64 0, .int .i64 0], .int .i64 2]) (by simp [results, Try.results36, go_sem, *]) rfl ⟨rfl, (by repeat (first | exact B | exact Below.refl _ _ | refine Below.drew ?_ | refine Below.setCell ?_ (by simp) _ | refine Below.alloc ?_ (Nat.le_refl _) _ | refine Below.alloc ?_ (by have := B.size; simp <;> omega) _))⟩

set_option maxHeartbeats 1000000 in
theorem refAdd_any (D : ByteArray) (S R : Int) (t : List UInt8) (w : World) :
    Calls Try.prog 37 #[.agg #[.string D, .int .i64 S, .int .i64 R], .string ⟨t.toArray⟩] w fun e w' => e = .returned (.tuple #[.agg #[.string (addR D S R t).d, .int .i64 (addR D S R t).s, .int .i64 (addR D S R t).r], .int .i64 (addR D S R t).e]) ∧ Below w.heap.size w w' := by
  have c1 := fun w => rcheck_any D S R w
  unfold chkE at c1
  by_cases hr : rightB D S R = true
  · rw [addR, if_pos hr]
    rw [if_pos hr] at c1
    have c2 := fun w => refBytes_any t w
    by_cases ht : t.length ≤ 8192
    · rw [if_pos ht]
      rw [bytesR, if_pos ht] at c2
      have c3 := fun w => rwrite_any D S R ⟨(recB t).toArray⟩ w
      generalize writeR D S R ⟨(recB t).toArray⟩ = r at *
      generalize recB t = x at *
      clear ht hr
      go_enter Try.func37, Try.ntmps37
      go_wp2_with fail
      refine (c1 _).mono ?_
      rintro e w1 ⟨rfl, hb⟩
      have T := (Two.made w _ _ _ _ _ _ _ _).below hb
      have B : Below w.heap.size w w1 := (((Below.refl _ _).alloc (Nat.le_refl _) _).alloc (by simp) _).trans (hb.mono (by simp <;> omega))
      have TT := T
      obtain ⟨hz, a0, a1, a2, b0, b1, b2, fa0, fa1, fa2, fb0, fb1, fb2⟩ := T
      clear hb c1
      go_wp2_with fail
      refine (c2 _).mono ?_
      rintro e w2 ⟨rfl, hb⟩
      have T := TT.below hb
      replace B := B.trans (hb.mono B.size)
      clear hz a0 a1 a2 b0 b1 b2 fa0 fa1 fa2 fb0 fb1 fb2 hb TT c2
      have TT := T
      obtain ⟨hz, a0, a1, a2, b0, b1, b2, fa0, fa1, fa2, fb0, fb1, fb2⟩ := T
      go_wp2_with fail
      refine (c3 _).mono ?_
      rintro e w3 ⟨rfl, hb⟩
      have T := TT.below hb
      replace B := B.trans (hb.mono B.size)
      clear hz a0 a1 a2 b0 b1 b2 fa0 fa1 fa2 fb0 fb1 fb2 hb TT c3
      have TT := T
      obtain ⟨hz, a0, a1, a2, b0, b1, b2, fa0, fa1, fa2, fb0, fb1, fb2⟩ := T
      go_wp2_with fail
      exact bodyPost_ret (v := .tuple #[.agg #[.string r.d, .int .i64 r.s, .int .i64 r.r], .int .i64 r.e]) (by simp [results, Try.results37, go_sem, *]) rfl ⟨rfl, (by repeat (first | exact B | exact Below.refl _ _ | refine Below.drew ?_ | refine Below.setCell ?_ (by simp) _ | refine Below.alloc ?_ (Nat.le_refl _) _ | refine Below.alloc ?_ (by have := B.size; simp <;> omega) _))⟩
    · rw [if_neg ht]
      rw [bytesR, if_neg ht] at c2
      clear ht hr
      go_enter Try.func37, Try.ntmps37
      go_wp2_with fail
      refine (c1 _).mono ?_
      rintro e w1 ⟨rfl, hb⟩
      have T := (Two.made w _ _ _ _ _ _ _ _).below hb
      have B : Below w.heap.size w w1 := (((Below.refl _ _).alloc (Nat.le_refl _) _).alloc (by simp) _).trans (hb.mono (by simp <;> omega))
      have TT := T
      obtain ⟨hz, a0, a1, a2, b0, b1, b2, fa0, fa1, fa2, fb0, fb1, fb2⟩ := T
      clear hb c1
      go_wp2_with fail
      refine (c2 _).mono ?_
      rintro e w2 ⟨rfl, hb⟩
      have T := TT.below hb
      replace B := B.trans (hb.mono B.size)
      clear hz a0 a1 a2 b0 b1 b2 fa0 fa1 fa2 fb0 fb1 fb2 hb TT c2
      have TT := T
      obtain ⟨hz, a0, a1, a2, b0, b1, b2, fa0, fa1, fa2, fb0, fb1, fb2⟩ := T
      go_wp2_with fail
      exact bodyPost_ret (v := .tuple #[.agg #[.string D, .int .i64 S, .int .i64 R], .int .i64 7]) (by simp [results, Try.results37, go_sem, *]) rfl ⟨rfl, (by repeat (first | exact B | exact Below.refl _ _ | refine Below.drew ?_ | refine Below.setCell ?_ (by simp) _ | refine Below.alloc ?_ (Nat.le_refl _) _ | refine Below.alloc ?_ (by have := B.size; simp <;> omega) _))⟩
  · rw [addR, if_neg hr]
    rw [if_neg hr] at c1
    clear hr
    go_enter Try.func37, Try.ntmps37
    go_wp2_with fail
    refine (c1 _).mono ?_
    rintro e w1 ⟨rfl, hb⟩
    have T := (Two.made w _ _ _ _ _ _ _ _).below hb
    have B : Below w.heap.size w w1 := (((Below.refl _ _).alloc (Nat.le_refl _) _).alloc (by simp) _).trans (hb.mono (by simp <;> omega))
    have TT := T
    obtain ⟨hz, a0, a1, a2, b0, b1, b2, fa0, fa1, fa2, fb0, fb1, fb2⟩ := T
    clear hb c1
    go_wp2_with fail
    exact bodyPost_ret (v := .tuple #[.agg #[.string ⟨#[]⟩, .int .i64 0, .int .i64 0], .int .i64 2]) (by simp [results, Try.results37, go_sem, *]) rfl ⟨rfl, (by repeat (first | exact B | exact Below.refl _ _ | refine Below.drew ?_ | refine Below.setCell ?_ (by simp) _ | refine Below.alloc ?_ (Nat.le_refl _) _ | refine Below.alloc ?_ (by have := B.size; simp <;> omega) _))⟩

theorem bytes_of (s : ByteArray) : ∃ l : List UInt8, s = ⟨l.toArray⟩ ∧ l.length = s.size := ⟨s.data.toList, by cases s; simp, by cases s; simp [ByteArray.size]⟩
theorem take_eq (l : List UInt8) (k : Nat) : (⟨l.toArray⟩ : ByteArray).extract 0 k = ⟨(l.take k).toArray⟩ := by
  have := ext_take l 0 k
  rwa [Nat.zero_add, List.drop_zero] at this

set_option maxHeartbeats 1000000 in
theorem mend_any (D : ByteArray) (S R : Int) (hD : (D.size : Int) ≤ 2097152) (w : World) :
    Calls Try.prog 38 #[.agg #[.string D, .int .i64 S, .int .i64 R]] w fun e w' => e = .returned (.tuple #[.agg #[.string (mendR D S R).d, .int .i64 (mendR D S R).s, .int .i64 (mendR D S R).r], .int .i64 (mendR D S R).e]) ∧ Below w.heap.size w w' := by
  have c1 := fun w => check_any D S R w
  unfold chkE at c1
  by_cases hr : rightB D S R = true
  · rw [mendR, if_pos hr]
    rw [if_pos hr] at c1
    obtain ⟨l, rfl, hl⟩ := bytes_of D
    rw [← hl] at hD
    have c2 := fun w => read_any l hD w
    have hg := (readR_spec l).2.2.2.1
    have hright := (right_iff _ _ _).1 hr
    have htk := take_eq l (readR l).2
    dsimp only at *
    generalize (readR l).2 = g at *
    generalize (readR l).1 = ls at *
    have hgi : (g : Int) ≤ (l.length : Int) := by omega
    have h0 : (0 : Int) ≤ (g : Int) := by omega
    have hlen : ((⟨(l.take g).toArray⟩ : ByteArray).size : Int) = (g : Int) := by simp [ByteArray.size]; omega
    have c3 := fun w => swap_any ⟨l.toArray⟩ S R ⟨(l.take g).toArray⟩ w
    unfold Right at hright
    rw [← hl] at hright
    simp only [swapR, if_pos hr, hlen, if_pos (show (g : Int) ≤ R by omega)] at c3
    clear hr hright hl hg hlen
    go_enter Try.func38, Try.ntmps38
    go_wp2_with fail
    refine (c1 _).mono ?_
    rintro e w1 ⟨rfl, hb⟩
    have T := (Two.made w _ _ _ _ _ _ _ _).below hb
    have B : Below w.heap.size w w1 := (((Below.refl _ _).alloc (Nat.le_refl _) _).alloc (by simp) _).trans (hb.mono (by simp <;> omega))
    have TT := T
    obtain ⟨hz, a0, a1, a2, b0, b1, b2, fa0, fa1, fa2, fb0, fb1, fb2⟩ := T
    clear hb c1
    go_wp2_with fail
    refine (c2 _).mono ?_
    rintro e w2 ⟨v, rfl, -, hb⟩
    have T := TT.below hb
    replace B := B.trans (hb.mono B.size)
    clear hz a0 a1 a2 b0 b1 b2 fa0 fa1 fa2 fb0 fb1 fb2 hb TT c2
    have TT := T
    obtain ⟨hz, a0, a1, a2, b0, b1, b2, fa0, fa1, fa2, fb0, fb1, fb2⟩ := T
    go_wp2_with fail
    go_region_held3 (fun w' => w'.cell? ⟨w.heap.size, 0, none⟩ = some (.string ⟨l.toArray⟩) ∧ w'.cell? ⟨w.heap.size, 1, none⟩ = some (.int .i64 S) ∧ w'.cell? ⟨w.heap.size, 2, none⟩ = some (.int .i64 R))
      (go_keep)
      ((go_at_call 65; refine (c3 _).mono ?_; rintro e w3 ⟨rfl, hb⟩; have T := TT.drew.below hb; replace B := B.trans ((Below.refl _ _).drew.trans (hb.mono B.size)); clear hz a0 a1 a2 b0 b1 b2 fa0 fa1 fa2 fb0 fb1 fb2 hb TT c3; obtain ⟨hz, a0, a1, a2, b0, b1, b2, fa0, fa1, fa2, fb0, fb1, fb2⟩ := T))
    go_wp2_with fail
    exact bodyPost_ret (v := .tuple #[.agg #[.string ⟨(l.take g).toArray⟩, .int .i64 (g : Int), .int .i64 R], .int .i64 0]) (by simp [results, Try.results38, go_sem, *]) rfl ⟨rfl, (by repeat (first | exact B | exact Below.refl _ _ | refine Below.drew ?_ | refine Below.setCell ?_ (by simp) _ | refine Below.alloc ?_ (Nat.le_refl _) _ | refine Below.alloc ?_ (by have := B.size; simp <;> omega) _))⟩
  · rw [mendR, if_neg hr]
    rw [if_neg hr] at c1
    clear hr
    go_enter Try.func38, Try.ntmps38
    go_wp2_with fail
    refine (c1 _).mono ?_
    rintro e w1 ⟨rfl, hb⟩
    have T := (Two.made w _ _ _ _ _ _ _ _).below hb
    have B : Below w.heap.size w w1 := (((Below.refl _ _).alloc (Nat.le_refl _) _).alloc (by simp) _).trans (hb.mono (by simp <;> omega))
    have TT := T
    obtain ⟨hz, a0, a1, a2, b0, b1, b2, fa0, fa1, fa2, fb0, fb1, fb2⟩ := T
    clear hb c1
    go_wp2_with fail
    exact bodyPost_ret (v := .tuple #[.agg #[.string ⟨#[]⟩, .int .i64 0, .int .i64 0], .int .i64 2]) (by simp [results, Try.results38, go_sem, *]) rfl ⟨rfl, (by repeat (first | exact B | exact Below.refl _ _ | refine Below.drew ?_ | refine Below.setCell ?_ (by simp) _ | refine Below.alloc ?_ (Nat.le_refl _) _ | refine Below.alloc ?_ (by have := B.size; simp <;> omega) _))⟩

set_option maxHeartbeats 1000000 in
theorem refMend_any (D : ByteArray) (S R : Int) (hD : (D.size : Int) ≤ 2097152) (w : World) :
    Calls Try.prog 39 #[.agg #[.string D, .int .i64 S, .int .i64 R]] w fun e w' => e = .returned (.tuple #[.agg #[.string (mendR D S R).d, .int .i64 (mendR D S R).s, .int .i64 (mendR D S R).r], .int .i64 (mendR D S R).e]) ∧ Below w.heap.size w w' := by
  have c1 := fun w => rcheck_any D S R w
  unfold chkE at c1
  by_cases hr : rightB D S R = true
  · rw [mendR, if_pos hr]
    rw [if_pos hr] at c1
    obtain ⟨l, rfl, hl⟩ := bytes_of D
    rw [← hl] at hD
    have c2 := fun w => refRead_any l hD w
    have hg := (readR_spec l).2.2.2.1
    have hright := (right_iff _ _ _).1 hr
    have htk := take_eq l (readR l).2
    dsimp only at *
    generalize (readR l).2 = g at *
    generalize (readR l).1 = ls at *
    have hgi : (g : Int) ≤ (l.length : Int) := by omega
    have h0 : (0 : Int) ≤ (g : Int) := by omega
    have hlen : ((⟨(l.take g).toArray⟩ : ByteArray).size : Int) = (g : Int) := by simp [ByteArray.size]; omega
    clear hr hright hl hg hlen
    go_enter Try.func39, Try.ntmps39
    go_wp2_with fail
    refine (c1 _).mono ?_
    rintro e w1 ⟨rfl, hb⟩
    have T := (Two.made w _ _ _ _ _ _ _ _).below hb
    have B : Below w.heap.size w w1 := (((Below.refl _ _).alloc (Nat.le_refl _) _).alloc (by simp) _).trans (hb.mono (by simp <;> omega))
    have TT := T
    obtain ⟨hz, a0, a1, a2, b0, b1, b2, fa0, fa1, fa2, fb0, fb1, fb2⟩ := T
    clear hb c1
    go_wp2_with fail
    refine (c2 _).mono ?_
    rintro e w2 ⟨v, rfl, -, hb⟩
    have T := TT.below hb
    replace B := B.trans (hb.mono B.size)
    clear hz a0 a1 a2 b0 b1 b2 fa0 fa1 fa2 fb0 fb1 fb2 hb TT c2
    have TT := T
    obtain ⟨hz, a0, a1, a2, b0, b1, b2, fa0, fa1, fa2, fb0, fb1, fb2⟩ := T
    go_wp2_with fail
    go_region_held3 (fun w' => w'.cell? ⟨w.heap.size, 0, none⟩ = some (.string ⟨l.toArray⟩) ∧ w'.cell? ⟨w.heap.size, 1, none⟩ = some (.int .i64 S) ∧ w'.cell? ⟨w.heap.size, 2, none⟩ = some (.int .i64 R))
      (go_keep)
      (fail)
    go_wp2_with fail
    exact bodyPost_ret (v := .tuple #[.agg #[.string ⟨(l.take g).toArray⟩, .int .i64 (g : Int), .int .i64 R], .int .i64 0]) (by simp [results, Try.results39, go_sem, *]) rfl ⟨rfl, (by repeat (first | exact B | exact Below.refl _ _ | refine Below.drew ?_ | refine Below.setCell ?_ (by simp) _ | refine Below.alloc ?_ (Nat.le_refl _) _ | refine Below.alloc ?_ (by have := B.size; simp <;> omega) _))⟩
  · rw [mendR, if_neg hr]
    rw [if_neg hr] at c1
    clear hr
    go_enter Try.func39, Try.ntmps39
    go_wp2_with fail
    refine (c1 _).mono ?_
    rintro e w1 ⟨rfl, hb⟩
    have T := (Two.made w _ _ _ _ _ _ _ _).below hb
    have B : Below w.heap.size w w1 := (((Below.refl _ _).alloc (Nat.le_refl _) _).alloc (by simp) _).trans (hb.mono (by simp <;> omega))
    have TT := T
    obtain ⟨hz, a0, a1, a2, b0, b1, b2, fa0, fa1, fa2, fb0, fb1, fb2⟩ := T
    clear hb c1
    go_wp2_with fail
    exact bodyPost_ret (v := .tuple #[.agg #[.string ⟨#[]⟩, .int .i64 0, .int .i64 0], .int .i64 2]) (by simp [results, Try.results39, go_sem, *]) rfl ⟨rfl, (by repeat (first | exact B | exact Below.refl _ _ | refine Below.drew ?_ | refine Below.setCell ?_ (by simp) _ | refine Below.alloc ?_ (Nat.le_refl _) _ | refine Below.alloc ?_ (by have := B.size; simp <;> omega) _))⟩
end Jrn
end Go.Proofs.Ytjfibmlpjcncmaa
