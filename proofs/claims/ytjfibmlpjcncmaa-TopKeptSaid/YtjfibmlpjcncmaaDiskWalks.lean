/- The walks of package disk and of its reference: what each function returns, by contracts. A disk is its three fields' values: D, S, R. -/
import Derived.Test.YtjfibmlpjcncmaaBytes
import Derived.Outline
import Derived.Lib.Hide
import Derived.Lib.Strings
import Derived.Deep.DeepFit
namespace Go.Proofs.Ytjfibmlpjcncmaa
open Go.RowKit
set_option linter.unusedVariables false
set_option maxRecDepth 4000
namespace Disk

/-- a disk is right -/
def Right (D : ByteArray) (S R : Int) : Prop := 0 ≤ S ∧ S ≤ (D.size : Int) ∧ (D.size : Int) ≤ R ∧ R ≤ 1048576

/-- two new blocks of three cells each, none of them frozen -/
structure Two (n : Nat) (w : World) (a b c d e f : Value) : Prop where
  size : n + 1 < w.heap.size
  a0 : w.cell? ⟨n, 0, none⟩ = some a
  a1 : w.cell? ⟨n, 1, none⟩ = some b
  a2 : w.cell? ⟨n, 2, none⟩ = some c
  b0 : w.cell? ⟨n + 1, 0, none⟩ = some d
  b1 : w.cell? ⟨n + 1, 1, none⟩ = some e
  b2 : w.cell? ⟨n + 1, 2, none⟩ = some f
  fa0 : w.frozen? ⟨n, 0, none⟩ = false
  fa1 : w.frozen? ⟨n, 1, none⟩ = false
  fa2 : w.frozen? ⟨n, 2, none⟩ = false
  fb0 : w.frozen? ⟨n + 1, 0, none⟩ = false
  fb1 : w.frozen? ⟨n + 1, 1, none⟩ = false
  fb2 : w.frozen? ⟨n + 1, 2, none⟩ = false

theorem Two.made (w : World) (a b c d e f : Value) (t1 t2 : TypeId) : Two w.heap.size ((w.alloc (.cells #[a, b, c] t1)).alloc (.cells #[d, e, f] t2)) a b c d e f := by
  have h1 := fun j => World.cell?_alloc_lt (w.alloc (.cells #[a, b, c] t1)) (.cells #[d, e, f] t2) ⟨w.heap.size, j, none⟩ (by simp)
  have g1 : ∀ j, (w.alloc (.cells #[a, b, c] t1)).cell? ⟨w.heap.size, j, none⟩ = #[a, b, c][j]? := fun j => World.cell?_alloc_mark w _ t1 (0, 0) j
  have h2 : ∀ j, ((w.alloc (.cells #[a, b, c] t1)).alloc (.cells #[d, e, f] t2)).cell? ⟨w.heap.size + 1, j, none⟩ = #[d, e, f][j]? := fun j => by
    have := World.cell?_alloc_mark (w.alloc (.cells #[a, b, c] t1)) #[d, e, f] t2 (0, 0) j
    rw [World.size_alloc] at this
    exact this
  have k1 : ∀ j, ((w.alloc (.cells #[a, b, c] t1)).alloc (.cells #[d, e, f] t2)).frozen? ⟨w.heap.size, j, none⟩ = false := fun j => by
    have hb : Below (w.alloc (.cells #[a, b, c] t1)).heap.size (w.alloc (.cells #[a, b, c] t1)) ((w.alloc (.cells #[a, b, c] t1)).alloc (.cells #[d, e, f] t2)) := (Below.refl _ _).alloc (Nat.le_refl _) _
    rw [hb.frozen (p := ⟨w.heap.size, j, none⟩) (by simp)]
    exact (World.frozen?_alloc_mark w _ t1 0 0 j).trans (by simp)
  have k2 : ∀ j, ((w.alloc (.cells #[a, b, c] t1)).alloc (.cells #[d, e, f] t2)).frozen? ⟨w.heap.size + 1, j, none⟩ = false := fun j => by
    have := World.frozen?_alloc_mark (w.alloc (.cells #[a, b, c] t1)) #[d, e, f] t2 0 0 j
    rw [World.size_alloc] at this
    exact this.trans (by simp)
  exact ⟨by simp, (h1 0).trans (g1 0), (h1 1).trans (g1 1), (h1 2).trans (g1 2), h2 0, h2 1, h2 2, k1 0, k1 1, k1 2, k2 0, k2 1, k2 2⟩

theorem Two.below {n : Nat} {w w' : World} {a b c d e f : Value} (h : Two n w a b c d e f) (hb : Below w.heap.size w w') : Two n w' a b c d e f := by
  have s := h.size
  have c1 := fun j => hb.cell (p := ⟨n, j, none⟩) (by show n < _; omega)
  have c2 := fun j => hb.cell (p := ⟨n + 1, j, none⟩) (by show n + 1 < _; omega)
  have f1 := fun j => hb.frozen (p := ⟨n, j, none⟩) (by show n < _; omega)
  have f2 := fun j => hb.frozen (p := ⟨n + 1, j, none⟩) (by show n + 1 < _; omega)
  exact ⟨Nat.lt_of_lt_of_le s hb.size, (c1 0).trans h.a0, (c1 1).trans h.a1, (c1 2).trans h.a2, (c2 0).trans h.b0, (c2 1).trans h.b1, (c2 2).trans h.b2,
    (f1 0).trans h.fa0, (f1 1).trans h.fa1, (f1 2).trans h.fa2, (f2 0).trans h.fb0, (f2 1).trans h.fb1, (f2 2).trans h.fb2⟩

set_option maxHeartbeats 400000 in
theorem check_ok (D : ByteArray) (S R : Int) (h : Right D S R) (w : World) :
    Calls Try.prog 62 #[.agg #[.string D, .int .i64 S, .int .i64 R]] w fun e w' => e = .returned (.int .i64 0) ∧ Below w.heap.size w w' := by
  obtain ⟨h1, h2, h3, h4⟩ := h
  · skip
    go_enter Try.func62, Try.ntmps62
    go_wp2
    go_ret
    exact ⟨rfl, (Below.refl _ _).alloc (Nat.le_refl _) _⟩

set_option maxHeartbeats 400000 in
theorem check_bad (D : ByteArray) (S R : Int) (h : ¬ Right D S R) (w : World) :
    Calls Try.prog 62 #[.agg #[.string D, .int .i64 S, .int .i64 R]] w fun e w' => e = .returned (.int .i64 2) ∧ Below w.heap.size w w' := by
  have hh : S < 0 ∨ (¬ S < 0 ∧ (D.size : Int) < S) ∨ (¬ S < 0 ∧ ¬ (D.size : Int) < S ∧ R < (D.size : Int)) ∨ (¬ S < 0 ∧ ¬ (D.size : Int) < S ∧ ¬ R < (D.size : Int) ∧ 1048576 < R) := by
    unfold Right at h; omega
  clear h
  rcases hh with h1 | ⟨h1, h2⟩ | ⟨h1, h2, h3⟩ | ⟨h1, h2, h3, h4⟩
  · skip
    go_enter Try.func62, Try.ntmps62
    go_wp2
    go_ret
    exact ⟨rfl, (Below.refl _ _).alloc (Nat.le_refl _) _⟩
  · skip
    go_enter Try.func62, Try.ntmps62
    go_wp2
    go_ret
    exact ⟨rfl, (Below.refl _ _).alloc (Nat.le_refl _) _⟩
  · skip
    go_enter Try.func62, Try.ntmps62
    go_wp2
    go_ret
    exact ⟨rfl, (Below.refl _ _).alloc (Nat.le_refl _) _⟩
  · skip
    go_enter Try.func62, Try.ntmps62
    go_wp2
    go_ret
    exact ⟨rfl, (Below.refl _ _).alloc (Nat.le_refl _) _⟩

set_option maxHeartbeats 400000 in
theorem rcheck_ok (D : ByteArray) (S R : Int) (h : Right D S R) (w : World) :
    Calls Try.prog 63 #[.agg #[.string D, .int .i64 S, .int .i64 R]] w fun e w' => e = .returned (.int .i64 0) ∧ Below w.heap.size w w' := by
  obtain ⟨h1, h2, h3, h4⟩ := h
  · skip
    go_enter Try.func63, Try.ntmps63
    go_wp2
    go_ret
    exact ⟨rfl, (Below.refl _ _).alloc (Nat.le_refl _) _⟩

set_option maxHeartbeats 400000 in
theorem rcheck_bad (D : ByteArray) (S R : Int) (h : ¬ Right D S R) (w : World) :
    Calls Try.prog 63 #[.agg #[.string D, .int .i64 S, .int .i64 R]] w fun e w' => e = .returned (.int .i64 2) ∧ Below w.heap.size w w' := by
  have hh : S < 0 ∨ (¬ S < 0 ∧ (D.size : Int) < S) ∨ (¬ S < 0 ∧ ¬ (D.size : Int) < S ∧ R < (D.size : Int)) ∨ (¬ S < 0 ∧ ¬ (D.size : Int) < S ∧ ¬ R < (D.size : Int) ∧ 1048576 < R) := by
    unfold Right at h; omega
  clear h
  rcases hh with h1 | ⟨h1, h2⟩ | ⟨h1, h2, h3⟩ | ⟨h1, h2, h3, h4⟩
  · skip
    go_enter Try.func63, Try.ntmps63
    go_wp2
    go_ret
    exact ⟨rfl, (Below.refl _ _).alloc (Nat.le_refl _) _⟩
  · skip
    go_enter Try.func63, Try.ntmps63
    go_wp2
    go_ret
    exact ⟨rfl, (Below.refl _ _).alloc (Nat.le_refl _) _⟩
  · skip
    go_enter Try.func63, Try.ntmps63
    go_wp2
    go_ret
    exact ⟨rfl, (Below.refl _ _).alloc (Nat.le_refl _) _⟩
  · skip
    go_enter Try.func63, Try.ntmps63
    go_wp2
    go_ret
    exact ⟨rfl, (Below.refl _ _).alloc (Nat.le_refl _) _⟩

set_option maxHeartbeats 400000 in
theorem whole_any (s : ByteArray) (R : Int) (w : World) :
    Calls Try.prog 66 #[.string s, .int .i64 R] w fun e w' => e = .returned (.agg #[.string s, .int .i64 (s.size : Int), .int .i64 R]) ∧ Below w.heap.size w w' := by
  go_enter Try.func66, Try.ntmps66
  go_wp2_with fail
  exact bodyPost_ret (v := .agg #[.string s, .int .i64 (s.size : Int), .int .i64 R]) (by first | simp [results, Try.results66, go_sem]) rfl ⟨rfl, (Below.refl _ _).alloc (Nat.le_refl _) _⟩

set_option maxHeartbeats 400000 in
theorem write_bad (D : ByteArray) (S R : Int) (s : ByteArray) (h : ¬ Right D S R) (w : World) :
    Calls Try.prog 58 #[.agg #[.string D, .int .i64 S, .int .i64 R], .string s] w fun e w' => e = .returned (.tuple #[.agg #[.string ⟨#[]⟩, .int .i64 0, .int .i64 0], .int .i64 2]) ∧ Below w.heap.size w w' := by
  have H := Lib.hid h
  clear h
  go_enter Try.func58, Try.ntmps58
  go_wp2_with fail
  refine (check_bad D S R H.out _).mono ?_
  rintro e w1 ⟨rfl, hb⟩
  have T := (Two.made w _ _ _ _ _ _ _ _).below hb
  have hb1 : Below w.heap.size w w1 := (((Below.refl _ _).alloc (Nat.le_refl _) _).alloc (by simp) _).trans (hb.mono (by simp <;> omega))
  obtain ⟨hz, a0, a1, a2, b0, b1, b2, fa0, fa1, fa2, fb0, fb1, fb2⟩ := T
  go_wp2_with fail
  exact bodyPost_ret (v := .tuple #[.agg #[.string ⟨#[]⟩, .int .i64 0, .int .i64 0], .int .i64 2]) (by simp [results, Try.results58, go_sem, *]) rfl ⟨rfl, (by repeat (first | exact hb1 | exact Below.refl _ _ | refine Below.setCell ?_ (by simp) _ | refine Below.alloc ?_ (Nat.le_refl _) _ | refine Below.alloc ?_ (by have := hb1.size; simp <;> omega) _))⟩

set_option maxHeartbeats 400000 in
theorem write_full (D : ByteArray) (S R : Int) (s : ByteArray) (h : Right D S R) (hl : R - (D.size : Int) < (s.size : Int)) (w : World) :
    Calls Try.prog 58 #[.agg #[.string D, .int .i64 S, .int .i64 R], .string s] w fun e w' => e = .returned (.tuple #[.agg #[.string D, .int .i64 S, .int .i64 R], .int .i64 8]) ∧ Below w.heap.size w w' := by
  have H := Lib.hid h
  obtain ⟨h1, h2, h3, h4⟩ := h
  go_enter Try.func58, Try.ntmps58
  go_wp2_with fail
  refine (check_ok D S R H.out _).mono ?_
  rintro e w1 ⟨rfl, hb⟩
  have T := (Two.made w _ _ _ _ _ _ _ _).below hb
  have hb1 : Below w.heap.size w w1 := (((Below.refl _ _).alloc (Nat.le_refl _) _).alloc (by simp) _).trans (hb.mono (by simp <;> omega))
  obtain ⟨hz, a0, a1, a2, b0, b1, b2, fa0, fa1, fa2, fb0, fb1, fb2⟩ := T
  go_wp2_with fail
  exact bodyPost_ret (v := .tuple #[.agg #[.string D, .int .i64 S, .int .i64 R], .int .i64 8]) (by simp [results, Try.results58, go_sem, *]) rfl ⟨rfl, (by repeat (first | exact hb1 | exact Below.refl _ _ | refine Below.setCell ?_ (by simp) _ | refine Below.alloc ?_ (Nat.le_refl _) _ | refine Below.alloc ?_ (by have := hb1.size; simp <;> omega) _))⟩

set_option maxHeartbeats 400000 in
theorem write_ok (D : ByteArray) (S R : Int) (s : ByteArray) (h : Right D S R) (hl : (s.size : Int) ≤ R - (D.size : Int)) (w : World) :
    Calls Try.prog 58 #[.agg #[.string D, .int .i64 S, .int .i64 R], .string s] w fun e w' => e = .returned (.tuple #[.agg #[.string (D ++ s), .int .i64 S, .int .i64 R], .int .i64 0]) ∧ Below w.heap.size w w' := by
  have H := Lib.hid h
  obtain ⟨h1, h2, h3, h4⟩ := h
  go_enter Try.func58, Try.ntmps58
  go_wp2_with fail
  refine (check_ok D S R H.out _).mono ?_
  rintro e w1 ⟨rfl, hb⟩
  have T := (Two.made w _ _ _ _ _ _ _ _).below hb
  have hb1 : Below w.heap.size w w1 := (((Below.refl _ _).alloc (Nat.le_refl _) _).alloc (by simp) _).trans (hb.mono (by simp <;> omega))
  obtain ⟨hz, a0, a1, a2, b0, b1, b2, fa0, fa1, fa2, fb0, fb1, fb2⟩ := T
  go_wp2_with fail
  exact bodyPost_ret (v := .tuple #[.agg #[.string (D ++ s), .int .i64 S, .int .i64 R], .int .i64 0]) (by simp [results, Try.results58, go_sem, *]) rfl ⟨rfl, (by repeat (first | exact hb1 | exact Below.refl _ _ | refine Below.setCell ?_ (by simp) _ | refine Below.alloc ?_ (Nat.le_refl _) _ | refine Below.alloc ?_ (by have := hb1.size; simp <;> omega) _))⟩

set_option maxHeartbeats 400000 in
theorem sync_bad (D : ByteArray) (S R : Int) (h : ¬ Right D S R) (w : World) :
    Calls Try.prog 41 #[.agg #[.string D, .int .i64 S, .int .i64 R]] w fun e w' => e = .returned (.tuple #[.agg #[.string ⟨#[]⟩, .int .i64 0, .int .i64 0], .int .i64 2]) ∧ Below w.heap.size w w' := by
  have H := Lib.hid h
  clear h
  go_enter Try.func41, Try.ntmps41
  go_wp2_with fail
  refine (check_bad D S R H.out _).mono ?_
  rintro e w1 ⟨rfl, hb⟩
  have T := (Two.made w _ _ _ _ _ _ _ _).below hb
  have hb1 : Below w.heap.size w w1 := (((Below.refl _ _).alloc (Nat.le_refl _) _).alloc (by simp) _).trans (hb.mono (by simp <;> omega))
  obtain ⟨hz, a0, a1, a2, b0, b1, b2, fa0, fa1, fa2, fb0, fb1, fb2⟩ := T
  go_wp2_with fail
  exact bodyPost_ret (v := .tuple #[.agg #[.string ⟨#[]⟩, .int .i64 0, .int .i64 0], .int .i64 2]) (by simp [results, Try.results41, go_sem, *]) rfl ⟨rfl, (by repeat (first | exact hb1 | exact Below.refl _ _ | refine Below.setCell ?_ (by simp) _ | refine Below.alloc ?_ (Nat.le_refl _) _ | refine Below.alloc ?_ (by have := hb1.size; simp <;> omega) _))⟩

set_option maxHeartbeats 400000 in
theorem sync_ok (D : ByteArray) (S R : Int) (h : Right D S R) (w : World) :
    Calls Try.prog 41 #[.agg #[.string D, .int .i64 S, .int .i64 R]] w fun e w' => e = .returned (.tuple #[.agg #[.string D, .int .i64 (D.size : Int), .int .i64 R], .int .i64 0]) ∧ Below w.heap.size w w' := by
  have H := Lib.hid h
  obtain ⟨h1, h2, h3, h4⟩ := h
  go_enter Try.func41, Try.ntmps41
  go_wp2_with fail
  refine (check_ok D S R H.out _).mono ?_
  rintro e w1 ⟨rfl, hb⟩
  have T := (Two.made w _ _ _ _ _ _ _ _).below hb
  have hb1 : Below w.heap.size w w1 := (((Below.refl _ _).alloc (Nat.le_refl _) _).alloc (by simp) _).trans (hb.mono (by simp <;> omega))
  obtain ⟨hz, a0, a1, a2, b0, b1, b2, fa0, fa1, fa2, fb0, fb1, fb2⟩ := T
  go_wp2_with fail
  refine (whole_any _ _ _).mono ?_
  rintro e w2 ⟨rfl, hb2⟩
  have T := (Two.mk hz a0 a1 a2 b0 b1 b2 fa0 fa1 fa2 fb0 fb1 fb2).below hb2
  have hb1' := hb1
  replace hb1 : Below w.heap.size w w2 := hb1.trans (hb2.mono hb1'.size)
  clear hb1' hz a0 a1 a2 b0 b1 b2 fa0 fa1 fa2 fb0 fb1 fb2
  obtain ⟨hz, a0, a1, a2, b0, b1, b2, fa0, fa1, fa2, fb0, fb1, fb2⟩ := T
  go_wp2_with fail
  exact bodyPost_ret (v := .tuple #[.agg #[.string D, .int .i64 (D.size : Int), .int .i64 R], .int .i64 0]) (by simp [results, Try.results41, go_sem, *]) rfl ⟨rfl, (by repeat (first | exact hb1 | exact Below.refl _ _ | refine Below.setCell ?_ (by simp) _ | refine Below.alloc ?_ (Nat.le_refl _) _ | refine Below.alloc ?_ (by have := hb1.size; simp <;> omega) _))⟩

set_option maxHeartbeats 400000 in
theorem swap_bad (D : ByteArray) (S R : Int) (s : ByteArray) (h : ¬ Right D S R) (w : World) :
    Calls Try.prog 65 #[.agg #[.string D, .int .i64 S, .int .i64 R], .string s] w fun e w' => e = .returned (.tuple #[.agg #[.string ⟨#[]⟩, .int .i64 0, .int .i64 0], .int .i64 2]) ∧ Below w.heap.size w w' := by
  have H := Lib.hid h
  clear h
  go_enter Try.func65, Try.ntmps65
  go_wp2_with fail
  refine (check_bad D S R H.out _).mono ?_
  rintro e w1 ⟨rfl, hb⟩
  have T := (Two.made w _ _ _ _ _ _ _ _).below hb
  have hb1 : Below w.heap.size w w1 := (((Below.refl _ _).alloc (Nat.le_refl _) _).alloc (by simp) _).trans (hb.mono (by simp <;> omega))
  obtain ⟨hz, a0, a1, a2, b0, b1, b2, fa0, fa1, fa2, fb0, fb1, fb2⟩ := T
  go_wp2_with fail
  exact bodyPost_ret (v := .tuple #[.agg #[.string ⟨#[]⟩, .int .i64 0, .int .i64 0], .int .i64 2]) (by simp [results, Try.results65, go_sem, *]) rfl ⟨rfl, (by repeat (first | exact hb1 | exact Below.refl _ _ | refine Below.setCell ?_ (by simp) _ | refine Below.alloc ?_ (Nat.le_refl _) _ | refine Below.alloc ?_ (by have := hb1.size; simp <;> omega) _))⟩

set_option maxHeartbeats 400000 in
theorem swap_full (D : ByteArray) (S R : Int) (s : ByteArray) (h : Right D S R) (hl : R < (s.size : Int)) (w : World) :
    Calls Try.prog 65 #[.agg #[.string D, .int .i64 S, .int .i64 R], .string s] w fun e w' => e = .returned (.tuple #[.agg #[.string D, .int .i64 S, .int .i64 R], .int .i64 8]) ∧ Below w.heap.size w w' := by
  have H := Lib.hid h
  obtain ⟨h1, h2, h3, h4⟩ := h
  go_enter Try.func65, Try.ntmps65
  go_wp2_with fail
  refine (check_ok D S R H.out _).mono ?_
  rintro e w1 ⟨rfl, hb⟩
  have T := (Two.made w _ _ _ _ _ _ _ _).below hb
  have hb1 : Below w.heap.size w w1 := (((Below.refl _ _).alloc (Nat.le_refl _) _).alloc (by simp) _).trans (hb.mono (by simp <;> omega))
  obtain ⟨hz, a0, a1, a2, b0, b1, b2, fa0, fa1, fa2, fb0, fb1, fb2⟩ := T
  go_wp2_with fail
  exact bodyPost_ret (v := .tuple #[.agg #[.string D, .int .i64 S, .int .i64 R], .int .i64 8]) (by simp [results, Try.results65, go_sem, *]) rfl ⟨rfl, (by repeat (first | exact hb1 | exact Below.refl _ _ | refine Below.setCell ?_ (by simp) _ | refine Below.alloc ?_ (Nat.le_refl _) _ | refine Below.alloc ?_ (by have := hb1.size; simp <;> omega) _))⟩

set_option maxHeartbeats 400000 in
theorem swap_ok (D : ByteArray) (S R : Int) (s : ByteArray) (h : Right D S R) (hl : (s.size : Int) ≤ R) (w : World) :
    Calls Try.prog 65 #[.agg #[.string D, .int .i64 S, .int .i64 R], .string s] w fun e w' => e = .returned (.tuple #[.agg #[.string s, .int .i64 (s.size : Int), .int .i64 R], .int .i64 0]) ∧ Below w.heap.size w w' := by
  have H := Lib.hid h
  obtain ⟨h1, h2, h3, h4⟩ := h
  go_enter Try.func65, Try.ntmps65
  go_wp2_with fail
  refine (check_ok D S R H.out _).mono ?_
  rintro e w1 ⟨rfl, hb⟩
  have T := (Two.made w _ _ _ _ _ _ _ _).below hb
  have hb1 : Below w.heap.size w w1 := (((Below.refl _ _).alloc (Nat.le_refl _) _).alloc (by simp) _).trans (hb.mono (by simp <;> omega))
  obtain ⟨hz, a0, a1, a2, b0, b1, b2, fa0, fa1, fa2, fb0, fb1, fb2⟩ := T
  go_wp2_with fail
  refine (whole_any _ _ _).mono ?_
  rintro e w2 ⟨rfl, hb2⟩
  have T := (Two.mk hz a0 a1 a2 b0 b1 b2 fa0 fa1 fa2 fb0 fb1 fb2).below hb2
  have hb1' := hb1
  replace hb1 : Below w.heap.size w w2 := hb1.trans (hb2.mono hb1'.size)
  clear hb1' hz a0 a1 a2 b0 b1 b2 fa0 fa1 fa2 fb0 fb1 fb2
  obtain ⟨hz, a0, a1, a2, b0, b1, b2, fa0, fa1, fa2, fb0, fb1, fb2⟩ := T
  go_wp2_with fail
  exact bodyPost_ret (v := .tuple #[.agg #[.string s, .int .i64 (s.size : Int), .int .i64 R], .int .i64 0]) (by simp [results, Try.results65, go_sem, *]) rfl ⟨rfl, (by repeat (first | exact hb1 | exact Below.refl _ _ | refine Below.setCell ?_ (by simp) _ | refine Below.alloc ?_ (Nat.le_refl _) _ | refine Below.alloc ?_ (by have := hb1.size; simp <;> omega) _))⟩

set_option maxHeartbeats 400000 in
theorem new_bad (R : Int) (h : R < 0 ∨ (¬ R < 0 ∧ 1048576 < R)) (w : World) :
    Calls Try.prog 40 #[.int .i64 R] w fun e w' => e = .returned (.tuple #[.agg #[.string ⟨#[]⟩, .int .i64 0, .int .i64 0], .int .i64 1]) ∧ Below w.heap.size w w' := by
  rcases h with h | ⟨h, h2⟩
  · go_enter Try.func40, Try.ntmps40
    go_wp2_with fail
    exact bodyPost_ret (v := .tuple #[.agg #[.string ⟨#[]⟩, .int .i64 0, .int .i64 0], .int .i64 1]) (by first | simp [results, Try.results40, go_sem]) rfl ⟨rfl, (Below.refl _ _).alloc (Nat.le_refl _) _⟩
  · go_enter Try.func40, Try.ntmps40
    go_wp2_with fail
    exact bodyPost_ret (v := .tuple #[.agg #[.string ⟨#[]⟩, .int .i64 0, .int .i64 0], .int .i64 1]) (by first | simp [results, Try.results40, go_sem]) rfl ⟨rfl, (Below.refl _ _).alloc (Nat.le_refl _) _⟩

set_option maxHeartbeats 400000 in
theorem new_ok (R : Int) (h : 0 ≤ R ∧ R ≤ 1048576) (w : World) :
    Calls Try.prog 40 #[.int .i64 R] w fun e w' => e = .returned (.tuple #[.agg #[.string ⟨#[]⟩, .int .i64 0, .int .i64 R], .int .i64 0]) ∧ Below w.heap.size w w' := by
  obtain ⟨h1, h2⟩ := h
  · go_enter Try.func40, Try.ntmps40
    go_wp2_with fail
    exact bodyPost_ret (v := .tuple #[.agg #[.string ⟨#[]⟩, .int .i64 0, .int .i64 R], .int .i64 0]) (by first | simp [results, Try.results40, go_sem]) rfl ⟨rfl, (Below.refl _ _).alloc (Nat.le_refl _) _⟩

set_option maxHeartbeats 400000 in
theorem fail_bad (D : ByteArray) (S R : Int) (k bits : Int) (h : ¬ Right D S R) (w : World) :
    Calls Try.prog 42 #[.agg #[.string D, .int .i64 S, .int .i64 R], .int .i64 k, .int .u8 bits] w fun e w' => e = .returned (.tuple #[.agg #[.string ⟨#[]⟩, .int .i64 0, .int .i64 0], .int .i64 2]) ∧ Below w.heap.size w w' := by
  have H := Lib.hid h
  clear h
  go_enter Try.func42, Try.ntmps42
  go_wp2_with fail
  refine (check_bad D S R H.out _).mono ?_
  rintro e w1 ⟨rfl, hb⟩
  have T := (Two.made w _ _ _ _ _ _ _ _).below hb
  have hb1 : Below w.heap.size w w1 := (((Below.refl _ _).alloc (Nat.le_refl _) _).alloc (by simp) _).trans (hb.mono (by simp <;> omega))
  obtain ⟨hz, a0, a1, a2, b0, b1, b2, fa0, fa1, fa2, fb0, fb1, fb2⟩ := T
  go_wp2_with fail
  exact bodyPost_ret (v := .tuple #[.agg #[.string ⟨#[]⟩, .int .i64 0, .int .i64 0], .int .i64 2]) (by simp [results, Try.results42, go_sem, *]) rfl ⟨rfl, (by repeat (first | exact hb1 | exact Below.refl _ _ | refine Below.setCell ?_ (by simp) _ | refine Below.alloc ?_ (Nat.le_refl _) _ | refine Below.alloc ?_ (by have := hb1.size; simp <;> omega) _))⟩

set_option maxHeartbeats 400000 in
theorem rwrite_bad (D : ByteArray) (S R : Int) (s : ByteArray) (h : ¬ Right D S R) (w : World) :
    Calls Try.prog 64 #[.agg #[.string D, .int .i64 S, .int .i64 R], .string s] w fun e w' => e = .returned (.tuple #[.agg #[.string ⟨#[]⟩, .int .i64 0, .int .i64 0], .int .i64 2]) ∧ Below w.heap.size w w' := by
  have H := Lib.hid h
  clear h
  go_enter Try.func64, Try.ntmps64
  go_wp2_with fail
  refine (rcheck_bad D S R H.out _).mono ?_
  rintro e w1 ⟨rfl, hb⟩
  have T := (Two.made w _ _ _ _ _ _ _ _).below hb
  have hb1 : Below w.heap.size w w1 := (((Below.refl _ _).alloc (Nat.le_refl _) _).alloc (by simp) _).trans (hb.mono (by simp <;> omega))
  obtain ⟨hz, a0, a1, a2, b0, b1, b2, fa0, fa1, fa2, fb0, fb1, fb2⟩ := T
  go_wp2_with fail
  exact bodyPost_ret (v := .tuple #[.agg #[.string ⟨#[]⟩, .int .i64 0, .int .i64 0], .int .i64 2]) (by simp [results, Try.results64, go_sem, *]) rfl ⟨rfl, (by repeat (first | exact hb1 | exact Below.refl _ _ | refine Below.setCell ?_ (by simp) _ | refine Below.alloc ?_ (Nat.le_refl _) _ | refine Below.alloc ?_ (by have := hb1.size; simp <;> omega) _))⟩

set_option maxHeartbeats 400000 in
theorem rwrite_full (D : ByteArray) (S R : Int) (s : ByteArray) (h : Right D S R) (hl : R - (D.size : Int) < (s.size : Int)) (w : World) :
    Calls Try.prog 64 #[.agg #[.string D, .int .i64 S, .int .i64 R], .string s] w fun e w' => e = .returned (.tuple #[.agg #[.string D, .int .i64 S, .int .i64 R], .int .i64 8]) ∧ Below w.heap.size w w' := by
  have H := Lib.hid h
  obtain ⟨h1, h2, h3, h4⟩ := h
  go_enter Try.func64, Try.ntmps64
  go_wp2_with fail
  refine (rcheck_ok D S R H.out _).mono ?_
  rintro e w1 ⟨rfl, hb⟩
  have T := (Two.made w _ _ _ _ _ _ _ _).below hb
  have hb1 : Below w.heap.size w w1 := (((Below.refl _ _).alloc (Nat.le_refl _) _).alloc (by simp) _).trans (hb.mono (by simp <;> omega))
  obtain ⟨hz, a0, a1, a2, b0, b1, b2, fa0, fa1, fa2, fb0, fb1, fb2⟩ := T
  go_wp2_with fail
  exact bodyPost_ret (v := .tuple #[.agg #[.string D, .int .i64 S, .int .i64 R], .int .i64 8]) (by simp [results, Try.results64, go_sem, *]) rfl ⟨rfl, (by repeat (first | exact hb1 | exact Below.refl _ _ | refine Below.setCell ?_ (by simp) _ | refine Below.alloc ?_ (Nat.le_refl _) _ | refine Below.alloc ?_ (by have := hb1.size; simp <;> omega) _))⟩

set_option maxHeartbeats 400000 in
theorem rwrite_ok (D : ByteArray) (S R : Int) (s : ByteArray) (h : Right D S R) (hl : (s.size : Int) ≤ R - (D.size : Int)) (w : World) :
    Calls Try.prog 64 #[.agg #[.string D, .int .i64 S, .int .i64 R], .string s] w fun e w' => e = .returned (.tuple #[.agg #[.string (D ++ s), .int .i64 S, .int .i64 R], .int .i64 0]) ∧ Below w.heap.size w w' := by
  have H := Lib.hid h
  obtain ⟨h1, h2, h3, h4⟩ := h
  go_enter Try.func64, Try.ntmps64
  go_wp2_with fail
  refine (rcheck_ok D S R H.out _).mono ?_
  rintro e w1 ⟨rfl, hb⟩
  have T := (Two.made w _ _ _ _ _ _ _ _).below hb
  have hb1 : Below w.heap.size w w1 := (((Below.refl _ _).alloc (Nat.le_refl _) _).alloc (by simp) _).trans (hb.mono (by simp <;> omega))
  obtain ⟨hz, a0, a1, a2, b0, b1, b2, fa0, fa1, fa2, fb0, fb1, fb2⟩ := T
  go_wp2_with fail
  exact bodyPost_ret (v := .tuple #[.agg #[.string (D ++ s), .int .i64 S, .int .i64 R], .int .i64 0]) (by simp [results, Try.results64, go_sem, *]) rfl ⟨rfl, (by repeat (first | exact hb1 | exact Below.refl _ _ | refine Below.setCell ?_ (by simp) _ | refine Below.alloc ?_ (Nat.le_refl _) _ | refine Below.alloc ?_ (by have := hb1.size; simp <;> omega) _))⟩

end Disk
end Go.Proofs.Ytjfibmlpjcncmaa
