/- The walks of package store's records and puts, and of the document's. -/
import Derived.Test.YtjfibmlpjcncmaaStoBuilder
import Derived.Test.YtjfibmlpjcncmaaJrnLives
namespace Go.Proofs.Ytjfibmlpjcncmaa
open Go.RowKit
set_option linter.unusedVariables false
set_option linter.unusedSimpArgs false
set_option maxRecDepth 4000
namespace Sto
open Oct Crc Disk Jrn

/-- an entry's record; a count's -/
def entR (e : List UInt8) : List UInt8 × Nat := listR [[101], e]
def cntR (n : Int) : List UInt8 × Nat := if n < 0 ∨ 1048576 < n then ([], 1) else listR [[99], putL n.toNat]
/-- a record is put, if it is one -/
def recR (D : ByteArray) (S R : Int) (r : List UInt8 × Nat) : Res := if r.2 ≠ 0 then ⟨D, S, R, r.2⟩ else addR D S R r.1

theorem two_row (w : World) (a c : List UInt8) (t : TypeId) {n : Nat} (hn : n = w.heap.size) : StrRow (w.alloc (.cells #[.string ⟨a.toArray⟩, .string ⟨c.toArray⟩] t)) (.slice (some ⟨n, 0, none⟩) 2 2) [a, c] := by
  subst hn
  refine .inr ⟨w.heap.size, 0, 2, rfl, by simp, fun j hj => ?_⟩
  have : j = 0 ∨ j = 1 := by simp at hj; omega
  rcases this with rfl | rfl
  · exact World.cell?_alloc_mark w _ t (0, 0) 0
  · exact World.cell?_alloc_mark w _ t (0, 0) 1

set_option maxHeartbeats 1000000 in
theorem number_any (n : Int) (w : World) :
    Calls Try.prog 69 #[.int .i64 n] w fun e w' => e = .returned (.tuple #[.string ⟨(cntR n).1.toArray⟩, .int .i64 ((cntR n).2 : Int)]) ∧ Below w.heap.size w w' := by
  unfold cntR
  by_cases h : n < 0 ∨ 1048576 < n
  · rw [if_pos h]
    rcases h with h | h
    · go_enter Try.func69, Try.ntmps69
      go_wp2_with fail
      go_ret2
      exact ⟨rfl, Below.refl _ _⟩
    · by_cases h0 : n < 0
      · omega
      · go_enter Try.func69, Try.ntmps69
        go_wp2_with fail
        go_ret2
        exact ⟨rfl, Below.refl _ _⟩
  · rw [if_neg h]
    obtain ⟨m, rfl⟩ : ∃ m : Nat, n = (m : Int) := ⟨n.toNat, by omega⟩
    have hm : (m : Int) ≤ 1048576 := by omega
    have c1 := fun w => num_ok m (by omega) w
    rw [show ((m : Int).toNat) = m from rfl]
    clear h
    generalize putL m = x at *
    have c2 := fun v w h => list_any v [[99], x] w h
    generalize listR [[99], x] = r at *
    go_enter Try.func69, Try.ntmps69
    go_wp2_with fail
    refine (c1 _).mono ?_
    rintro e w1 ⟨rfl, B⟩
    go_wp2_with fail
    refine (c2 _ _ (two_row w1 [99] x _ rfl)).mono ?_
    rintro e w2 ⟨rfl, hb⟩
    replace B := (B.alloc B.size _).trans (hb.mono (by have := B.size; simp; omega))
    go_wp2_with fail
    go_ret2
    exact ⟨rfl, B⟩

set_option maxHeartbeats 1000000 in
theorem refCount_any (n : Int) (w : World) :
    Calls Try.prog 70 #[.int .i64 n] w fun e w' => e = .returned (.tuple #[.string ⟨(cntR n).1.toArray⟩, .int .i64 ((cntR n).2 : Int)]) ∧ Below w.heap.size w w' := by
  unfold cntR
  by_cases h : n < 0 ∨ 1048576 < n
  · rw [if_pos h]
    rcases h with h | h
    · go_enter Try.func70, Try.ntmps70
      go_wp2_with fail
      go_ret2
      exact ⟨rfl, Below.refl _ _⟩
    · by_cases h0 : n < 0
      · omega
      · go_enter Try.func70, Try.ntmps70
        go_wp2_with fail
        go_ret2
        exact ⟨rfl, Below.refl _ _⟩
  · rw [if_neg h]
    obtain ⟨m, rfl⟩ : ∃ m : Nat, n = (m : Int) := ⟨n.toNat, by omega⟩
    have hm : (m : Int) ≤ 1048576 := by omega
    have c1 := fun w => refNum_ok m (by omega) w
    rw [show ((m : Int).toNat) = m from rfl]
    clear h
    generalize putL m = x at *
    have c2 := fun v w h => refList_any v [[99], x] w h
    generalize listR [[99], x] = r at *
    go_enter Try.func70, Try.ntmps70
    go_wp2_with fail
    refine (c1 _).mono ?_
    rintro e w1 ⟨rfl, B⟩
    go_wp2_with fail
    refine (c2 _ _ (two_row w1 [99] x _ rfl)).mono ?_
    rintro e w2 ⟨rfl, hb⟩
    replace B := (B.alloc B.size _).trans (hb.mono (by have := B.size; simp; omega))
    go_wp2_with fail
    go_ret2
    exact ⟨rfl, B⟩

set_option maxHeartbeats 1000000 in
theorem refEntry_any (x : List UInt8) (w : World) :
    Calls Try.prog 68 #[.string ⟨x.toArray⟩] w fun e w' => e = .returned (.tuple #[.string ⟨(entR x).1.toArray⟩, .int .i64 ((entR x).2 : Int)]) ∧ Below w.heap.size w w' := by
  unfold entR
  have c2 := fun v w h => refList_any v [[101], x] w h
  generalize listR [[101], x] = r at *
  go_enter Try.func68, Try.ntmps68
  go_wp2_with fail
  refine (c2 _ _ (two_row w [101] x _ rfl)).mono ?_
  rintro e w2 ⟨rfl, hb⟩
  have B := ((Below.refl w.heap.size w).alloc (Nat.le_refl _) _).trans (hb.mono (by simp))
  go_wp2_with fail
  go_ret2
  exact ⟨rfl, B⟩

set_option maxHeartbeats 1000000 in
theorem put_any (D : ByteArray) (S R : Int) (r : List UInt8 × Nat) (w : World) :
    Calls Try.prog 67 #[.agg #[.string D, .int .i64 S, .int .i64 R], .string ⟨r.1.toArray⟩, .int .i64 (r.2 : Int)] w fun e w' => e = .returned (.tuple #[.agg #[.string (recR D S R r).d, .int .i64 (recR D S R r).s, .int .i64 (recR D S R r).r], .int .i64 (recR D S R r).e]) ∧ Below w.heap.size w w' := by
  obtain ⟨x, e⟩ := r
  dsimp only
  unfold recR
  by_cases he : e = 0
  · subst he
    rw [if_neg (by simp)]
    have c1 := fun w => add_any D S R x w
    dsimp only at c1 ⊢
    generalize addR D S R x = q at *
    go_enter Try.func67, Try.ntmps67
    go_wp2_with fail
    refine (c1 _).mono ?_
    rintro e w1 ⟨rfl, hb⟩
    have T := (Two.made w _ _ _ _ _ _ _ _).below hb
    have B : Below w.heap.size w w1 := (((Below.refl _ _).alloc (Nat.le_refl _) _).alloc (by simp) _).trans (hb.mono (by simp <;> omega))
    obtain ⟨hz, a0, a1, a2, b0, b1, b2, fa0, fa1, fa2, fb0, fb1, fb2⟩ := T
    clear hb c1
    go_wp2_with fail
    exact bodyPost_ret (v := .tuple #[.agg #[.string q.d, .int .i64 q.s, .int .i64 q.r], .int .i64 q.e]) (by simp [results, Try.results67, go_sem, *]) rfl ⟨rfl, (by repeat (first | exact B | exact Below.refl _ _ | refine Below.setCell ?_ (by simp) _))⟩
  · rw [if_pos (by simpa using he)]
    have hei : ¬ (e : Int) = 0 := by omega
    go_enter Try.func67, Try.ntmps67
    go_wp2_with fail
    exact bodyPost_ret (v := .tuple #[.agg #[.string D, .int .i64 S, .int .i64 R], .int .i64 (e : Int)]) (by simp [results, Try.results67, go_sem, *]) rfl ⟨rfl, (by repeat (first | exact Below.refl _ _ | refine Below.setCell ?_ (by simp) _ | refine Below.alloc ?_ (by simp <;> omega) _))⟩


set_option maxHeartbeats 1000000 in
theorem putEntry_any (D : ByteArray) (S R : Int) (x : List UInt8) (w : World) :
    Calls Try.prog 44 #[.agg #[.string D, .int .i64 S, .int .i64 R], .string ⟨x.toArray⟩] w fun e w' => e = .returned (.tuple #[.agg #[.string (recR D S R (entR x)).d, .int .i64 (recR D S R (entR x)).s, .int .i64 (recR D S R (entR x)).r], .int .i64 (recR D S R (entR x)).e]) ∧ Below w.heap.size w w' := by
  unfold entR
  have c1 := fun v w h => list_any v [[101], x] w h
  generalize listR [[101], x] = y at *
  have c2 := fun w => put_any D S R y w
  generalize recR D S R y = q at *
  go_enter Try.func44, Try.ntmps44
  go_wp2_with fail
  refine (c1 _ _ (two_row _ [101] x _ (by simp))).mono ?_
  rintro e w1 ⟨rfl, hb⟩
  have hb2 : Below ((w.alloc (.cells #[.string D, .int .i64 S, .int .i64 R] 47)).alloc (.cells #[.string ⟨#[]⟩, .int .i64 0, .int .i64 0] 47)).heap.size _ w1 := ((Below.refl _ _).alloc (Nat.le_refl _) _).trans (hb.mono (by simp))
  have T := (Two.made w _ _ _ _ _ _ _ _).below hb2
  have B : Below w.heap.size w w1 := (((Below.refl _ _).alloc (Nat.le_refl _) _).alloc (by simp) _).trans (hb2.mono (by simp <;> omega))
  have TT := T
  obtain ⟨hz, a0, a1, a2, b0, b1, b2, fa0, fa1, fa2, fb0, fb1, fb2⟩ := T
  clear hb hb2 c1
  go_wp2_with fail
  refine (c2 _).mono ?_
  rintro e w2 ⟨rfl, hb⟩
  have T := TT.below hb
  replace B := B.trans (hb.mono B.size)
  clear hz a0 a1 a2 b0 b1 b2 fa0 fa1 fa2 fb0 fb1 fb2 hb TT c2
  obtain ⟨hz, a0, a1, a2, b0, b1, b2, fa0, fa1, fa2, fb0, fb1, fb2⟩ := T
  go_wp2_with fail
  exact bodyPost_ret (v := .tuple #[.agg #[.string q.d, .int .i64 q.s, .int .i64 q.r], .int .i64 q.e]) (by simp [results, Try.results44, go_sem, *]) rfl ⟨rfl, (by repeat (first | exact B | exact Below.refl _ _ | refine Below.setCell ?_ (by simp) _))⟩

set_option maxHeartbeats 1000000 in
theorem putCount_any (D : ByteArray) (S R : Int) (n : Int) (w : World) :
    Calls Try.prog 46 #[.agg #[.string D, .int .i64 S, .int .i64 R], .int .i64 n] w fun e w' => e = .returned (.tuple #[.agg #[.string (recR D S R (cntR n)).d, .int .i64 (recR D S R (cntR n)).s, .int .i64 (recR D S R (cntR n)).r], .int .i64 (recR D S R (cntR n)).e]) ∧ Below w.heap.size w w' := by
  skip
  have c1 := fun w => number_any n w
  generalize cntR n = y at *
  have c2 := fun w => put_any D S R y w
  generalize recR D S R y = q at *
  go_enter Try.func46, Try.ntmps46
  go_wp2_with fail
  refine (c1 _).mono ?_
  rintro e w1 ⟨rfl, hb⟩
  have hb2 : Below ((w.alloc (.cells #[.string D, .int .i64 S, .int .i64 R] 47)).alloc (.cells #[.string ⟨#[]⟩, .int .i64 0, .int .i64 0] 47)).heap.size _ w1 := hb
  have T := (Two.made w _ _ _ _ _ _ _ _).below hb2
  have B : Below w.heap.size w w1 := (((Below.refl _ _).alloc (Nat.le_refl _) _).alloc (by simp) _).trans (hb2.mono (by simp <;> omega))
  have TT := T
  obtain ⟨hz, a0, a1, a2, b0, b1, b2, fa0, fa1, fa2, fb0, fb1, fb2⟩ := T
  clear hb hb2 c1
  go_wp2_with fail
  refine (c2 _).mono ?_
  rintro e w2 ⟨rfl, hb⟩
  have T := TT.below hb
  replace B := B.trans (hb.mono B.size)
  clear hz a0 a1 a2 b0 b1 b2 fa0 fa1 fa2 fb0 fb1 fb2 hb TT c2
  obtain ⟨hz, a0, a1, a2, b0, b1, b2, fa0, fa1, fa2, fb0, fb1, fb2⟩ := T
  go_wp2_with fail
  exact bodyPost_ret (v := .tuple #[.agg #[.string q.d, .int .i64 q.s, .int .i64 q.r], .int .i64 q.e]) (by simp [results, Try.results46, go_sem, *]) rfl ⟨rfl, (by repeat (first | exact B | exact Below.refl _ _ | refine Below.setCell ?_ (by simp) _))⟩

set_option maxHeartbeats 1000000 in
theorem refPutEntry_any (D : ByteArray) (S R : Int) (x : List UInt8) (w : World) :
    Calls Try.prog 45 #[.agg #[.string D, .int .i64 S, .int .i64 R], .string ⟨x.toArray⟩] w fun e w' => e = .returned (.tuple #[.agg #[.string (recR D S R (entR x)).d, .int .i64 (recR D S R (entR x)).s, .int .i64 (recR D S R (entR x)).r], .int .i64 (recR D S R (entR x)).e]) ∧ Below w.heap.size w w' := by
  have c1 := fun w => refEntry_any x w
  generalize entR x = y at *
  unfold recR
  obtain ⟨y, e⟩ := y
  dsimp only at c1 ⊢
  by_cases he : e = 0
  · subst he
    rw [if_neg (by simp)]
    have c2 := fun w => refAdd_any D S R y w
    generalize addR D S R y = q at *
    go_enter Try.func45, Try.ntmps45
    go_wp2_with fail
    refine (c1 _).mono ?_
    rintro e' w1 ⟨rfl, hb⟩
    have T := (Two.made w _ _ _ _ _ _ _ _).below hb
    have B : Below w.heap.size w w1 := (((Below.refl _ _).alloc (Nat.le_refl _) _).alloc (by simp) _).trans (hb.mono (by simp <;> omega))
    have TT := T
    obtain ⟨hz, a0, a1, a2, b0, b1, b2, fa0, fa1, fa2, fb0, fb1, fb2⟩ := T
    clear hb c1
    go_wp2_with fail
    refine (c2 _).mono ?_
    rintro e' w2 ⟨rfl, hb⟩
    have T := TT.below hb
    replace B := B.trans (hb.mono B.size)
    clear hz a0 a1 a2 b0 b1 b2 fa0 fa1 fa2 fb0 fb1 fb2 hb TT c2
    obtain ⟨hz, a0, a1, a2, b0, b1, b2, fa0, fa1, fa2, fb0, fb1, fb2⟩ := T
    go_wp2_with fail
    exact bodyPost_ret (v := .tuple #[.agg #[.string q.d, .int .i64 q.s, .int .i64 q.r], .int .i64 q.e]) (by simp [results, Try.results45, go_sem, *]) rfl ⟨rfl, (by repeat (first | exact B | exact Below.refl _ _ | refine Below.setCell ?_ (by simp) _))⟩
  · rw [if_pos (by simpa using he)]
    have hei : ¬ (e : Int) = 0 := by omega
    go_enter Try.func45, Try.ntmps45
    go_wp2_with fail
    refine (c1 _).mono ?_
    rintro e' w1 ⟨rfl, hb⟩
    have T := (Two.made w _ _ _ _ _ _ _ _).below hb
    have B : Below w.heap.size w w1 := (((Below.refl _ _).alloc (Nat.le_refl _) _).alloc (by simp) _).trans (hb.mono (by simp <;> omega))
    have TT := T
    obtain ⟨hz, a0, a1, a2, b0, b1, b2, fa0, fa1, fa2, fb0, fb1, fb2⟩ := T
    clear hb c1
    go_wp2_with fail
    exact bodyPost_ret (v := .tuple #[.agg #[.string D, .int .i64 S, .int .i64 R], .int .i64 (e : Int)]) (by simp [results, Try.results45, go_sem, *]) rfl ⟨rfl, (by repeat (first | exact B | exact Below.refl _ _ | refine Below.setCell ?_ (by simp) _))⟩

set_option maxHeartbeats 1000000 in
theorem refPutCount_any (D : ByteArray) (S R : Int) (n : Int) (w : World) :
    Calls Try.prog 47 #[.agg #[.string D, .int .i64 S, .int .i64 R], .int .i64 n] w fun e w' => e = .returned (.tuple #[.agg #[.string (recR D S R (cntR n)).d, .int .i64 (recR D S R (cntR n)).s, .int .i64 (recR D S R (cntR n)).r], .int .i64 (recR D S R (cntR n)).e]) ∧ Below w.heap.size w w' := by
  have c1 := fun w => refCount_any n w
  generalize cntR n = y at *
  unfold recR
  obtain ⟨y, e⟩ := y
  dsimp only at c1 ⊢
  by_cases he : e = 0
  · subst he
    rw [if_neg (by simp)]
    have c2 := fun w => refAdd_any D S R y w
    generalize addR D S R y = q at *
    go_enter Try.func47, Try.ntmps47
    go_wp2_with fail
    refine (c1 _).mono ?_
    rintro e' w1 ⟨rfl, hb⟩
    have T := (Two.made w _ _ _ _ _ _ _ _).below hb
    have B : Below w.heap.size w w1 := (((Below.refl _ _).alloc (Nat.le_refl _) _).alloc (by simp) _).trans (hb.mono (by simp <;> omega))
    have TT := T
    obtain ⟨hz, a0, a1, a2, b0, b1, b2, fa0, fa1, fa2, fb0, fb1, fb2⟩ := T
    clear hb c1
    go_wp2_with fail
    refine (c2 _).mono ?_
    rintro e' w2 ⟨rfl, hb⟩
    have T := TT.below hb
    replace B := B.trans (hb.mono B.size)
    clear hz a0 a1 a2 b0 b1 b2 fa0 fa1 fa2 fb0 fb1 fb2 hb TT c2
    obtain ⟨hz, a0, a1, a2, b0, b1, b2, fa0, fa1, fa2, fb0, fb1, fb2⟩ := T
    go_wp2_with fail
    exact bodyPost_ret (v := .tuple #[.agg #[.string q.d, .int .i64 q.s, .int .i64 q.r], .int .i64 q.e]) (by simp [results, Try.results47, go_sem, *]) rfl ⟨rfl, (by repeat (first | exact B | exact Below.refl _ _ | refine Below.setCell ?_ (by simp) _))⟩
  · rw [if_pos (by simpa using he)]
    have hei : ¬ (e : Int) = 0 := by omega
    go_enter Try.func47, Try.ntmps47
    go_wp2_with fail
    refine (c1 _).mono ?_
    rintro e' w1 ⟨rfl, hb⟩
    have T := (Two.made w _ _ _ _ _ _ _ _).below hb
    have B : Below w.heap.size w w1 := (((Below.refl _ _).alloc (Nat.le_refl _) _).alloc (by simp) _).trans (hb.mono (by simp <;> omega))
    have TT := T
    obtain ⟨hz, a0, a1, a2, b0, b1, b2, fa0, fa1, fa2, fb0, fb1, fb2⟩ := T
    clear hb c1
    go_wp2_with fail
    exact bodyPost_ret (v := .tuple #[.agg #[.string D, .int .i64 S, .int .i64 R], .int .i64 (e : Int)]) (by simp [results, Try.results47, go_sem, *]) rfl ⟨rfl, (by repeat (first | exact B | exact Below.refl _ _ | refine Below.setCell ?_ (by simp) _))⟩
end Sto
end Go.Proofs.Ytjfibmlpjcncmaa
