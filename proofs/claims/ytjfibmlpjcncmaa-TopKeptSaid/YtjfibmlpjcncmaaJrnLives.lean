/- The answers of chapter 9 that each law asks for. -/
import Derived.Test.YtjfibmlpjcncmaaJrnDisk
namespace Go.Proofs.Ytjfibmlpjcncmaa
open Go.RowKit
set_option linter.unusedVariables false
set_option linter.unusedSimpArgs false
set_option maxRecDepth 4000
namespace Jrn
open Oct Crc Disk

theorem add_ok (l t : List UInt8) (S R : Int) (hr : rightB ⟨l.toArray⟩ S R = true) (ht : t.length ≤ 8192) (hl : (l.length : Int) + ((recB t).length : Int) ≤ R) :
    addR ⟨l.toArray⟩ S R t = ⟨⟨(l ++ recB t).toArray⟩, S, R, 0⟩ := by
  rw [addR, if_pos hr, if_pos ht, writeR, if_pos hr, if_pos (by simp [ByteArray.size]; omega), ba_app]
theorem mend_ok (l : List UInt8) (S R : Int) (hr : rightB ⟨l.toArray⟩ S R = true) : mendR ⟨l.toArray⟩ S R = ⟨⟨(l.take (readR l).2).toArray⟩, ((readR l).2 : Int), R, 0⟩ := by
  rw [mendR, if_pos hr]

theorem r_ab : recB [97, 98] = [2, 97, 98, 162, 14, 66, 65] := by decide +kernel
theorem r_c : recB [99] = [1, 99, 115, 72, 69, 239] := by decide +kernel
theorem r_all : readR [2, 97, 98, 162, 14, 66, 65, 1, 99, 115, 72, 69, 239, 1] = ([[97, 98], [99]], 13) := by decide +kernel
theorem r_all2 : readR [2, 97, 98, 162, 14, 66, 65, 1, 99, 115, 72, 69, 239, 1, 100] = ([[97, 98], [99]], 13) := by decide +kernel

theorem j1 (w : World) : Calls Try.prog 34 #[.string ⟨#[97, 98]⟩] w fun e w' => e = .returned (.tuple #[.string ⟨#[2, 97, 98, 162, 14, 66, 65]⟩, .int .i64 0]) ∧ Below w.heap.size w w' := by
  have h := bytes_any [97, 98] w
  rwa [bytesR, if_pos (by decide), r_ab] at h
theorem j2 (w : World) : Calls Try.prog 40 #[.int .i64 100] w fun e w' => e = .returned (.tuple #[.agg #[.string ⟨#[]⟩, .int .i64 0, .int .i64 100], .int .i64 0]) ∧ Below w.heap.size w w' := new_ok 100 (by omega) w
theorem j3 (w : World) : Calls Try.prog 36 #[.agg #[.string ⟨#[]⟩, .int .i64 0, .int .i64 100], .string ⟨#[97, 98]⟩] w fun e w' => e = .returned (.tuple #[.agg #[.string ⟨#[2, 97, 98, 162, 14, 66, 65]⟩, .int .i64 0, .int .i64 100], .int .i64 0]) ∧ Below w.heap.size w w' := by
  have h := add_any ⟨#[]⟩ 0 100 [97, 98] w
  rwa [show addR ⟨#[]⟩ 0 100 [97, 98] = _ from add_ok [] [97, 98] 0 100 (by decide) (by decide) (by rw [r_ab]; decide), r_ab] at h
theorem j4 (w : World) : Calls Try.prog 36 #[.agg #[.string ⟨#[2, 97, 98, 162, 14, 66, 65]⟩, .int .i64 0, .int .i64 100], .string ⟨#[99]⟩] w fun e w' => e = .returned (.tuple #[.agg #[.string ⟨#[2, 97, 98, 162, 14, 66, 65, 1, 99, 115, 72, 69, 239]⟩, .int .i64 0, .int .i64 100], .int .i64 0]) ∧ Below w.heap.size w w' := by
  have h := add_any ⟨#[2, 97, 98, 162, 14, 66, 65]⟩ 0 100 [99] w
  rwa [show addR ⟨#[2, 97, 98, 162, 14, 66, 65]⟩ 0 100 [99] = _ from add_ok [2, 97, 98, 162, 14, 66, 65] [99] 0 100 (by decide) (by decide) (by rw [r_c]; decide), r_c] at h
theorem j5 (w : World) : Calls Try.prog 32 #[.string ⟨#[2, 97, 98, 162, 14, 66, 65, 1, 99, 115, 72, 69, 239, 1]⟩] w fun e w' => ∃ v, e = .returned (.tuple #[v, .int .i64 13]) ∧ OwnS w.heap.size w' v [[97, 98], [99]] ∧ Below w.heap.size w w' := by
  have h := read_any [2, 97, 98, 162, 14, 66, 65, 1, 99, 115, 72, 69, 239, 1] (by decide) w
  rwa [r_all] at h
theorem j6 (w : World) : Calls Try.prog 58 #[.agg #[.string ⟨#[2, 97, 98, 162, 14, 66, 65, 1, 99, 115, 72, 69, 239]⟩, .int .i64 0, .int .i64 100], .string ⟨#[1, 100]⟩] w fun e w' => e = .returned (.tuple #[.agg #[.string ⟨#[2, 97, 98, 162, 14, 66, 65, 1, 99, 115, 72, 69, 239, 1, 100]⟩, .int .i64 0, .int .i64 100], .int .i64 0]) ∧ Below w.heap.size w w' :=
  write_ok ⟨#[2, 97, 98, 162, 14, 66, 65, 1, 99, 115, 72, 69, 239]⟩ 0 100 ⟨#[1, 100]⟩ ((right_iff _ _ _).1 (by decide)) (by decide) w
theorem j7 (w : World) : Calls Try.prog 38 #[.agg #[.string ⟨#[2, 97, 98, 162, 14, 66, 65, 1, 99, 115, 72, 69, 239, 1, 100]⟩, .int .i64 0, .int .i64 100]] w fun e w' => e = .returned (.tuple #[.agg #[.string ⟨#[2, 97, 98, 162, 14, 66, 65, 1, 99, 115, 72, 69, 239]⟩, .int .i64 13, .int .i64 100], .int .i64 0]) ∧ Below w.heap.size w w' := by
  have h := mend_any ⟨#[2, 97, 98, 162, 14, 66, 65, 1, 99, 115, 72, 69, 239, 1, 100]⟩ 0 100 (by decide) w
  rwa [show mendR ⟨#[2, 97, 98, 162, 14, 66, 65, 1, 99, 115, 72, 69, 239, 1, 100]⟩ 0 100 = _ from mend_ok [2, 97, 98, 162, 14, 66, 65, 1, 99, 115, 72, 69, 239, 1, 100] 0 100 (by decide), r_all2] at h
theorem j8 (w : World) : Calls Try.prog 59 #[.string ⟨#[2, 97, 98]⟩] w fun e w' => e = .returned (.string ⟨#[162, 14, 66, 65]⟩) ∧ Below w.heap.size w w' := by
  have h := Crc.bytes_any ⟨#[2, 97, 98]⟩ w (by decide)
  rwa [show top4 (crc [2, 97, 98]) = [162, 14, 66, 65] by decide +kernel] at h

set_option maxHeartbeats 4000000 in
theorem jrn_lives (w : World) : Calls Try.prog 31 #[] w fun e w' => e = .returned (.bool true) ∧ Below w.heap.size w w' := by
  go_enter Try.func31, Try.ntmps31
  go_wp2_with fail
  refine (j1 _).mono ?_
  rintro e w0 ⟨rfl, hb0⟩
  go_wp2_with fail
  refine (j2 _).mono ?_
  rintro e w1 ⟨rfl, hb⟩
  replace hb1 := hb0.trans (hb.mono hb0.size)
  clear hb0 hb
  go_wp2_with fail
  refine (j3 _).mono ?_
  rintro e w2 ⟨rfl, hb⟩
  obtain ⟨n, hn⟩ : ∃ n, n = w1.heap.size := ⟨_, rfl⟩
  have hwn : w.heap.size ≤ n := by have := hb1.size; omega
  have T := (One.made w1 _ _ _ _).below (by simp) hb
  have B : Below w.heap.size w w2 := (hb1.alloc hb1.size _).trans (hb.mono (by simp; omega))
  rw [← hn] at T ⊢
  clear hb hb1 hn
  have T' := Lib.hid (T.stored (.string ⟨#[2, 97, 98, 162, 14, 66, 65]⟩) (.int .i64 0) (.int .i64 100))
  obtain ⟨z, a0, a1, a2, f0, f1, f2⟩ := T
  go_wp2_with fail
  refine (j4 _).mono ?_
  rintro e w3 ⟨rfl, hb⟩
  have T := T'.out.below T'.out.size hb
  have B' := B
  replace B : Below w.heap.size w w3 := (((B'.setCell hwn _).setCell hwn _).setCell hwn _).trans (hb.mono (by have := B'.size; simpa [World.setCell] using this))
  clear z a0 a1 a2 f0 f1 f2 hb T' B'
  have T' := Lib.hid (T.stored (.string ⟨#[2, 97, 98, 162, 14, 66, 65, 1, 99, 115, 72, 69, 239]⟩) (.int .i64 0) (.int .i64 100))
  obtain ⟨z, a0, a1, a2, f0, f1, f2⟩ := T
  go_wp2_with fail
  refine (j5 _).mono ?_
  rintro e w4 ⟨m, rfl, o, hb⟩
  have Rm := o.row
  have T := T'.out.below T'.out.size hb
  have B' := B
  replace B : Below w.heap.size w w4 := (((B'.setCell hwn _).setCell hwn _).setCell hwn _).trans (hb.mono (by have := B'.size; simpa [World.setCell] using this))
  clear z a0 a1 a2 f0 f1 f2 hb T' B' o
  have TT := T
  obtain ⟨z, a0, a1, a2, f0, f1, f2⟩ := T
  go_wp2_with fail
  refine (j6 _).mono ?_
  rintro e w5 ⟨rfl, hb⟩
  have T := TT.below TT.size hb
  replace Rm := Rm.below rfl hb
  replace B : Below w.heap.size w w5 := B.trans (hb.mono B.size)
  clear z a0 a1 a2 f0 f1 f2 hb TT
  have TT := T
  obtain ⟨z, a0, a1, a2, f0, f1, f2⟩ := T
  go_wp2_with fail
  refine (j7 _).mono ?_
  rintro e w6 ⟨rfl, hb⟩
  have hb' : Below w5.heap.size w5 w6 := ((Below.refl _ _).alloc (Nat.le_refl _) _).trans (hb.mono (by simp))
  have T := TT.below TT.size hb'
  replace Rm := Rm.below rfl hb'
  replace B : Below w.heap.size w w6 := B.trans (hb'.mono B.size)
  clear z a0 a1 a2 f0 f1 f2 hb hb' TT
  have TT := T
  obtain ⟨z, a0, a1, a2, f0, f1, f2⟩ := T
  go_wp2_with fail
  have hcat : (⟨#[2, 97, 98]⟩ ++ ⟨#[162, 14, 66, 65]⟩ : ByteArray) = ⟨#[2, 97, 98, 162, 14, 66, 65]⟩ := ba_app [2, 97, 98] [162, 14, 66, 65]
  refine (j8 _).mono ?_
  rintro e w7 ⟨rfl, hb⟩
  have hb' : Below w6.heap.size w6 w7 := ((Below.refl _ _).alloc (Nat.le_refl _) _).trans (hb.mono (by simp))
  have T := TT.below TT.size hb'
  have TF := (One.made w6 _ _ _ _).below (by simp) hb
  obtain ⟨n6, hn⟩ : ∃ x, x = w6.heap.size := ⟨_, rfl⟩
  have o6 : n < n6 := by rw [hn]; exact z
  rw [← hn] at TF ⊢
  replace Rm := Rm.below rfl hb'
  replace B : Below w.heap.size w w7 := B.trans (hb'.mono B.size)
  clear z a0 a1 a2 f0 f1 f2 hb hb' TT hn
  have TT := T
  have TTF := TF
  obtain ⟨z, a0, a1, a2, f0, f1, f2⟩ := T
  obtain ⟨z6, d0, d1, d2, i0, i1, i2⟩ := TF
  go_wp2_with fail
  have Rm' := Rm.below rfl ((Below.refl w7.heap.size w7).alloc (Nat.le_refl _) (.cells #[.string ⟨#[97, 98]⟩, .string ⟨#[99]⟩] 9))
  refine (same_any m (.slice (some ⟨w7.heap.size, 0, none⟩) 2 2) [[97, 98], [99]] [[97, 98], [99]] _ Rm' (.inr ⟨w7.heap.size, 0, 2, rfl, by simp, fun j hj => ?_⟩) (by simp)).mono ?_
  · have : j = 0 ∨ j = 1 := by simp at hj; omega
    rcases this with rfl | rfl
    · go_simp
    · go_simp
  rintro e w8 ⟨rfl, hb⟩
  have hb' : Below w7.heap.size w7 w8 := ((Below.refl _ _).alloc (Nat.le_refl _) _).trans (hb.mono (by simp))
  have T := TT.below TT.size hb'
  have TF := TTF.below TTF.size hb'
  replace B : Below w.heap.size w w8 := B.trans (hb'.mono B.size)
  rw [decide_eq_true rfl]
  clear z a0 a1 a2 f0 f1 f2 hb hb' TT Rm Rm' z6 d0 d1 d2 i0 i1 i2 TTF
  obtain ⟨z, a0, a1, a2, f0, f1, f2⟩ := T
  obtain ⟨z6, d0, d1, d2, i0, i1, i2⟩ := TF
  go_wp2_with fail
  go_ret
  exact ⟨rfl, B⟩
end Jrn
end Go.Proofs.Ytjfibmlpjcncmaa
