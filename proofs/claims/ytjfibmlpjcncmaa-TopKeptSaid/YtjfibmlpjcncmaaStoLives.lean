/- The answers of chapter 10 that each law asks for. -/
import Derived.Test.YtjfibmlpjcncmaaStoRefComp
namespace Go.Proofs.Ytjfibmlpjcncmaa
open Go.RowKit
set_option linter.unusedVariables false
set_option linter.unusedSimpArgs false
set_option maxRecDepth 4000
namespace Sto
open Oct Crc Disk Jrn
theorem s1 (w : World) : Calls Try.prog 40 #[.int .i64 100] w fun e w' => e = .returned (.tuple #[.agg #[.string ⟨#[]⟩, .int .i64 0, .int .i64 100], .int .i64 0]) ∧ Below w.heap.size w w' := by
  exact new_ok 100 (by omega) w
theorem rs2 : cntR 5 = ([2, 1, 99, 1, 5], 0) := by decide +kernel
theorem qs2 : recB [2, 1, 99, 1, 5] = [5, 2, 1, 99, 1, 5, 137, 14, 63, 89] := by decide +kernel
theorem ds2 : recR ⟨#[]⟩ 0 100 (cntR 5) = ⟨⟨#[5, 2, 1, 99, 1, 5, 137, 14, 63, 89]⟩, 0, 100, 0⟩ := by
  rw [rs2, recR, if_neg (by decide)]
  rw [show addR ⟨#[]⟩ 0 100 ([2, 1, 99, 1, 5], (0 : Nat)).1 = _ from add_ok [] [2, 1, 99, 1, 5] 0 100 (by decide) (by decide) (by rw [qs2]; decide), qs2]
  rfl
theorem s2 (w : World) : Calls Try.prog 46 #[.agg #[.string ⟨#[]⟩, .int .i64 0, .int .i64 100], .int .i64 5] w fun e w' => e = .returned (.tuple #[.agg #[.string ⟨#[5, 2, 1, 99, 1, 5, 137, 14, 63, 89]⟩, .int .i64 0, .int .i64 100], .int .i64 0]) ∧ Below w.heap.size w w' := by
  have h := putCount_any ⟨#[]⟩ 0 100 5 w
  rwa [ds2] at h
theorem rs3 : entR [97, 98] = ([2, 1, 101, 2, 97, 98], 0) := by decide +kernel
theorem qs3 : recB [2, 1, 101, 2, 97, 98] = [6, 2, 1, 101, 2, 97, 98, 215, 99, 230, 189] := by decide +kernel
theorem ds3 : recR ⟨#[5, 2, 1, 99, 1, 5, 137, 14, 63, 89]⟩ 0 100 (entR [97, 98]) = ⟨⟨#[5, 2, 1, 99, 1, 5, 137, 14, 63, 89, 6, 2, 1, 101, 2, 97, 98, 215, 99, 230, 189]⟩, 0, 100, 0⟩ := by
  rw [rs3, recR, if_neg (by decide)]
  rw [show addR ⟨#[5, 2, 1, 99, 1, 5, 137, 14, 63, 89]⟩ 0 100 ([2, 1, 101, 2, 97, 98], (0 : Nat)).1 = _ from add_ok [5, 2, 1, 99, 1, 5, 137, 14, 63, 89] [2, 1, 101, 2, 97, 98] 0 100 (by decide) (by decide) (by rw [qs3]; decide), qs3]
  rfl
theorem s3 (w : World) : Calls Try.prog 44 #[.agg #[.string ⟨#[5, 2, 1, 99, 1, 5, 137, 14, 63, 89]⟩, .int .i64 0, .int .i64 100], .string ⟨#[97, 98]⟩] w fun e w' => e = .returned (.tuple #[.agg #[.string ⟨#[5, 2, 1, 99, 1, 5, 137, 14, 63, 89, 6, 2, 1, 101, 2, 97, 98, 215, 99, 230, 189]⟩, .int .i64 0, .int .i64 100], .int .i64 0]) ∧ Below w.heap.size w w' := by
  have h := putEntry_any ⟨#[5, 2, 1, 99, 1, 5, 137, 14, 63, 89]⟩ 0 100 [97, 98] w
  rwa [ds3] at h
theorem rs4 : cntR 300 = ([2, 1, 99, 2, 172, 2], 0) := by decide +kernel
theorem qs4 : recB [2, 1, 99, 2, 172, 2] = [6, 2, 1, 99, 2, 172, 2, 101, 150, 83, 5] := by decide +kernel
theorem ds4 : recR ⟨#[5, 2, 1, 99, 1, 5, 137, 14, 63, 89, 6, 2, 1, 101, 2, 97, 98, 215, 99, 230, 189]⟩ 0 100 (cntR 300) = ⟨⟨#[5, 2, 1, 99, 1, 5, 137, 14, 63, 89, 6, 2, 1, 101, 2, 97, 98, 215, 99, 230, 189, 6, 2, 1, 99, 2, 172, 2, 101, 150, 83, 5]⟩, 0, 100, 0⟩ := by
  rw [rs4, recR, if_neg (by decide)]
  rw [show addR ⟨#[5, 2, 1, 99, 1, 5, 137, 14, 63, 89, 6, 2, 1, 101, 2, 97, 98, 215, 99, 230, 189]⟩ 0 100 ([2, 1, 99, 2, 172, 2], (0 : Nat)).1 = _ from add_ok [5, 2, 1, 99, 1, 5, 137, 14, 63, 89, 6, 2, 1, 101, 2, 97, 98, 215, 99, 230, 189] [2, 1, 99, 2, 172, 2] 0 100 (by decide) (by decide) (by rw [qs4]; decide), qs4]
  rfl
theorem s4 (w : World) : Calls Try.prog 46 #[.agg #[.string ⟨#[5, 2, 1, 99, 1, 5, 137, 14, 63, 89, 6, 2, 1, 101, 2, 97, 98, 215, 99, 230, 189]⟩, .int .i64 0, .int .i64 100], .int .i64 300] w fun e w' => e = .returned (.tuple #[.agg #[.string ⟨#[5, 2, 1, 99, 1, 5, 137, 14, 63, 89, 6, 2, 1, 101, 2, 97, 98, 215, 99, 230, 189, 6, 2, 1, 99, 2, 172, 2, 101, 150, 83, 5]⟩, .int .i64 0, .int .i64 100], .int .i64 0]) ∧ Below w.heap.size w w' := by
  have h := putCount_any ⟨#[5, 2, 1, 99, 1, 5, 137, 14, 63, 89, 6, 2, 1, 101, 2, 97, 98, 215, 99, 230, 189]⟩ 0 100 300 w
  rwa [ds4] at h
theorem ls5 : loadR [5, 2, 1, 99, 1, 5, 137, 14, 63, 89, 6, 2, 1, 101, 2, 97, 98, 215, 99, 230, 189, 6, 2, 1, 99, 2, 172, 2, 101, 150, 83, 5] = ([[97, 98]], 300, 0) := by decide +kernel
theorem s5 (w : World) : Calls Try.prog 50 #[.string ⟨#[5, 2, 1, 99, 1, 5, 137, 14, 63, 89, 6, 2, 1, 101, 2, 97, 98, 215, 99, 230, 189, 6, 2, 1, 99, 2, 172, 2, 101, 150, 83, 5]⟩] w fun e w' => ∃ v, e = .returned (.tuple #[.agg #[v, .int .i64 300], .int .i64 0]) ∧ OwnS w.heap.size w' v [[97, 98]] ∧ Below w.heap.size w w' := by
  have h := load_any [5, 2, 1, 99, 1, 5, 137, 14, 63, 89, 6, 2, 1, 101, 2, 97, 98, 215, 99, 230, 189, 6, 2, 1, 99, 2, 172, 2, 101, 150, 83, 5] (by decide) w
  rwa [ls5] at h
theorem ms6 : readR [5, 2, 1, 99, 1, 5, 137, 14, 63, 89, 6, 2, 1, 101, 2, 97, 98, 215, 99, 230, 189, 6, 2, 1, 99, 2, 172, 2, 101, 150, 83, 5, 33] = ([[2, 1, 99, 1, 5], [2, 1, 101, 2, 97, 98], [2, 1, 99, 2, 172, 2]], 32) := by decide +kernel
theorem ns6 : restR ⟨#[5, 2, 1, 99, 1, 5, 137, 14, 63, 89, 6, 2, 1, 101, 2, 97, 98, 215, 99, 230, 189, 6, 2, 1, 99, 2, 172, 2, 101, 150, 83, 5, 33]⟩ 0 100 = (⟨⟨#[5, 2, 1, 99, 1, 5, 137, 14, 63, 89, 6, 2, 1, 101, 2, 97, 98, 215, 99, 230, 189, 6, 2, 1, 99, 2, 172, 2, 101, 150, 83, 5]⟩, 32, 100, 0⟩, [[97, 98]], 300) := by
  have hm : mendR ⟨#[5, 2, 1, 99, 1, 5, 137, 14, 63, 89, 6, 2, 1, 101, 2, 97, 98, 215, 99, 230, 189, 6, 2, 1, 99, 2, 172, 2, 101, 150, 83, 5, 33]⟩ 0 100 = ⟨⟨#[5, 2, 1, 99, 1, 5, 137, 14, 63, 89, 6, 2, 1, 101, 2, 97, 98, 215, 99, 230, 189, 6, 2, 1, 99, 2, 172, 2, 101, 150, 83, 5]⟩, 32, 100, 0⟩ := by
    rw [show mendR ⟨#[5, 2, 1, 99, 1, 5, 137, 14, 63, 89, 6, 2, 1, 101, 2, 97, 98, 215, 99, 230, 189, 6, 2, 1, 99, 2, 172, 2, 101, 150, 83, 5, 33]⟩ 0 100 = _ from mend_ok [5, 2, 1, 99, 1, 5, 137, 14, 63, 89, 6, 2, 1, 101, 2, 97, 98, 215, 99, 230, 189, 6, 2, 1, 99, 2, 172, 2, 101, 150, 83, 5, 33] 0 100 (by decide), ms6]; rfl
  have hl : loadR (⟨#[5, 2, 1, 99, 1, 5, 137, 14, 63, 89, 6, 2, 1, 101, 2, 97, 98, 215, 99, 230, 189, 6, 2, 1, 99, 2, 172, 2, 101, 150, 83, 5]⟩ : ByteArray).data.toList = ([[97, 98]], 300, 0) := ls5
  rw [restR, hm, if_neg (by decide)]
  rw [hl, if_neg (by decide)]
theorem s6 (w : World) : Calls Try.prog 52 #[.agg #[.string ⟨#[5, 2, 1, 99, 1, 5, 137, 14, 63, 89, 6, 2, 1, 101, 2, 97, 98, 215, 99, 230, 189, 6, 2, 1, 99, 2, 172, 2, 101, 150, 83, 5, 33]⟩, .int .i64 0, .int .i64 100]] w fun e w' => ∃ v, e = .returned (.tuple #[.agg #[.string ⟨#[5, 2, 1, 99, 1, 5, 137, 14, 63, 89, 6, 2, 1, 101, 2, 97, 98, 215, 99, 230, 189, 6, 2, 1, 99, 2, 172, 2, 101, 150, 83, 5]⟩, .int .i64 32, .int .i64 100], .agg #[v, .int .i64 300], .int .i64 0]) ∧ OwnS w.heap.size w' v [[97, 98]] ∧ Below w.heap.size w w' := by
  have h := restart_any ⟨#[5, 2, 1, 99, 1, 5, 137, 14, 63, 89, 6, 2, 1, 101, 2, 97, 98, 215, 99, 230, 189, 6, 2, 1, 99, 2, 172, 2, 101, 150, 83, 5, 33]⟩ 0 100 (by decide) w
  rwa [ns6] at h
theorem as7 : anewL [[97, 98]] 300 = [6, 2, 1, 99, 2, 172, 2, 101, 150, 83, 5, 6, 2, 1, 101, 2, 97, 98, 215, 99, 230, 189] := by decide +kernel
theorem s7 (w : World) : Calls Try.prog 48 #[.agg #[.string ⟨#[5, 2, 1, 99, 1, 5, 137, 14, 63, 89, 6, 2, 1, 101, 2, 97, 98, 215, 99, 230, 189, 6, 2, 1, 99, 2, 172, 2, 101, 150, 83, 5]⟩, .int .i64 0, .int .i64 100]] w fun e w' => e = .returned (.tuple #[.agg #[.string ⟨#[6, 2, 1, 99, 2, 172, 2, 101, 150, 83, 5, 6, 2, 1, 101, 2, 97, 98, 215, 99, 230, 189]⟩, .int .i64 22, .int .i64 100], .int .i64 0]) ∧ Below w.heap.size w w' := by
  have h := compact_any ⟨#[5, 2, 1, 99, 1, 5, 137, 14, 63, 89, 6, 2, 1, 101, 2, 97, 98, 215, 99, 230, 189, 6, 2, 1, 99, 2, 172, 2, 101, 150, 83, 5]⟩ 0 100 (by decide) w
  have hc : compR ⟨#[5, 2, 1, 99, 1, 5, 137, 14, 63, 89, 6, 2, 1, 101, 2, 97, 98, 215, 99, 230, 189, 6, 2, 1, 99, 2, 172, 2, 101, 150, 83, 5]⟩ 0 100 = ⟨⟨#[6, 2, 1, 99, 2, 172, 2, 101, 150, 83, 5, 6, 2, 1, 101, 2, 97, 98, 215, 99, 230, 189]⟩, 22, 100, 0⟩ := by
    rw [show compR ⟨#[5, 2, 1, 99, 1, 5, 137, 14, 63, 89, 6, 2, 1, 101, 2, 97, 98, 215, 99, 230, 189, 6, 2, 1, 99, 2, 172, 2, 101, 150, 83, 5]⟩ 0 100 = _ from comp_ok [5, 2, 1, 99, 1, 5, 137, 14, 63, 89, 6, 2, 1, 101, 2, 97, 98, 215, 99, 230, 189, 6, 2, 1, 99, 2, 172, 2, 101, 150, 83, 5] 0 100 (by decide) _ _ ls5, as7]; rfl
  rwa [hc] at h
theorem s8 (w : World) : Calls Try.prog 46 #[.agg #[.string ⟨#[5, 2, 1, 99, 1, 5, 137, 14, 63, 89, 6, 2, 1, 101, 2, 97, 98, 215, 99, 230, 189, 6, 2, 1, 99, 2, 172, 2, 101, 150, 83, 5]⟩, .int .i64 0, .int .i64 100], .int .i64 (-1)] w fun e w' => e = .returned (.tuple #[.agg #[.string ⟨#[5, 2, 1, 99, 1, 5, 137, 14, 63, 89, 6, 2, 1, 101, 2, 97, 98, 215, 99, 230, 189, 6, 2, 1, 99, 2, 172, 2, 101, 150, 83, 5]⟩, .int .i64 0, .int .i64 100], .int .i64 1]) ∧ Below w.heap.size w w' := by
  have h := putCount_any ⟨#[5, 2, 1, 99, 1, 5, 137, 14, 63, 89, 6, 2, 1, 101, 2, 97, 98, 215, 99, 230, 189, 6, 2, 1, 99, 2, 172, 2, 101, 150, 83, 5]⟩ 0 100 (-1) w
  have hc : recR ⟨#[5, 2, 1, 99, 1, 5, 137, 14, 63, 89, 6, 2, 1, 101, 2, 97, 98, 215, 99, 230, 189, 6, 2, 1, 99, 2, 172, 2, 101, 150, 83, 5]⟩ 0 100 (cntR (-1)) = ⟨⟨#[5, 2, 1, 99, 1, 5, 137, 14, 63, 89, 6, 2, 1, 101, 2, 97, 98, 215, 99, 230, 189, 6, 2, 1, 99, 2, 172, 2, 101, 150, 83, 5]⟩, 0, 100, 1⟩ := by rw [cntR, if_pos (by decide), recR, if_pos (by decide)]; rfl
  rwa [hc] at h
theorem rs9 : recB [120] = [1, 120, 20, 18, 85, 254] := by decide +kernel
theorem s9 (w : World) : Calls Try.prog 34 #[.string ⟨#[120]⟩] w fun e w' => e = .returned (.tuple #[.string ⟨#[1, 120, 20, 18, 85, 254]⟩, .int .i64 0]) ∧ Below w.heap.size w w' := by
  have h := bytes_any [120] w
  rwa [bytesR, if_pos (by decide), rs9] at h
theorem ls10 : loadR [1, 120, 20, 18, 85, 254] = ([], 0, 6) := by decide +kernel
theorem s10 (w : World) : Calls Try.prog 50 #[.string ⟨#[1, 120, 20, 18, 85, 254]⟩] w fun e w' => ∃ v, e = .returned (.tuple #[.agg #[v, .int .i64 0], .int .i64 6]) ∧ OwnS w.heap.size w' v [] ∧ Below w.heap.size w w' := by
  have h := load_any [1, 120, 20, 18, 85, 254] (by decide) w
  rwa [ls10] at h

set_option maxHeartbeats 4000000 in
theorem sto_lives (w : World) : Calls Try.prog 43 #[] w fun e w' => e = .returned (.bool true) ∧ Below w.heap.size w w' := by
  go_enter Try.func43, Try.ntmps43
  go_wp2_with fail
  refine (s1 _).mono ?_
  rintro e w1 ⟨rfl, hb⟩
  go_wp2_with fail
  refine (s2 _).mono ?_
  rintro e w2 ⟨rfl, hb2⟩
  obtain ⟨n, hn⟩ : ∃ n, n = w1.heap.size := ⟨_, rfl⟩
  have hwn : w.heap.size ≤ n := by have := hb.size; omega
  have T := (One.made w1 _ _ _ _).below (by simp) hb2
  have B : Below w.heap.size w w2 := (hb.alloc hb.size _).trans (hb2.mono (by simp; omega))
  rw [← hn] at T ⊢
  clear hb hb2 hn
  have T' := Lib.hid (T.stored (.string ⟨#[5, 2, 1, 99, 1, 5, 137, 14, 63, 89]⟩) (.int .i64 0) (.int .i64 100))
  obtain ⟨z, a0, a1, a2, f0, f1, f2⟩ := T
  go_wp2_with fail
  refine (s3 _).mono ?_
  rintro e w3 ⟨rfl, hb⟩
  have T := T'.out.below T'.out.size hb
  have B' := B
  replace B : Below w.heap.size w w3 := (((B'.setCell hwn _).setCell hwn _).setCell hwn _).trans (hb.mono (by have := B'.size; simpa [World.setCell] using this))
  clear z a0 a1 a2 f0 f1 f2 hb T' B'
  have T' := Lib.hid (T.stored (.string ⟨#[5, 2, 1, 99, 1, 5, 137, 14, 63, 89, 6, 2, 1, 101, 2, 97, 98, 215, 99, 230, 189]⟩) (.int .i64 0) (.int .i64 100))
  obtain ⟨z, a0, a1, a2, f0, f1, f2⟩ := T
  go_wp2_with fail
  refine (s4 _).mono ?_
  rintro e w4 ⟨rfl, hb⟩
  have T := T'.out.below T'.out.size hb
  have B' := B
  replace B : Below w.heap.size w w4 := (((B'.setCell hwn _).setCell hwn _).setCell hwn _).trans (hb.mono (by have := B'.size; simpa [World.setCell] using this))
  clear z a0 a1 a2 f0 f1 f2 hb T' B'
  have T' := Lib.hid (T.stored (.string ⟨#[5, 2, 1, 99, 1, 5, 137, 14, 63, 89, 6, 2, 1, 101, 2, 97, 98, 215, 99, 230, 189, 6, 2, 1, 99, 2, 172, 2, 101, 150, 83, 5]⟩) (.int .i64 0) (.int .i64 100))
  obtain ⟨z, a0, a1, a2, f0, f1, f2⟩ := T
  go_wp2_with fail
  refine (s5 _).mono ?_
  rintro e w5 ⟨v, rfl, o, hb⟩
  have T := T'.out.below T'.out.size hb
  have B' := B
  replace B : Below w.heap.size w w5 := (((B'.setCell hwn _).setCell hwn _).setCell hwn _).trans (hb.mono (by have := B'.size; simpa [World.setCell] using this))
  clear z a0 a1 a2 f0 f1 f2 hb T' B'
  obtain ⟨pv, cv, rfl⟩ := own_of o
  have RV := o.row
  have hcat : (⟨#[5, 2, 1, 99, 1, 5, 137, 14, 63, 89, 6, 2, 1, 101, 2, 97, 98, 215, 99, 230, 189, 6, 2, 1, 99, 2, 172, 2, 101, 150, 83, 5]⟩ ++ ⟨#[33]⟩ : ByteArray) = ⟨#[5, 2, 1, 99, 1, 5, 137, 14, 63, 89, 6, 2, 1, 101, 2, 97, 98, 215, 99, 230, 189, 6, 2, 1, 99, 2, 172, 2, 101, 150, 83, 5, 33]⟩ := ba_app [5, 2, 1, 99, 1, 5, 137, 14, 63, 89, 6, 2, 1, 101, 2, 97, 98, 215, 99, 230, 189, 6, 2, 1, 99, 2, 172, 2, 101, 150, 83, 5] [33]
  clear o
  have A0 := low_al w5 (.cells #[.slice pv 1 cv, .int .i64 300] 61)
  have hA := A0
  have Tp := T.below' hA
  have Th := Lib.hid T
  have S := Pair.made w5 (.slice pv 1 cv) (.int .i64 300) 61
  have Sh := Lib.hid S
  have Sp := S
  obtain ⟨zT, aT0, aT1, aT2, fT0, fT1, fT2⟩ := Tp
  obtain ⟨zS, aS0, aS1, fS0, fS1⟩ := Sp
  obtain ⟨yT, bT0, bT1, bT2, gT0, gT1, gT2⟩ := T
  go_wp2_with fail
  refine (s6 _).mono ?_
  rintro e w6 ⟨v, rfl, o, hb⟩
  have hB := hA.trans (hb.mono hA.size)
  replace B := B.trans (hB.mono B.size)
  have T := Th.out.below' hB
  replace RV := RV.below rfl hB
  have S := Sh.out.below' hb
  clear hb hA A0 Th zT aT0 aT1 fT0 fT1 aT2 fT2 yT bT0 bT1 gT0 gT1 bT2 gT2 Sh zS aS0 aS1 fS0 fS1 hB
  obtain ⟨pv6, cv6, rfl⟩ := own_of o
  have R6 := o.row
  clear o
  have A0 := low_al w6 (.cells #[.string ⟨#[5, 2, 1, 99, 1, 5, 137, 14, 63, 89, 6, 2, 1, 101, 2, 97, 98, 215, 99, 230, 189, 6, 2, 1, 99, 2, 172, 2, 101, 150, 83, 5]⟩, .int .i64 32, .int .i64 100] 47)
  have A1 := low_al ((w6.alloc (.cells #[.string ⟨#[5, 2, 1, 99, 1, 5, 137, 14, 63, 89, 6, 2, 1, 101, 2, 97, 98, 215, 99, 230, 189, 6, 2, 1, 99, 2, 172, 2, 101, 150, 83, 5]⟩, .int .i64 32, .int .i64 100] 47))) (.cells #[.slice pv6 1 cv6, .int .i64 300] 61)
  have hA := A0.trans (A1.mono (by simp))
  have Tp := T.below' hA
  have Th := Lib.hid T
  have Sp := S.below' hA
  have Sh := Lib.hid S
  have E := One.made w6 (.string ⟨#[5, 2, 1, 99, 1, 5, 137, 14, 63, 89, 6, 2, 1, 101, 2, 97, 98, 215, 99, 230, 189, 6, 2, 1, 99, 2, 172, 2, 101, 150, 83, 5]⟩) (.int .i64 32) (.int .i64 100) 47
  replace E := E.below' A1
  have Eh := Lib.hid E
  have Ep := E
  have U := Pair.made (w6.alloc (.cells #[.string ⟨#[5, 2, 1, 99, 1, 5, 137, 14, 63, 89, 6, 2, 1, 101, 2, 97, 98, 215, 99, 230, 189, 6, 2, 1, 99, 2, 172, 2, 101, 150, 83, 5]⟩, .int .i64 32, .int .i64 100] 47)) (.slice pv6 1 cv6) (.int .i64 300) 61
  rw [show ((w6.alloc (.cells #[.string ⟨#[5, 2, 1, 99, 1, 5, 137, 14, 63, 89, 6, 2, 1, 101, 2, 97, 98, 215, 99, 230, 189, 6, 2, 1, 99, 2, 172, 2, 101, 150, 83, 5]⟩, .int .i64 32, .int .i64 100] 47))).heap.size = w6.heap.size + 1 by simp] at U
  have Uh := Lib.hid U
  have Up := U
  obtain ⟨zT, aT0, aT1, aT2, fT0, fT1, fT2⟩ := Tp
  obtain ⟨zS, aS0, aS1, fS0, fS1⟩ := Sp
  obtain ⟨zE, aE0, aE1, aE2, fE0, fE1, fE2⟩ := Ep
  obtain ⟨zU, aU0, aU1, fU0, fU1⟩ := Up
  obtain ⟨yT, bT0, bT1, bT2, gT0, gT1, gT2⟩ := T
  obtain ⟨yS, bS0, bS1, gS0, gS1⟩ := S
  go_wp2_with fail
  refine (s7 _).mono ?_
  rintro e w7 ⟨rfl, hb⟩
  have hB := hA.trans (hb.mono hA.size)
  replace B := B.trans (hB.mono B.size)
  have T := Th.out.below' hB
  replace RV := RV.below rfl hB
  have S := Sh.out.below' hB
  replace R6 := R6.below rfl hB
  have E := Eh.out.below' hb
  have U := Uh.out.below' hb
  clear hb hA A0 A1 Th zT aT0 aT1 fT0 fT1 aT2 fT2 yT bT0 bT1 gT0 gT1 bT2 gT2 Sh zS aS0 aS1 fS0 fS1 yS bS0 bS1 gS0 gS1 Eh zE aE0 aE1 fE0 fE1 aE2 fE2 Uh zU aU0 aU1 fU0 fU1 hB
  have A0 := low_al w7 (.cells #[.string ⟨#[6, 2, 1, 99, 2, 172, 2, 101, 150, 83, 5, 6, 2, 1, 101, 2, 97, 98, 215, 99, 230, 189]⟩, .int .i64 22, .int .i64 100] 47)
  have hA := A0
  have Tp := T.below' hA
  have Th := Lib.hid T
  have Sp := S.below' hA
  have Sh := Lib.hid S
  have Ep := E.below' hA
  have Eh := Lib.hid E
  have Up := U.below' hA
  have Uh := Lib.hid U
  have C := One.made w7 (.string ⟨#[6, 2, 1, 99, 2, 172, 2, 101, 150, 83, 5, 6, 2, 1, 101, 2, 97, 98, 215, 99, 230, 189]⟩) (.int .i64 22) (.int .i64 100) 47
  have Ch := Lib.hid C
  have Cp := C
  obtain ⟨zT, aT0, aT1, aT2, fT0, fT1, fT2⟩ := Tp
  obtain ⟨zS, aS0, aS1, fS0, fS1⟩ := Sp
  obtain ⟨zE, aE0, aE1, aE2, fE0, fE1, fE2⟩ := Ep
  obtain ⟨zU, aU0, aU1, fU0, fU1⟩ := Up
  obtain ⟨zC, aC0, aC1, aC2, fC0, fC1, fC2⟩ := Cp
  obtain ⟨yT, bT0, bT1, bT2, gT0, gT1, gT2⟩ := T
  obtain ⟨yS, bS0, bS1, gS0, gS1⟩ := S
  obtain ⟨yE, bE0, bE1, bE2, gE0, gE1, gE2⟩ := E
  obtain ⟨yU, bU0, bU1, gU0, gU1⟩ := U
  go_wp2_with fail
  refine (s8 _).mono ?_
  rintro e w8 ⟨rfl, hb⟩
  have hB := hA.trans (hb.mono hA.size)
  replace B := B.trans (hB.mono B.size)
  have T := Th.out.below' hB
  replace RV := RV.below rfl hB
  have S := Sh.out.below' hB
  replace R6 := R6.below rfl hB
  have E := Eh.out.below' hB
  have U := Uh.out.below' hB
  have C := Ch.out.below' hb
  clear hb hA A0 Th zT aT0 aT1 fT0 fT1 aT2 fT2 yT bT0 bT1 gT0 gT1 bT2 gT2 Sh zS aS0 aS1 fS0 fS1 yS bS0 bS1 gS0 gS1 Eh zE aE0 aE1 fE0 fE1 aE2 fE2 yE bE0 bE1 gE0 gE1 bE2 gE2 Uh zU aU0 aU1 fU0 fU1 yU bU0 bU1 gU0 gU1 Ch zC aC0 aC1 fC0 fC1 aC2 fC2 hB
  have A0 := low_al w8 (.cells #[.string ⟨#[5, 2, 1, 99, 1, 5, 137, 14, 63, 89, 6, 2, 1, 101, 2, 97, 98, 215, 99, 230, 189, 6, 2, 1, 99, 2, 172, 2, 101, 150, 83, 5]⟩, .int .i64 0, .int .i64 100] 47)
  have hA := A0
  have Tp := T.below' hA
  have Th := Lib.hid T
  have Sp := S.below' hA
  have Sh := Lib.hid S
  have Ep := E.below' hA
  have Eh := Lib.hid E
  have Up := U.below' hA
  have Uh := Lib.hid U
  have Cp := C.below' hA
  have Ch := Lib.hid C
  obtain ⟨zT, aT0, aT1, aT2, fT0, fT1, fT2⟩ := Tp
  obtain ⟨zS, aS0, aS1, fS0, fS1⟩ := Sp
  obtain ⟨zE, aE0, aE1, aE2, fE0, fE1, fE2⟩ := Ep
  obtain ⟨zU, aU0, aU1, fU0, fU1⟩ := Up
  obtain ⟨zC, aC0, aC1, aC2, fC0, fC1, fC2⟩ := Cp
  obtain ⟨yT, bT0, bT1, bT2, gT0, gT1, gT2⟩ := T
  obtain ⟨yS, bS0, bS1, gS0, gS1⟩ := S
  obtain ⟨yE, bE0, bE1, bE2, gE0, gE1, gE2⟩ := E
  obtain ⟨yU, bU0, bU1, gU0, gU1⟩ := U
  obtain ⟨yC, bC0, bC1, bC2, gC0, gC1, gC2⟩ := C
  go_wp2_with fail
  refine (s9 _).mono ?_
  rintro e w9 ⟨rfl, hb⟩
  have hB := hA.trans (hb.mono hA.size)
  replace B := B.trans (hB.mono B.size)
  have T := Th.out.below' hB
  replace RV := RV.below rfl hB
  have S := Sh.out.below' hB
  replace R6 := R6.below rfl hB
  have E := Eh.out.below' hB
  have U := Uh.out.below' hB
  have C := Ch.out.below' hB
  clear hb hA A0 Th zT aT0 aT1 fT0 fT1 aT2 fT2 yT bT0 bT1 gT0 gT1 bT2 gT2 Sh zS aS0 aS1 fS0 fS1 yS bS0 bS1 gS0 gS1 Eh zE aE0 aE1 fE0 fE1 aE2 fE2 yE bE0 bE1 gE0 gE1 bE2 gE2 Uh zU aU0 aU1 fU0 fU1 yU bU0 bU1 gU0 gU1 Ch zC aC0 aC1 fC0 fC1 aC2 fC2 yC bC0 bC1 gC0 gC1 bC2 gC2 hB
  have hA : Below w9.heap.size w9 w9 := Below.refl _ _
  have Tp := T.below' hA
  have Th := Lib.hid T
  have Sp := S.below' hA
  have Sh := Lib.hid S
  have Ep := E.below' hA
  have Eh := Lib.hid E
  have Up := U.below' hA
  have Uh := Lib.hid U
  have Cp := C.below' hA
  have Ch := Lib.hid C
  obtain ⟨zT, aT0, aT1, aT2, fT0, fT1, fT2⟩ := Tp
  obtain ⟨zS, aS0, aS1, fS0, fS1⟩ := Sp
  obtain ⟨zE, aE0, aE1, aE2, fE0, fE1, fE2⟩ := Ep
  obtain ⟨zU, aU0, aU1, fU0, fU1⟩ := Up
  obtain ⟨zC, aC0, aC1, aC2, fC0, fC1, fC2⟩ := Cp
  go_wp2_with fail
  refine (s10 _).mono ?_
  rintro e w10 ⟨v, rfl, o, hb⟩
  have hB := hA.trans (hb.mono hA.size)
  replace B := B.trans (hB.mono B.size)
  have T := Th.out.below' hB
  replace RV := RV.below rfl hB
  have S := Sh.out.below' hB
  replace R6 := R6.below rfl hB
  have E := Eh.out.below' hB
  have U := Uh.out.below' hB
  have C := Ch.out.below' hB
  clear hb hA  Th zT aT0 aT1 fT0 fT1 aT2 fT2 Sh zS aS0 aS1 fS0 fS1 Eh zE aE0 aE1 fE0 fE1 aE2 fE2 Uh zU aU0 aU1 fU0 fU1 Ch zC aC0 aC1 fC0 fC1 aC2 fC2 hB
  obtain ⟨pj, cj, rfl⟩ := own_of o
  clear o
  have A1 := low_al w10 (.cells #[.slice pj 0 cj, .int .i64 0] 61)
  have A2 := A1.trans ((low_al (w10.alloc (.cells #[.slice pj 0 cj, .int .i64 0] 61)) (.cells #[.string ⟨#[97, 98]⟩] 9)).mono (by simp))
  have h2s : ((w10.alloc (.cells #[.slice pj 0 cj, .int .i64 0] 61)).alloc (.cells #[.string ⟨#[97, 98]⟩] 9)).heap.size = w10.heap.size + 2 := by simp
  have WR0 : StrRow ((w10.alloc (.cells #[.slice pj 0 cj, .int .i64 0] 61)).alloc (.cells #[.string ⟨#[97, 98]⟩] 9)) (.slice (some ⟨w10.heap.size + 1, 0, none⟩) 1 1) [[97, 98]] := .inr ⟨w10.heap.size + 1, 0, 1, rfl, by simp, fun j hj => by
    have : j = 0 := by simp at hj; omega
    subst this
    go_simp⟩
  have A3 := low_al ((w10.alloc (.cells #[.slice pj 0 cj, .int .i64 0] 61)).alloc (.cells #[.string ⟨#[97, 98]⟩] 9)) (.cells #[.slice (some ⟨w10.heap.size + 1, 0, none⟩) 1 1, .int .i64 300] 61)
  have K0 := Pair.made ((w10.alloc (.cells #[.slice pj 0 cj, .int .i64 0] 61)).alloc (.cells #[.string ⟨#[97, 98]⟩] 9)) (.slice (some ⟨w10.heap.size + 1, 0, none⟩) 1 1) (.int .i64 300) 61
  rw [h2s] at K0
  have WR := WR0.below rfl A3
  have A4 := A2.trans (A3.mono (by rw [h2s]; omega))
  clear WR0 A1 A2 A3 h2s
  have Tp := T.below' A4
  have Sp := S.below' A4
  have Ep := E.below' A4
  have Up := U.below' A4
  have Cp := C.below' A4
  have RVp := RV.below rfl A4
  have R6p := R6.below rfl A4
  have B4 := B.trans (A4.mono B.size)
  have Th := Lib.hid Tp
  have Sh := Lib.hid Sp
  have Eh := Lib.hid Ep
  have Uh := Lib.hid Up
  have Ch := Lib.hid Cp
  have Kh := Lib.hid K0
  have Kp := K0
  obtain ⟨zT, aT0, aT1, aT2, fT0, fT1, fT2⟩ := Tp
  obtain ⟨zS, aS0, aS1, fS0, fS1⟩ := Sp
  obtain ⟨zE, aE0, aE1, aE2, fE0, fE1, fE2⟩ := Ep
  obtain ⟨zU, aU0, aU1, fU0, fU1⟩ := Up
  obtain ⟨zC, aC0, aC1, aC2, fC0, fC1, fC2⟩ := Cp
  obtain ⟨zK, aK0, aK1, fK0, fK1⟩ := Kp
  clear B T S E U C K0
  go_wp2_with fail
  refine (same10_any (.slice pv 1 cv) (.slice (some ⟨w10.heap.size + 1, 0, none⟩) 1 1) [[97, 98]] [[97, 98]] 300 300 _ RVp WR (by decide)).mono ?_
  rintro e w11 ⟨rfl, hb⟩
  rw [show (decide ((300 : Int) = 300) && decide ([[97, 98]] = ([[97, 98]] : List (List UInt8)))) = true by decide]
  have T := Th.out.below' hb
  have S := Sh.out.below' hb
  have E := Eh.out.below' hb
  have U := Uh.out.below' hb
  have C := Ch.out.below' hb
  have K := Kh.out.below' hb
  replace WR := WR.below rfl hb
  replace R6p := R6p.below rfl hb
  replace B4 := B4.trans (hb.mono B4.size)
  clear hb Th zT aT0 aT1 fT0 fT1 aT2 fT2 Sh zS aS0 aS1 fS0 fS1 Eh zE aE0 aE1 fE0 fE1 aE2 fE2 Uh zU aU0 aU1 fU0 fU1 Ch zC aC0 aC1 fC0 fC1 aC2 fC2 Kh zK aK0 aK1 fK0 fK1 RVp RV R6 A4
  have Th := Lib.hid T
  have Sh := Lib.hid S
  have Eh := Lib.hid E
  have Uh := Lib.hid U
  have Ch := Lib.hid C
  have Kh := Lib.hid K
  obtain ⟨zT, aT0, aT1, aT2, fT0, fT1, fT2⟩ := T
  obtain ⟨zS, aS0, aS1, fS0, fS1⟩ := S
  obtain ⟨zE, aE0, aE1, aE2, fE0, fE1, fE2⟩ := E
  obtain ⟨zU, aU0, aU1, fU0, fU1⟩ := U
  obtain ⟨zC, aC0, aC1, aC2, fC0, fC1, fC2⟩ := C
  obtain ⟨zK, aK0, aK1, fK0, fK1⟩ := K
  go_wp2_with fail
  refine (same10_any (.slice pv6 1 cv6) (.slice (some ⟨w10.heap.size + 1, 0, none⟩) 1 1) [[97, 98]] [[97, 98]] 300 300 _ R6p WR (by decide)).mono ?_
  rintro e w12 ⟨rfl, hb⟩
  rw [show (decide ((300 : Int) = 300) && decide ([[97, 98]] = ([[97, 98]] : List (List UInt8)))) = true by decide]
  have T := Th.out.below' hb
  have S := Sh.out.below' hb
  have E := Eh.out.below' hb
  have U := Uh.out.below' hb
  have C := Ch.out.below' hb
  have K := Kh.out.below' hb
  replace B4 := B4.trans (hb.mono B4.size)
  clear hb Th zT aT0 aT1 fT0 fT1 aT2 fT2 Sh zS aS0 aS1 fS0 fS1 Eh zE aE0 aE1 fE0 fE1 aE2 fE2 Uh zU aU0 aU1 fU0 fU1 Ch zC aC0 aC1 fC0 fC1 aC2 fC2 Kh zK aK0 aK1 fK0 fK1
  obtain ⟨zT, aT0, aT1, aT2, fT0, fT1, fT2⟩ := T
  obtain ⟨zS, aS0, aS1, fS0, fS1⟩ := S
  obtain ⟨zE, aE0, aE1, aE2, fE0, fE1, fE2⟩ := E
  obtain ⟨zU, aU0, aU1, fU0, fU1⟩ := U
  obtain ⟨zC, aC0, aC1, aC2, fC0, fC1, fC2⟩ := C
  obtain ⟨zK, aK0, aK1, fK0, fK1⟩ := K
  go_wp2_with fail
  go_ret
  exact ⟨rfl, B4⟩
end Sto
end Go.Proofs.Ytjfibmlpjcncmaa
