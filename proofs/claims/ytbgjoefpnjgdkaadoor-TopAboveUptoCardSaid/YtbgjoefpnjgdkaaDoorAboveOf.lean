/- power.level, of, Of. -/
import Derived.Test.YtbgjoefpnjgdkaaDoorAboveFind
namespace Go.Proofs.YtbgjoefpnjgdkaaDoor
open Go.RowKit
set_option linter.unusedVariables false
set_option linter.unusedSimpArgs false
set_option maxRecDepth 100000
namespace Above
theorem level_any (n : Int) (w : World) : Calls Tryd.prog 118 #[.int .i64 n] w fun e w' => e = .returned (.bool (decide (0 ≤ n ∧ n ≤ 100))) ∧ w' = w := by
  by_cases h0 : 0 ≤ n
  · by_cases h1 : n ≤ 100
    · have HR := Lib.hid (show decide (0 ≤ n ∧ n ≤ 100) = true by simp; omega)
      go_enter Tryd.func118, Tryd.ntmps118
      go_wp2_with fail
      go_ret
      exact ⟨Eq.trans (b := Ending.returned (.bool true)) (by simp [h1]) (by simp; omega), rfl⟩
    · have i1 : 100 < n := by omega
      go_enter Tryd.func118, Tryd.ntmps118
      go_wp2_with fail
      go_ret
      exact ⟨Eq.trans (b := Ending.returned (.bool false)) (by simp; try omega) (by simp; omega), rfl⟩
  · have i0 : n < 0 := by omega
    go_enter Tryd.func118, Tryd.ntmps118
    go_wp2_with fail
    go_ret
    exact ⟨Eq.trans (b := Ending.returned (.bool false)) (by simp; try omega) (by simp; omega), rfl⟩

set_option maxHeartbeats 1000000 in
theorem of_any (n0 n1 n2 n3 n4 n5 : Int) (v : Value) (w : World) :
    Calls Tryd.prog 77 #[levV n0 n1 n2 n3 n4 n5 v] w fun e w' => e = .returned (.agg #[.int .i64 n0, .int .i64 n1, .int .i64 n2, .int .i64 n3, .int .i64 n4, .int .i64 n5]) ∧ Below w.heap.size w w' := by
  unfold levV
  have A0 := Blk.new w #[.int .i64 n0, .int .i64 n1, .int .i64 n2, .int .i64 n3, .int .i64 n4, .int .i64 n5, v] 72
  have B0 := (Below.refl w.heap.size w).alloc (Nat.le_refl _) (.cells #[.int .i64 n0, .int .i64 n1, .int .i64 n2, .int .i64 n3, .int .i64 n4, .int .i64 n5, v] 72)
  go_enter Tryd.func77, Tryd.ntmps77
  go_wp2_with fail
  have hz : (w.alloc (.cells #[.int .i64 n0, .int .i64 n1, .int .i64 n2, .int .i64 n3, .int .i64 n4, .int .i64 n5, v] 72)).heap.size = w.heap.size + 1 := by simp
  have A1 := Blk.new (w.alloc (.cells #[.int .i64 n0, .int .i64 n1, .int .i64 n2, .int .i64 n3, .int .i64 n4, .int .i64 n5, v] 72)) #[.int .i64 n0, .int .i64 n1, .int .i64 n2, .int .i64 n3, .int .i64 n4, .int .i64 n5] 162
  have B1 := B0.alloc B0.size (.cells #[.int .i64 n0, .int .i64 n1, .int .i64 n2, .int .i64 n3, .int .i64 n4, .int .i64 n5] 162)
  rw [hz] at A1
  generalize (w.alloc (.cells #[.int .i64 n0, .int .i64 n1, .int .i64 n2, .int .i64 n3, .int .i64 n4, .int .i64 n5, v] 72)).alloc (.cells #[.int .i64 n0, .int .i64 n1, .int .i64 n2, .int .i64 n3, .int .i64 n4, .int .i64 n5] 162) = w9 at *
  have d0 := A1.cell 0 rfl
  have d1 := A1.cell 1 rfl
  have d2 := A1.cell 2 rfl
  have d3 := A1.cell 3 rfl
  have d4 := A1.cell 4 rfl
  have d5 := A1.cell 5 rfl
  refine bodyPost_ret (v := .agg #[.int .i64 n0, .int .i64 n1, .int .i64 n2, .int .i64 n3, .int .i64 n4, .int .i64 n5]) (by simp [results, Tryd.f77, go_sem, d0, d1, d2, d3, d4, d5]) rfl ?_
  exact ⟨rfl, B1⟩

set_option maxHeartbeats 1000000 in
theorem ofL_any (n0 n1 n2 n3 n4 n5 : Int) (v : Value) (us : List (List UInt8 × Int)) (x : List UInt8) (w : World) (hr : LRow w v us) (hl : us.length ≤ 1048577) :
    Calls Tryd.prog 31 #[levV n0 n1 n2 n3 n4 n5 v, .string ⟨x.toArray⟩] w fun e w' => e = .returned (.int .i64 (ofL n0 us x)) ∧ Below w.heap.size w w' := by
  have HF := Lib.hid (fun w' (hb : Below w.heap.size w w') => find_any n0 n1 n2 n3 n4 n5 v us x w' (hr.low hb) hl)
  have HR : Hid (ofL n0 us x = if (findL us x).2 = true then (findL us x).1 else n0) := Lib.hid rfl
  generalize ofL n0 us x = res at *
  generalize findL us x = f at *
  obtain ⟨m, is⟩ := f
  dsimp only at HF HR
  unfold levV at *
  have A0 := Blk.new w #[.int .i64 n0, .int .i64 n1, .int .i64 n2, .int .i64 n3, .int .i64 n4, .int .i64 n5, v] 72
  have B0 := (Below.refl w.heap.size w).alloc (Nat.le_refl _) (.cells #[.int .i64 n0, .int .i64 n1, .int .i64 n2, .int .i64 n3, .int .i64 n4, .int .i64 n5, v] 72)
  clear hr
  go_enter Tryd.func31, Tryd.ntmps31
  go_wp2_with fail
  generalize w.alloc (.cells #[.int .i64 n0, .int .i64 n1, .int .i64 n2, .int .i64 n3, .int .i64 n4, .int .i64 n5, v] 72) = w1 at *
  refine (HF.out _ B0).mono ?_
  rintro e w2 ⟨rfl, hb⟩
  have A1 := A0.low hb
  have B1 := B0.trans (hb.mono B0.size)
  have c0 := A1.cell 0 rfl
  cases is with
  | true =>
    have HRR := Lib.hid (show res = m by rw [HR.out, if_pos rfl])
    go_wp2_with fail
    go_ret
    exact ⟨by rw [HRR.out]; rfl, B1⟩
  | false =>
    have HRR := Lib.hid (show res = n0 by rw [HR.out, if_neg (by decide)])
    go_wp2_with fail
    go_ret
    exact ⟨by rw [HRR.out]; rfl, B1⟩
end Above
end Go.Proofs.YtbgjoefpnjgdkaaDoor
