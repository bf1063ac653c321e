/- The contracts of package disk and of its reference, one a function, for every disk: both by one and the same plain function. -/
import Derived.Test.YtjfibmlpjcncmaaDiskWalks
import Derived.Test.YtjfibmlpjcncmaaDiskFail
namespace Go.Proofs.Ytjfibmlpjcncmaa
open Go.RowKit
set_option linter.unusedVariables false
set_option maxRecDepth 4000
namespace Disk

def rightB (D : ByteArray) (S R : Int) : Bool := decide (0 ≤ S) && decide (S ≤ (D.size : Int)) && decide ((D.size : Int) ≤ R) && decide (R ≤ 1048576)
theorem right_iff (D : ByteArray) (S R : Int) : rightB D S R = true ↔ Right D S R := by
  unfold rightB Right; simp only [Bool.and_eq_true, decide_eq_true_eq, and_assoc]

/-- a disk, and why -/
structure Res where
  d : ByteArray
  s : Int
  r : Int
  e : Int

def chkE (D : ByteArray) (S R : Int) : Int := if rightB D S R then 0 else 2
def zero (e : Int) : Res := ⟨⟨#[]⟩, 0, 0, e⟩
def writeR (D : ByteArray) (S R : Int) (t : ByteArray) : Res := if rightB D S R then (if (t.size : Int) ≤ R - (D.size : Int) then ⟨D ++ t, S, R, 0⟩ else ⟨D, S, R, 8⟩) else zero 2
def syncR (D : ByteArray) (S R : Int) : Res := if rightB D S R then ⟨D, D.size, R, 0⟩ else zero 2
def swapR (D : ByteArray) (S R : Int) (t : ByteArray) : Res := if rightB D S R then (if (t.size : Int) ≤ R then ⟨t, t.size, R, 0⟩ else ⟨D, S, R, 8⟩) else zero 2
def newR (R : Int) : Res := if 0 ≤ R ∧ R ≤ 1048576 then ⟨⟨#[]⟩, 0, R, 0⟩ else zero 1
/-- how many bytes that were not synced stay -/
def stays (D : ByteArray) (S k : Int) : Nat := (min (max k 0) ((D.size : Int) - S)).toNat
def failR (D : ByteArray) (S R k : Int) (b : UInt8) : Res :=
  if rightB D S R then
    (if stays D S k = 0 then ⟨⟨(D.data.toList.take S.toNat).toArray⟩, S, R, 0⟩
     else ⟨⟨(lastXor (D.data.toList.take (S.toNat + stays D S k)) b).toArray⟩, S + (stays D S k : Int), R, 0⟩)
  else zero 2

theorem check_any (D : ByteArray) (S R : Int) (w : World) :
    Calls Try.prog 62 #[.agg #[.string D, .int .i64 S, .int .i64 R]] w fun e w' => e = .returned (.int .i64 (chkE D S R)) ∧ Below w.heap.size w w' := by
  unfold chkE
  by_cases h : rightB D S R = true
  · rw [if_pos h]; exact check_ok D S R ((right_iff D S R).1 h) w
  · rw [if_neg h]; exact check_bad D S R (fun hr => h ((right_iff D S R).2 hr)) w

theorem write_any (D : ByteArray) (S R : Int) (t : ByteArray) (w : World) :
    Calls Try.prog 58 #[.agg #[.string D, .int .i64 S, .int .i64 R], .string t] w fun e w' => e = .returned (.tuple #[.agg #[.string (writeR D S R t).d, .int .i64 (writeR D S R t).s, .int .i64 (writeR D S R t).r], .int .i64 (writeR D S R t).e]) ∧ Below w.heap.size w w' := by
  unfold writeR
  by_cases h : rightB D S R = true
  · rw [if_pos h]
    by_cases hl : (t.size : Int) ≤ R - (D.size : Int)
    · rw [if_pos hl]; exact write_ok D S R t ((right_iff D S R).1 h) hl w
    · rw [if_neg hl]; exact write_full D S R t ((right_iff D S R).1 h) (by omega) w
  · rw [if_neg h]; exact write_bad D S R t (fun hr => h ((right_iff D S R).2 hr)) w

theorem sync_any (D : ByteArray) (S R : Int) (w : World) :
    Calls Try.prog 41 #[.agg #[.string D, .int .i64 S, .int .i64 R]] w fun e w' => e = .returned (.tuple #[.agg #[.string (syncR D S R).d, .int .i64 (syncR D S R).s, .int .i64 (syncR D S R).r], .int .i64 (syncR D S R).e]) ∧ Below w.heap.size w w' := by
  unfold syncR
  by_cases h : rightB D S R = true
  · rw [if_pos h]; exact sync_ok D S R ((right_iff D S R).1 h) w
  · rw [if_neg h]; exact sync_bad D S R (fun hr => h ((right_iff D S R).2 hr)) w

theorem swap_any (D : ByteArray) (S R : Int) (t : ByteArray) (w : World) :
    Calls Try.prog 65 #[.agg #[.string D, .int .i64 S, .int .i64 R], .string t] w fun e w' => e = .returned (.tuple #[.agg #[.string (swapR D S R t).d, .int .i64 (swapR D S R t).s, .int .i64 (swapR D S R t).r], .int .i64 (swapR D S R t).e]) ∧ Below w.heap.size w w' := by
  unfold swapR
  by_cases h : rightB D S R = true
  · rw [if_pos h]
    by_cases hl : (t.size : Int) ≤ R
    · rw [if_pos hl]; exact swap_ok D S R t ((right_iff D S R).1 h) hl w
    · rw [if_neg hl]; exact swap_full D S R t ((right_iff D S R).1 h) (by omega) w
  · rw [if_neg h]; exact swap_bad D S R t (fun hr => h ((right_iff D S R).2 hr)) w

theorem new_any (R : Int) (w : World) :
    Calls Try.prog 40 #[.int .i64 R] w fun e w' => e = .returned (.tuple #[.agg #[.string (newR R).d, .int .i64 (newR R).s, .int .i64 (newR R).r], .int .i64 (newR R).e]) ∧ Below w.heap.size w w' := by
  unfold newR
  by_cases h : 0 ≤ R ∧ R ≤ 1048576
  · rw [if_pos h]; exact new_ok R h w
  · rw [if_neg h]; exact new_bad R (by omega) w

theorem fail_any (D : ByteArray) (S R k : Int) (b : UInt8) (w : World) :
    Calls Try.prog 42 #[.agg #[.string D, .int .i64 S, .int .i64 R], .int .i64 k, .int .u8 (b.toNat : Int)] w fun e w' => e = .returned (.tuple #[.agg #[.string (failR D S R k b).d, .int .i64 (failR D S R k b).s, .int .i64 (failR D S R k b).r], .int .i64 (failR D S R k b).e]) ∧ Below w.heap.size w w' := by
  unfold failR
  by_cases h : rightB D S R = true
  · rw [if_pos h]
    have hr := (right_iff D S R).1 h
    obtain ⟨h1, h2, h3, h4⟩ := hr
    obtain ⟨p, rfl⟩ := Int.eq_ofNat_of_zero_le h1
    have hst : (stays D p k : Int) = min (max k 0) ((D.size : Int) - p) := by unfold stays; omega
    by_cases hs : stays D p k = 0
    · rw [if_pos hs]
      exact fail_none D p R k b ⟨h1, h2, h3, h4⟩ w (fun W => by rw [run_max_int2]; congr 2; split <;> omega) (fun W => by rw [run_min_int2]; congr 2; split <;> omega)
    · rw [if_neg hs]
      have hq := hst
      generalize stays D p k = q at *
      exact fail_some D p q R k b ⟨h1, h2, h3, h4⟩ (by omega) (by omega) w (fun W => by rw [run_max_int2]; congr 2; split <;> omega) (fun W => by rw [run_min_int2]; congr 2; split <;> omega)
  · rw [if_neg h]; exact fail_bad D S R k (b.toNat : Int) (fun hr => h ((right_iff D S R).2 hr)) w

theorem rcheck_any (D : ByteArray) (S R : Int) (w : World) :
    Calls Try.prog 63 #[.agg #[.string D, .int .i64 S, .int .i64 R]] w fun e w' => e = .returned (.int .i64 (chkE D S R)) ∧ Below w.heap.size w w' := by
  unfold chkE
  by_cases h : rightB D S R = true
  · rw [if_pos h]; exact rcheck_ok D S R ((right_iff D S R).1 h) w
  · rw [if_neg h]; exact rcheck_bad D S R (fun hr => h ((right_iff D S R).2 hr)) w

theorem rwrite_any (D : ByteArray) (S R : Int) (t : ByteArray) (w : World) :
    Calls Try.prog 64 #[.agg #[.string D, .int .i64 S, .int .i64 R], .string t] w fun e w' => e = .returned (.tuple #[.agg #[.string (writeR D S R t).d, .int .i64 (writeR D S R t).s, .int .i64 (writeR D S R t).r], .int .i64 (writeR D S R t).e]) ∧ Below w.heap.size w w' := by
  unfold writeR
  by_cases h : rightB D S R = true
  · rw [if_pos h]
    by_cases hl : (t.size : Int) ≤ R - (D.size : Int)
    · rw [if_pos hl]; exact rwrite_ok D S R t ((right_iff D S R).1 h) hl w
    · rw [if_neg hl]; exact rwrite_full D S R t ((right_iff D S R).1 h) (by omega) w
  · rw [if_neg h]; exact rwrite_bad D S R t (fun hr => h ((right_iff D S R).2 hr)) w

end Disk
end Go.Proofs.Ytjfibmlpjcncmaa
