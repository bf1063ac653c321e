/- The walk of octet.All; each function of the chapter under one contract for all arguments. -/
import Derived.Test.YtbgjoefpnjgdkaaDoorOctGets
namespace Go.Proofs.YtbgjoefpnjgdkaaDoor
open Go.RowKit
set_option linter.unusedVariables false
set_option linter.unusedSimpArgs false
set_option maxRecDepth 4000
namespace Oct

set_option maxHeartbeats 1000000 in
theorem all_any (l : List UInt8) (hl : l.length ≤ maxLen) (w : World) :
    Calls Tryd.prog 11 #[.string ⟨l.toArray⟩] w fun e w' => ∃ v, e = .returned (.tuple #[v, .int .i64 ((allR l).2 : Int)]) ∧ OwnS w.heap.size w' v (allR l).1 ∧ Below w.heap.size w w' := by
  obtain ⟨ls, u, e, hg, h0, h1, h2⟩ := getList_spec l
  have hc := fun w => getList_any l hl w
  rw [hg] at hc
  have HT : Hid (allR l = if e ≠ 0 then ([], e) else if u < l.length then ([], 6) else (ls, 0)) := by
    refine Lib.hid ?_
    rw [allR, hg]
  have HL := Lib.hid hl
  clear hl
  go_enter Tryd.func11, Tryd.ntmps11
  go_wp2_with fail
  refine (hc _).mono ?_
  rintro e1 w1 ⟨v, rfl, hv, hbw⟩
  clear hc hg
  have HV := Lib.hid hv
  clear hv
  have ht := HT.out
  by_cases he : e = 0
  · subst he
    have h0' := h0 rfl
    clear h0 h1
    rw [if_neg (by simp)] at ht
    by_cases hn : u < l.length
    · rw [if_pos hn] at ht
      have HT := Lib.hid ht
      clear ht
      have hni : (u : Int) < (l.length : Int) := by omega
      go_wp2
      go_ret2
      rw [HT.out]; exact ⟨_, rfl, OwnS.nil _ _, hbw⟩
    · rw [if_neg hn] at ht
      have HT := Lib.hid ht
      clear ht
      have hni : ¬ (u : Int) < (l.length : Int) := by omega
      go_wp2
      go_ret2
      rw [HT.out]; exact ⟨_, rfl, HV.out, hbw⟩
  · rw [if_pos he] at ht
    have HT := Lib.hid ht
    clear ht
    have hei : ¬ (e : Int) = 0 := by omega
    go_wp2
    go_ret2
    rw [HT.out]; exact ⟨_, rfl, OwnS.nil _ _, hbw⟩

/-- a number's bytes, or none -/
def numR (n : Nat) : List UInt8 × Nat := if n ≤ 281474976710656 then (putL n, 0) else ([], 1)
theorem num_any (n : Nat) (w : World) :
    Calls Tryd.prog 38 #[.int .u64 (n : Int)] w fun e w' => e = .returned (.tuple #[.string ⟨(numR n).1.toArray⟩, .int .i64 ((numR n).2 : Int)]) ∧ Below w.heap.size w w' := by
  by_cases hn : n ≤ 281474976710656
  · rw [numR, if_pos hn]; exact num_ok n hn w
  · rw [numR, if_neg hn]
    refine (num_bad n (by omega) w).mono ?_
    rintro e w' ⟨rfl, rfl⟩
    exact ⟨rfl, Below.refl _ _⟩
/-- a text's bytes, or none -/
def textR (t : List UInt8) : List UInt8 × Nat := if t.length ≤ 8192 then (textL t, 0) else ([], 7)
end Oct
end Go.Proofs.YtbgjoefpnjgdkaaDoor
