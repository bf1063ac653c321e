/- A text cut at its first colon; the sign that a text begins with. -/
import Derived.Test.YtbgjoefpnjgdkaaDoorIdentLib
import Derived.BigQuiet
import Derived.Lib.IndexLaws
namespace Go.Proofs.YtbgjoefpnjgdkaaDoor
open Go.RowKit
set_option linter.unusedVariables false
set_option linter.unusedSimpArgs false
set_option maxRecDepth 100000
namespace Named
open Go.Shelf in
def laysIB_ren : Go.Shelf.Ren := ⟨fun | 217 => 157 | 266 => 173 | n => n, fun | 9 => 9 | 5 => 5 | 3 => 3 | n => n, fun | n => n⟩
theorem laysIB : Go.Proofs.Lays.n217 Tryd.prog laysIB_ren := {
  mixed := by kernel_rfl
  f217 := Tryd.func157.trans (congrArg some (by kernel_rfl))
  f266 := Tryd.func173.trans (congrArg some (by kernel_rfl))
  t3 := Tryd.underlying3
  a3 := Tryd.isAgg3
  z3 := Tryd.sizeOf3
  v3 := Tryd.zeroValue3
  t5 := Tryd.underlying5
  a5 := Tryd.isAgg5
  z5 := Tryd.sizeOf5
  v5 := Tryd.zeroValue5
  t9 := Tryd.underlying9
  a9 := Tryd.isAgg9
  z9 := Tryd.sizeOf9
  v9 := Tryd.zeroValue9 }
theorem indexByte_colon (s : List UInt8) (w : World) : Calls Tryd.prog 157 #[.string ⟨s.toArray⟩, .int .u8 58] w fun e w' => e = .returned (.int .i64 (Lib.indexByte s 58)) ∧ w' = w :=
  Any.stringslite_IndexByte laysIB ⟨s.toArray⟩ 58 w

theorem index_colon (s : List UInt8) (w : World) : Calls Tryd.prog 141 #[.string ⟨s.toArray⟩, .string ⟨#[58]⟩] w fun e w' => e = .returned (.int .i64 (Lib.indexByte s 58)) ∧ Below w.heap.size w w' := by
  have HC := Lib.hid (indexByte_colon s)
  obtain ⟨z, hz⟩ : ∃ z, Lib.indexByte s 58 = z := ⟨_, rfl⟩
  rw [hz] at HC ⊢
  by_cases h : (⟨#[58]⟩ : ByteArray) = ⟨s.toArray⟩
  · have hs : s = [58] := by
      have := congrArg (fun b : ByteArray => b.data.toList) h
      simpa using this.symm
    subst hs
    have hz0 : z = 0 := by rw [← hz]; rfl
    subst hz0
    clear h hz
    go_enter Tryd.func141, Tryd.ntmps141
    go_wp2
    go_ret
    exact ⟨rfl, Below.refl _ _⟩
  · have h2 : (([58] : List UInt8) == s) = false := by
      rw [beq_eq_false_iff_ne]
      rintro rfl
      exact h rfl
    go_enter Tryd.func141, Tryd.ntmps141
    go_wp2_with (go_at_call 157; refine (HC.out _).mono ?_; rintro e w' ⟨rfl, rfl⟩)
    go_ret
    exact ⟨rfl, Below.refl _ _⟩

theorem cut_colon (s : List UInt8) (hs : s.length ≤ maxLen) (w : World) : Calls Tryd.prog 111 #[.string ⟨s.toArray⟩, .string ⟨#[58]⟩] w fun e w' => (∃ b, e = .returned (.tuple #[.string ⟨(cutL s).1.toArray⟩, .string ⟨(cutL s).2.toArray⟩, .bool b])) ∧ Below w.heap.size w w' := by
  have HC := Lib.hid (index_colon s)
  have HL := Lib.hid hs
  have hz : (ByteArray.mk s.toArray).size = s.length := by simp [ByteArray.size]
  rcases Int.lt_or_le (Lib.indexByte s 58) 0 with hi | hi
  · have HE := Lib.hid (show cutL s = (s, []) by rw [cutL, if_neg (by omega)])
    generalize Lib.indexByte s 58 = z at HC hi
    go_enter Tryd.func111, Tryd.ntmps111
    go_wp2_with (go_at_call 141; refine (HC.out _).mono ?_; rintro e w' ⟨rfl, hb⟩)
    go_ret3
    rw [HE.out]
    exact ⟨⟨_, rfl⟩, hb⟩
  · obtain ⟨i, hi2⟩ : ∃ i : Nat, Lib.indexByte s 58 = (i : Int) := ⟨(Lib.indexByte s 58).toNat, by omega⟩
    have hil : i < s.length := by
      have := (Lib.indexByte_some hi2).1
      exact (List.getElem?_eq_some_iff.1 this).1
    have HE := Lib.hid (show cutL s = (s.take i, s.drop (i + 1)) by rw [cutL, if_pos (by omega), hi2]; rfl)
    rw [hi2] at HC
    have h1 : (0 : Int) ≤ (i : Int) := by omega
    have h2 : (i : Int) ≤ (s.length : Int) := by omega
    have h3 : (0 : Int) ≤ (i : Int) + 1 := by omega
    have h4 : (i : Int) + 1 ≤ (s.length : Int) := by omega
    have h5 : (i : Int) + 1 ≤ 9223372036854775807 := by unfold maxLen at hs; omega
    have HX := Lib.hid (show (⟨s.toArray⟩ : ByteArray).extract 0 i = ⟨(s.take i).toArray⟩ by refine ByteArray.ext ?_; rw [← Array.toList_inj]; simp)
    have HY := Lib.hid (show (⟨s.toArray⟩ : ByteArray).extract (i + 1) s.length = ⟨(s.drop (i + 1)).toArray⟩ by refine ByteArray.ext ?_; rw [← Array.toList_inj]; simp [List.take_of_length_le])
    clear hi hi2 hs
    go_enter Tryd.func111, Tryd.ntmps111
    go_wp2_with (go_at_call 141; refine (HC.out _).mono ?_; rintro e w' ⟨rfl, hb⟩)
    go_quiet (fail)
    go_wp2
    go_ret3
    rw [HE.out, ← HX.out, ← HY.out]
    exact ⟨⟨_, rfl⟩, ⟨hb.os, hb.tape, hb.output, hb.size, hb.block⟩⟩

theorem cut_any (s : List UInt8) (hs : s.length ≤ maxLen) (w : World) : Calls Tryd.prog 68 #[.string ⟨s.toArray⟩, .string ⟨#[58]⟩] w fun e w' => (∃ b, e = .returned (.tuple #[.string ⟨(cutL s).1.toArray⟩, .string ⟨(cutL s).2.toArray⟩, .bool b])) ∧ Below w.heap.size w w' := by
  have HC := Lib.hid (cut_colon s hs)
  clear hs
  go_enter Tryd.func68, Tryd.ntmps68
  go_wp2_with (go_at_call 111; refine (HC.out _).mono ?_; rintro e w' ⟨⟨b, rfl⟩, hb⟩)
  go_ret3
  exact ⟨⟨b, rfl⟩, hb⟩

/-- does a text begin with this byte -/
theorem prefix_one (s : List UInt8) (c : UInt8) (w : World) : Calls Tryd.prog 140 #[.string ⟨s.toArray⟩, .string ⟨#[c]⟩] w fun e w' => e = .returned (.bool (decide (s.head? = some c))) ∧ w' = w := by
  cases s with
  | nil =>
    go_enter Tryd.func140, Tryd.ntmps140
    go_wp2
    go_ret
    exact ⟨rfl, rfl⟩
  | cons d r =>
    have hz : (ByteArray.mk (d :: r).toArray).size = r.length + 1 := by simp [ByteArray.size]
    have h1 : (1 : Int) ≤ (r.length : Int) + 1 := by omega
    have hx : (ByteArray.mk (d :: r).toArray).extract 0 1 = ⟨#[d]⟩ := by refine ByteArray.ext ?_; rw [← Array.toList_inj]; simp
    by_cases h : d = c
    · subst h
      have HV := Lib.hid (show decide ((d :: r).head? = some d) = true by simp)
      go_enter Tryd.func140, Tryd.ntmps140
      go_wp2
      go_ret
      exact ⟨Eq.trans (b := Ending.returned (.bool true)) rfl (by rw [HV.out]), rfl⟩
    · have HV := Lib.hid (show decide ((d :: r).head? = some c) = false by simp [h])
      have h2 : (d == c) = false := by simpa using h
      go_enter Tryd.func140, Tryd.ntmps140
      go_wp2
      go_ret
      exact ⟨Eq.trans (b := Ending.returned (.bool false)) rfl (by rw [HV.out]), rfl⟩

theorem hasPrefix_one (s : List UInt8) (c : UInt8) (w : World) : Calls Tryd.prog 110 #[.string ⟨s.toArray⟩, .string ⟨#[c]⟩] w fun e w' => e = .returned (.bool (decide (s.head? = some c))) ∧ w' = w := by
  have HC := Lib.hid (prefix_one s c)
  generalize decide (s.head? = some c) = b at *
  go_enter Tryd.func110, Tryd.ntmps110
  go_wp2_with (go_at_call 140; refine (HC.out _).mono ?_; rintro e w' ⟨rfl, rfl⟩)
  go_ret
  exact ⟨rfl, rfl⟩
end Named
end Go.Proofs.YtbgjoefpnjgdkaaDoor
