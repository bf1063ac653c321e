/- The walks of GetText and Text, the program's and the document's. -/
import Derived.Test.YtbgjoefpnjgdkaaDoorOctRef
import Derived.Lib.AppendStr
import Derived.Deep.DeepMust
namespace Go.Proofs.YtbgjoefpnjgdkaaDoor
open Go.RowKit
set_option linter.unusedVariables false
set_option linter.unusedSimpArgs false
set_option maxRecDepth 4000
namespace Oct

theorem gn_spec (f : Nat) : ∀ (i acc : Nat) (l : List UInt8), ((gn f i acc l).2.2 = 0 → (gn f i acc l).1 ≤ 281474976710656 ∧ i < (gn f i acc l).2.1 ∧ (gn f i acc l).2.1 ≤ i + f ∧ (gn f i acc l).2.1 ≤ i + l.length) ∧ ((gn f i acc l).2.2 ≠ 0 → (gn f i acc l).1 = 0 ∧ (gn f i acc l).2.1 = 0 ∧ ((gn f i acc l).2.2 = 5 ∨ (gn f i acc l).2.2 = 6)) := by
  induction f with
  | zero => intro i acc l; simp [gn]
  | succ f ih =>
    intro i acc l
    cases l with
    | nil => simp [gn]
    | cons b t =>
      rw [gn]
      split
      · have h := ih (i + 1) (acc + b.toNat % 128 * 128 ^ i) t
        generalize gn f (i + 1) (acc + b.toNat % 128 * 128 ^ i) t = g at h
        refine ⟨fun h0 => ?_, fun h0 => h.2 h0⟩
        have := h.1 h0
        simp; omega
      · split
        · simp
        · simp; omega

theorem getNum_spec (l : List UInt8) : ∃ n u e, getNum l = (n, u, e) ∧ (e = 0 → n ≤ 281474976710656 ∧ 0 < u ∧ u ≤ 7 ∧ u ≤ l.length) ∧ (e ≠ 0 → n = 0 ∧ u = 0 ∧ (e = 5 ∨ e = 6)) := by
  have h := gn_spec 7 0 0 l
  refine ⟨(getNum l).1, (getNum l).2.1, (getNum l).2.2, rfl, fun h0 => ?_, fun h0 => h.2 h0⟩
  have := h.1 h0
  simp only [getNum]
  omega

/-- the text that bytes begin with: the text, how many bytes, and why not -/
def getText (l : List UInt8) : List UInt8 × Nat × Nat :=
  if (getNum l).2.2 ≠ 0 then ([], 0, (getNum l).2.2)
  else if 8192 < (getNum l).1 then ([], 0, 7)
  else if l.length < (getNum l).2.1 + (getNum l).1 then ([], 0, 5)
  else ((l.drop (getNum l).2.1).take (getNum l).1, (getNum l).2.1 + (getNum l).1, 0)

theorem ext_take (l : List UInt8) (u n : Nat) : (⟨l.toArray⟩ : ByteArray).extract u (u + n) = ⟨((l.drop u).take n).toArray⟩ := by
  refine ByteArray.ext ?_
  rw [← Array.toList_inj]
  simp

set_option maxHeartbeats 1000000 in
theorem getText_any (l : List UInt8) (hl : l.length ≤ maxLen) (w : World) :
    Calls Tryd.prog 131 #[.string ⟨l.toArray⟩] w fun e w' => e = .returned (.tuple #[.string ⟨(getText l).1.toArray⟩, .int .i64 ((getText l).2.1 : Int), .int .i64 ((getText l).2.2 : Int)]) ∧ w = w' := by
  obtain ⟨n, u, e, hg, h0, h1⟩ := getNum_spec l
  have HL := Lib.hid hl
  clear hl
  have hc := fun w => getNum_any l w
  rw [hg] at hc
  have HT : Hid (getText l = if e ≠ 0 then ([], 0, e) else if 8192 < n then ([], 0, 7) else if l.length < u + n then ([], 0, 5) else ((l.drop u).take n, u + n, 0)) := by
    refine Lib.hid ?_
    rw [getText, hg]
  go_enter Tryd.func131, Tryd.ntmps131
  go_wp2_with fail
  refine (hc _).mono ?_
  rintro e1 w1 ⟨rfl, rfl⟩
  clear hc hg
  have ht := HT.out
  by_cases he : e = 0
  · subst he
    have h0' := h0 rfl
    have HN : Hid (n ≤ 281474976710656) := Lib.hid h0'.1
    obtain ⟨-, hu0, hu7, hul⟩ := h0'
    clear h0 h1
    rw [if_neg (by simp)] at ht
    by_cases hn : 8192 < n
    · rw [if_pos hn] at ht
      have HT := Lib.hid ht
      clear ht
      have hni : (8192 : Int) < (n : Int) := by omega
      go_wp2
      go_ret3
      rw [HT.out]; exact ⟨rfl, rfl⟩
    · rw [if_neg hn] at ht
      have hni : (n : Int) ≤ 8192 := by omega
      by_cases hs : l.length < u + n
      · rw [if_pos hs] at ht
        have HT := Lib.hid ht
        clear ht
        have hsi : (l.length : Int) - (u : Int) < (n : Int) := by omega
        go_wp2
        go_ret3
        rw [HT.out]; exact ⟨rfl, rfl⟩
      · rw [if_neg hs] at ht
        have HT := Lib.hid ht
        clear ht
        have hsi : decide ((l.length : Int) - (u : Int) < (n : Int)) = false := decide_eq_false (by omega)
        have hs1 : (0 : Int) ≤ (u : Int) := by omega
        have hs2 : (u : Int) ≤ (u : Int) + (n : Int) := by omega
        have hs3 : (u : Int) + (n : Int) ≤ (l.length : Int) := by omega
        obtain ⟨d, hd⟩ : ∃ d, l.length = u + d := ⟨l.length - u, by omega⟩
        have hlm : (l.length : Int) ≤ 9223372036854775807 := by have := HL.out; unfold maxLen at this; omega
        have hw1 : wrap64 ((l.length : Int) - (u : Int)) = (d : Int) := by unfold wrap64; omega
        have hw2 : IntKind.u64.wrap (d : Int) = (d : Int) := by rw [IntKind.wrap_u64]; omega
        have hdn : decide (d < n) = false := decide_eq_false (by omega)
        clear hsi hlm hd
        go_wp2
        go_ret3
        rw [HT.out]; exact ⟨by rw [← ext_take]; rfl, rfl⟩
  · rw [if_pos he] at ht
    have HT := Lib.hid ht
    clear ht
    have hei : ¬ (e : Int) = 0 := by omega
    go_wp2
    go_ret3
    rw [HT.out]; exact ⟨rfl, rfl⟩

/-- a text's bytes -/
def textL (t : List UInt8) : List UInt8 := putL t.length ++ t

theorem strCells_list (t : List UInt8) : Lib.strCells ⟨t.toArray⟩ = bytesV t := by
  simp [Lib.strCells, bytesV]

end Oct
end Go.Proofs.YtbgjoefpnjgdkaaDoor
