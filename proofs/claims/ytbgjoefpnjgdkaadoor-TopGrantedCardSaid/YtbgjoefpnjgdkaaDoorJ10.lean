/- Joined of 2 texts: their lemmas, one behind the other; each says below what it holds. -/
import Derived.Test.YtbgjoefpnjgdkaaDoorKOctNum
import Derived.Lib.Strings
import Derived.Lib.AppendStr
import Derived.Deep.DeepMust
/- The walk of the document's GetNum. -/
namespace Go.Proofs.YtbgjoefpnjgdkaaDoor
open Go.RowKit
set_option linter.unusedVariables false
set_option maxRecDepth 4000
namespace Oct

def val : List UInt8 → Nat
  | [] => 0
  | b :: t => b.toNat % 128 + 128 * val t

theorem val_append (l : List UInt8) (b : UInt8) : val (l ++ [b]) = val l + b.toNat % 128 * 128 ^ l.length := by
  induction l with
  | nil => simp [val]
  | cons c l ih =>
    rw [List.cons_append, val, val, ih, List.length_cons, Nat.pow_succ, Nat.mul_add, ← Nat.add_assoc]
    congr 1
    rw [← Nat.mul_assoc, Nat.mul_comm 128, Nat.mul_assoc, Nat.mul_comm 128]

theorem canon (pre : List UInt8) : ∀ (b : UInt8) (f : Nat), (∀ c ∈ pre, 128 ≤ c.toNat) → b.toNat < 128 → pre.length ≤ f → (putF f (val (pre ++ [b])) = pre ++ [b] ↔ ¬ (b.toNat = 0 ∧ 0 < pre.length)) := by
  induction pre with
  | nil =>
    intro b f _ hb _
    have hv : val ([] ++ [b]) = b.toNat := by simp [val]; omega
    rw [hv]
    have : putF f b.toNat = [b] := by
      have he : UInt8.ofNat b.toNat = b := by simp
      cases f with
      | zero => rw [putF, he]
      | succ f => rw [putF, if_neg (by omega), he]
    rw [this]; simp
  | cons c pre ih =>
    intro b f hc hb hf
    obtain ⟨f', rfl⟩ : ∃ f', f = f' + 1 := ⟨f - 1, by simp at hf; omega⟩
    have h := ih b f' (fun d hd => hc d (by simp [hd])) hb (by simp at hf; omega)
    have hc1 := hc c (by simp)
    have hc2 := c.toNat_lt
    have ha := val_append pre b
    rw [List.cons_append, val]
    generalize hV : val (pre ++ [b]) = V at *
    rw [putF]
    by_cases hV0 : V = 0
    · rw [if_neg (by omega)]
      have hp : 0 < 128 ^ pre.length := Nat.pow_pos (by omega)
      have hb0 : b.toNat = 0 := by
        rcases Nat.eq_zero_or_pos b.toNat with h0 | h0
        · exact h0
        · have := Nat.mul_le_mul_left (b.toNat % 128) hp
          have : 0 < b.toNat % 128 * 128 ^ pre.length := Nat.mul_pos (by omega) hp
          omega
      constructor
      · intro hh; have := congrArg List.length hh; simp at this
      · intro hh; exact absurd ⟨hb0, by simp⟩ hh
    · rw [if_pos (by omega), show (c.toNat % 128 + 128 * V) % 128 + 128 = c.toNat by omega, show (c.toNat % 128 + 128 * V) / 128 = V by omega, show UInt8.ofNat c.toNat = c by simp]
      rw [List.cons.injEq, h]
      constructor
      · rintro ⟨-, hh⟩ ⟨h1, -⟩
        refine hh ⟨h1, ?_⟩
        rcases Nat.eq_zero_or_pos pre.length with h0 | h0
        · rw [List.length_eq_zero_iff.1 h0] at ha hV; simp [h1, val] at ha; omega
        · exact h0
      · intro hh; exact ⟨rfl, fun h' => hh ⟨h'.1, by simp⟩⟩

/-- the document's test of the bytes -/
theorem canon_at (l : List UInt8) (k : Nat) (hk : k < l.length) (h7 : k < 7) (hall : ∀ c ∈ l.take k, 128 ≤ c.toNat) (hb : (l[k]).toNat < 128) (acc : Nat) (hacc : acc = val (l.take k)) :
    putL (acc + (l[k]).toNat % 128 * 128 ^ k) = l.take (k + 1) ↔ ¬ ((l[k]).toNat = 0 ∧ 0 < k) := by
  have hlen : (l.take k).length = k := by simp; omega
  have h := canon (l.take k) (l[k]) 10 hall hb (by omega)
  rw [val_append, hlen, ← hacc] at h
  rw [List.take_succ_eq_append_getElem hk]
  exact h

/-- one round's numbers, by a unit -/
theorem gn_unit (k acc u : Nat) (b : UInt8) (hk : k < 7) (ha : acc < 128 ^ k) (hu : u = 128 ^ k) : ∃ y z : Nat, (z : Int) < 562949953421312 ∧ (u : Int) ≤ 4398046511104 ∧ z = acc + b.toNat % 128 * 128 ^ k ∧ z < 128 ^ (k + 1) ∧ u * 128 = 128 ^ (k + 1) ∧
    IntKind.u64.wrap ((b.toNat : Int) % 128 * (u : Int)) = (y : Int) ∧ (acc : Int) + (y : Int) = (z : Int) := by
  have hb := b.toNat_lt
  have hp : (128 : Nat) ^ k ≤ 128 ^ 6 := Nat.pow_le_pow_right (by omega) (by omega)
  have hp6 : (128 : Nat) ^ 6 = 4398046511104 := by decide
  have hy : b.toNat % 128 * 128 ^ k ≤ 127 * 128 ^ k := Nat.mul_le_mul_right _ (by omega)
  have hz : acc + b.toNat % 128 * 128 ^ k < 128 ^ (k + 1) := by rw [Nat.pow_succ]; omega
  refine ⟨b.toNat % 128 * 128 ^ k, acc + b.toNat % 128 * 128 ^ k, by omega, by omega, rfl, hz, by rw [hu, Nat.pow_succ], ?_, by push_cast; rfl⟩
  rw [hu, show (b.toNat : Int) % 128 * ((128 ^ k : Nat) : Int) = ((b.toNat % 128 * 128 ^ k : Nat) : Int) by push_cast; rfl, IntKind.wrap_u64]
  omega

theorem cmp_take (a l : List UInt8) (n : Nat) : (a == ((⟨l.toArray⟩ : ByteArray).extract 0 n).toList) = decide (a = l.take n) := by
  rw [Lib.extract_toList, List.drop_zero, Nat.sub_zero, Bool.eq_iff_iff]
  simp

end Oct
end Go.Proofs.YtbgjoefpnjgdkaaDoor
/- The walks of GetText and Text, the program's and the document's. -/
namespace Go.Proofs.YtbgjoefpnjgdkaaDoor
open Go.RowKit
set_option linter.unusedVariables false
set_option linter.unusedSimpArgs false
set_option maxRecDepth 4000
namespace Oct

theorem gn_spec (f : Nat) : ∀ (i acc : Nat) (l : List UInt8), ((gn f i acc l).2.2 = 0 → (gn f i acc l).1 ≤ 281474976710656 ∧ i < (gn f i acc l).2.1 ∧ (gn f i acc l).2.1 ≤ i + f ∧ (gn f i acc l).2.1 ≤ i + l.length) ∧ ((gn f i acc l).2.2 ≠ 0 → (gn f i acc l).1 = 0 ∧ (gn f i acc l).2.1 = 0 ∧ ((gn f i acc l).2.2 = 5 ∨ (gn f i acc l).2.2 = 6)) := by
  induction f with
  | zero => intro i acc l; simp [gn]
  | succ f ih =>
    intro i acc l
    cases l with
    | nil => simp [gn]
    | cons b t =>
      rw [gn]
      split
      · have h := ih (i + 1) (acc + b.toNat % 128 * 128 ^ i) t
        generalize gn f (i + 1) (acc + b.toNat % 128 * 128 ^ i) t = g at h
        refine ⟨fun h0 => ?_, fun h0 => h.2 h0⟩
        have := h.1 h0
        simp; omega
      · split
        · simp
        · simp; omega

theorem getNum_spec (l : List UInt8) : ∃ n u e, getNum l = (n, u, e) ∧ (e = 0 → n ≤ 281474976710656 ∧ 0 < u ∧ u ≤ 7 ∧ u ≤ l.length) ∧ (e ≠ 0 → n = 0 ∧ u = 0 ∧ (e = 5 ∨ e = 6)) := by
  have h := gn_spec 7 0 0 l
  refine ⟨(getNum l).1, (getNum l).2.1, (getNum l).2.2, rfl, fun h0 => ?_, fun h0 => h.2 h0⟩
  have := h.1 h0
  simp only [getNum]
  omega

/-- the text that bytes begin with: the text, how many bytes, and why not -/
def getText (l : List UInt8) : List UInt8 × Nat × Nat :=
  if (getNum l).2.2 ≠ 0 then ([], 0, (getNum l).2.2)
  else if 8192 < (getNum l).1 then ([], 0, 7)
  else if l.length < (getNum l).2.1 + (getNum l).1 then ([], 0, 5)
  else ((l.drop (getNum l).2.1).take (getNum l).1, (getNum l).2.1 + (getNum l).1, 0)

theorem ext_take (l : List UInt8) (u n : Nat) : (⟨l.toArray⟩ : ByteArray).extract u (u + n) = ⟨((l.drop u).take n).toArray⟩ := by
  refine ByteArray.ext ?_
  rw [← Array.toList_inj]
  simp

set_option maxHeartbeats 1000000 in
theorem getText_any (l : List UInt8) (hl : l.length ≤ maxLen) (w : World) :
    Calls Tryd.prog 131 #[.string ⟨l.toArray⟩] w fun e w' => e = .returned (.tuple #[.string ⟨(getText l).1.toArray⟩, .int .i64 ((getText l).2.1 : Int), .int .i64 ((getText l).2.2 : Int)]) ∧ w = w' := by
  obtain ⟨n, u, e, hg, h0, h1⟩ := getNum_spec l
  have HL := Lib.hid hl
  clear hl
  have hc := fun w => getNum_any l w
  rw [hg] at hc
  have HT : Hid (getText l = if e ≠ 0 then ([], 0, e) else if 8192 < n then ([], 0, 7) else if l.length < u + n then ([], 0, 5) else ((l.drop u).take n, u + n, 0)) := by
    refine Lib.hid ?_
    rw [getText, hg]
  go_enter Tryd.func131, Tryd.ntmps131
  go_wp2_with fail
  refine (hc _).mono ?_
  rintro e1 w1 ⟨rfl, rfl⟩
  clear hc hg
  have ht := HT.out
  by_cases he : e = 0
  · subst he
    have h0' := h0 rfl
    have HN : Hid (n ≤ 281474976710656) := Lib.hid h0'.1
    obtain ⟨-, hu0, hu7, hul⟩ := h0'
    clear h0 h1
    rw [if_neg (by simp)] at ht
    by_cases hn : 8192 < n
    · rw [if_pos hn] at ht
      have HT := Lib.hid ht
      clear ht
      have hni : (8192 : Int) < (n : Int) := by omega
      go_wp2
      go_ret3
      rw [HT.out]; exact ⟨rfl, rfl⟩
    · rw [if_neg hn] at ht
      have hni : (n : Int) ≤ 8192 := by omega
      by_cases hs : l.length < u + n
      · rw [if_pos hs] at ht
        have HT := Lib.hid ht
        clear ht
        have hsi : (l.length : Int) - (u : Int) < (n : Int) := by omega
        go_wp2
        go_ret3
        rw [HT.out]; exact ⟨rfl, rfl⟩
      · rw [if_neg hs] at ht
        have HT := Lib.hid ht
        clear ht
        have hsi : decide ((l.length : Int) - (u : Int) < (n : Int)) = false := decide_eq_false (by omega)
        have hs1 : (0 : Int) ≤ (u : Int) := by omega
        have hs2 : (u : Int) ≤ (u : Int) + (n : Int) := by omega
        have hs3 : (u : Int) + (n : Int) ≤ (l.length : Int) := by omega
        obtain ⟨d, hd⟩ : ∃ d, l.length = u + d := ⟨l.length - u, by omega⟩
        have hlm : (l.length : Int) ≤ 9223372036854775807 := by have := HL.out; unfold maxLen at this; omega
        have hw1 : wrap64 ((l.length : Int) - (u : Int)) = (d : Int) := by unfold wrap64; omega
        have hw2 : IntKind.u64.wrap (d : Int) = (d : Int) := by rw [IntKind.wrap_u64]; omega
        have hdn : decide (d < n) = false := decide_eq_false (by omega)
        clear hsi hlm hd
        go_wp2
        go_ret3
        rw [HT.out]; exact ⟨by rw [← ext_take]; rfl, rfl⟩
  · rw [if_pos he] at ht
    have HT := Lib.hid ht
    clear ht
    have hei : ¬ (e : Int) = 0 := by omega
    go_wp2
    go_ret3
    rw [HT.out]; exact ⟨rfl, rfl⟩

/-- a text's bytes -/
def textL (t : List UInt8) : List UInt8 := putL t.length ++ t

theorem strCells_list (t : List UInt8) : Lib.strCells ⟨t.toArray⟩ = bytesV t := by
  simp [Lib.strCells, bytesV]

end Oct
end Go.Proofs.YtbgjoefpnjgdkaaDoor
