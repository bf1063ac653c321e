/- The walks of chapter 1's laws: OctetNums, OctetTexts, OctetReads. -/
import Derived.Test.YtjfibmlpjcncmaaOctLives
import Derived.SliceStrings
namespace Go.Proofs.Ytjfibmlpjcncmaa
open Go.RowKit
set_option linter.unusedVariables false
set_option linter.unusedSimpArgs false
set_option maxRecDepth 4000
namespace Oct

theorem u64_of (a : Int) (h : (Lit.int .u64 a).wf = true) : ∃ n : Nat, a = (n : Int) ∧ n < 18446744073709551616 := by
  have hx : 0 ≤ a ∧ a ≤ 18446744073709551615 := by simpa [Lit.wf, IntKind.min, IntKind.max, IntKind.signed, IntKind.bits] using h
  exact ⟨a.toNat, by omega, by omega⟩
theorem bytes_of (s : ByteArray) : ∃ l : List UInt8, s = ⟨l.toArray⟩ ∧ l.length = s.size := ⟨s.data.toList, by cases s; simp, by cases s; simp [ByteArray.size]⟩

set_option maxHeartbeats 2000000 in
theorem nums_walk (n : Nat) (l : List UInt8) (w : World) :
    Calls Try.prog 3 #[.int .u64 (n : Int), .string ⟨l.toArray⟩] w fun e w' => e = .returned (.bool true) ∧ Below w.heap.size w w' := by
  have c1 := fun w => num_any n w
  have c2 := fun w => refNum_any n w
  have c3 := fun w => getNum_any l w
  have c4 := fun w => refGetNum_any l w
  generalize numR n = r at c1 c2
  generalize getNum l = g at c3 c4
  go_enter Try.func3, Try.ntmps3
  go_wp2_with fail
  refine (c1 _).mono ?_
  rintro e w1 ⟨rfl, hb1⟩
  go_wp2_with fail
  refine (c2 _).mono ?_
  rintro e w2 ⟨rfl, hb2⟩
  go_wp2_with fail
  refine (c3 _).mono ?_
  rintro e w3 ⟨rfl, rfl⟩
  go_wp2_with fail
  refine (c4 _).mono ?_
  rintro e w4 ⟨rfl, hb4⟩
  go_wp2_with fail
  refine (oct_lives _).mono ?_
  rintro e w5 ⟨rfl, hb5⟩
  have B := ((hb1.trans (hb2.mono hb1.size))).trans (hb4.mono (by have := hb1.size; have := hb2.size; omega))
  replace B := B.trans (hb5.mono B.size)
  clear hb1 hb2 hb4 hb5
  go_wp2_with fail
  go_ret
  exact ⟨rfl, B⟩

theorem nums_top (a : Int) (wa : (Lit.int .u64 a).wf = true) (s : ByteArray) (ws : s.size ≤ maxLen) (w : World) :
    Calls Try.prog 3 #[.int .u64 a, .string s] w fun e w' => e = .returned (.bool true) ∧ Below w.heap.size w w' := by
  obtain ⟨n, rfl, -⟩ := u64_of a wa
  obtain ⟨l, rfl, -⟩ := bytes_of s
  exact nums_walk n l w

set_option maxHeartbeats 2000000 in
theorem texts_walk (t : List UInt8) (v : Value) (ls : List (List UInt8)) (w : World) (hv : StrRow w v ls) :
    Calls Try.prog 5 #[.string ⟨t.toArray⟩, v] w fun e w' => e = .returned (.bool true) ∧ Below w.heap.size w w' := by
  have c1 := fun w => text_any t w
  have c2 := fun w => refText_any t w
  generalize textR t = r at c1 c2
  have c3 := list_any v ls
  have c4 := refList_any v ls
  generalize listR ls = g at c3 c4
  go_enter Try.func5, Try.ntmps5
  go_wp2_with fail
  refine (c1 _).mono ?_
  rintro e w1 ⟨rfl, hb1⟩
  go_wp2_with fail
  refine (c2 _).mono ?_
  rintro e w2 ⟨rfl, hb2⟩
  have B := hb1.trans (hb2.mono hb1.size)
  have hv2 := hv.below rfl B
  clear hb1 hb2
  go_wp2_with fail
  refine (c3 _ hv2).mono ?_
  rintro e w3 ⟨rfl, hb3⟩
  have hv3 := hv2.below rfl hb3
  replace B := B.trans (hb3.mono B.size)
  clear hb3 hv2
  go_wp2_with fail
  refine (c4 _ hv3).mono ?_
  rintro e w4 ⟨rfl, hb4⟩
  replace B := B.trans (hb4.mono B.size)
  clear hb4 hv3
  go_wp2_with fail
  refine (oct_lives _).mono ?_
  rintro e w5 ⟨rfl, hb5⟩
  replace B := B.trans (hb5.mono B.size)
  clear hb5
  go_wp2_with fail
  go_ret
  exact ⟨rfl, B⟩

set_option maxHeartbeats 2000000 in
theorem reads_walk (l : List UInt8) (hl : l.length ≤ maxLen) (w : World) :
    Calls Try.prog 4 #[.string ⟨l.toArray⟩] w fun e w' => e = .returned (.bool true) ∧ Below w.heap.size w w' := by
  have c1 := fun w => getText_any l hl w
  have c2 := fun w => refGetText_any l w
  generalize getText l = r at c1 c2
  have c3 := fun w => getList_any l hl w
  have c4 := fun w => refGetList_any l w
  have hg := getList_length l
  generalize getList l = g at c3 c4 hg
  have c5 := fun w => all_any l hl w
  have c6 := fun w => refAll_any l w
  have ha := allR_length l
  generalize allR l = q at c5 c6 ha
  have HG := Lib.hid hg
  have HA := Lib.hid ha
  clear hg ha hl
  go_enter Try.func4, Try.ntmps4
  go_wp2_with fail
  refine (c1 _).mono ?_
  rintro e w1 ⟨rfl, rfl⟩
  go_wp2_with fail
  refine (c2 _).mono ?_
  rintro e w2 ⟨rfl, B⟩
  go_wp2_with fail
  refine (c3 _).mono ?_
  rintro e w3 ⟨v3, rfl, o3, hb3⟩
  have R3 := o3.row
  replace B := B.trans (hb3.mono B.size)
  clear hb3 o3
  go_wp2_with fail
  refine (c4 _).mono ?_
  rintro e w4 ⟨v4, rfl, o4, hb4⟩
  have R4 := o4.row
  replace R3 := R3.below rfl hb4
  replace B := B.trans (hb4.mono B.size)
  clear hb4 o4
  go_wp2_with fail
  refine (c5 _).mono ?_
  rintro e w5 ⟨v5, rfl, o5, hb5⟩
  have R5 := o5.row
  replace R3 := R3.below rfl hb5
  replace R4 := R4.below rfl hb5
  replace B := B.trans (hb5.mono B.size)
  clear hb5 o5
  go_wp2_with fail
  refine (c6 _).mono ?_
  rintro e w6 ⟨v6, rfl, o6, hb6⟩
  have R6 := o6.row
  replace R3 := R3.below rfl hb6
  replace R4 := R4.below rfl hb6
  replace R5 := R5.below rfl hb6
  replace B := B.trans (hb6.mono B.size)
  clear hb6 o6
  go_wp2_with fail
  refine (oct_lives _).mono ?_
  rintro e w7 ⟨rfl, hb7⟩
  replace R3 := R3.below rfl hb7
  replace R4 := R4.below rfl hb7
  replace R5 := R5.below rfl hb7
  replace R6 := R6.below rfl hb7
  replace B := B.trans (hb7.mono B.size)
  clear hb7
  go_wp2_with fail
  refine (same_any v3 v4 g.1 g.1 _ R3 R4 HG.out).mono ?_
  rintro e w8 ⟨rfl, hb8⟩
  replace R5 := R5.below rfl hb8
  replace R6 := R6.below rfl hb8
  replace B := B.trans (hb8.mono B.size)
  rw [decide_eq_true rfl]
  clear hb8 R3 R4
  go_wp2_with fail
  refine (same_any v5 v6 q.1 q.1 _ R5 R6 HA.out).mono ?_
  rintro e w9 ⟨rfl, hb9⟩
  replace B := B.trans (hb9.mono B.size)
  rw [decide_eq_true rfl]
  clear hb9 R5 R6
  go_wp2_with fail
  go_ret
  exact ⟨rfl, B⟩

theorem reads_top (s : ByteArray) (ws : s.size ≤ maxLen) (w : World) :
    Calls Try.prog 4 #[.string s] w fun e w' => e = .returned (.bool true) ∧ Below w.heap.size w w' := by
  obtain ⟨l, rfl, hl⟩ := bytes_of s
  exact reads_walk l (by rw [hl]; exact ws) w

section
open Go.ChangeShapes Go.WideShapes
variable {H : Type} {enc : TypeId × Value → H}
/-- a slice of strings that came in, as a row that can be read -/
theorem strs_of (ao : Option Addr) (n cap : Nat) (W : World) {fuel : Nat} {x : DataW H × List MemPlace}
    (h : DataW.trod enc Try.prog W 0 (fun _ => true) true fuel 32 [.slice ao n cap] = some x) : ∃ ls, StrRow W (.slice ao n cap) ls ∧ ∀ t ∈ ls, t.length ≤ maxLen := by
  rcases open_strings Try.underlying32 Try.underlying9 (by kernel_rfl) h with ⟨hcs, hx⟩ | ⟨a, len, cap', ss, hcs, _, hl, hm, hz, hx, hcell, hws⟩
  · simp only [List.cons.injEq, and_true] at hcs
    rw [hcs]
    exact ⟨[], .inl ⟨_, _, rfl, rfl⟩, by simp⟩
  · simp only [List.cons.injEq, and_true] at hcs
    injection hcs with e1 e2 e3
    subst e1 e2 e3
    rw [if_pos rfl] at hz
    by_cases h0 : n = 0
    · subst h0
      exact ⟨[], .inl ⟨_, _, rfl, rfl⟩, by simp⟩
    · obtain ⟨b, off, spot⟩ := a
      have hspot : spot = none := by simpa [Addr.add] using World.cell?_spot (hcell 0 (by omega))
      subst hspot
      have hadd : ∀ j : Nat, (⟨b, off, none⟩ : Addr).add j = ⟨b, off + j, none⟩ := fun j => by
        unfold Addr.add; split
        · rename_i e; subst e; rfl
        · rfl
      have hlen : ((ss.take n).map (fun s => s.data.toList)).length = n := by rw [List.length_map, List.length_take]; omega
      refine ⟨(ss.take n).map (fun s => s.data.toList), .inr ⟨b, off, cap, by rw [hlen], ?_, fun j hj => ?_⟩, ?_⟩
      · exact World.block_lt_of_cell? W ⟨b, off, none⟩ (by have := hcell 0 (by omega); simpa [Addr.add] using this)
      · rw [hlen] at hj
        rw [← hadd, hcell j (by omega)]
        congr 2
        rw [List.getElem_map, List.getElem_take]
        simp [List.getD, List.getElem?_eq_getElem (show j < ss.length by omega)]
      · intro t ht
        obtain ⟨s, hs, rfl⟩ := List.mem_map.1 ht
        have := hws s (List.mem_of_mem_take hs)
        rwa [ByteArray.size, ← Array.length_toList] at this
end

theorem texts_top (s : ByteArray) (ws : s.size ≤ maxLen) (ao : Option Addr) (n cap : Nat) (W : World) {H : Type} {enc : TypeId × Value → H} {fuel : Nat} {x : DataW H × List MemPlace}
    (h : DataW.trod enc Try.prog W 0 (fun _ => true) true fuel 32 [.slice ao n cap] = some x) :
    Calls Try.prog 5 #[.string s, .slice ao n cap] W fun e w' => e = .returned (.bool true) ∧ Below W.heap.size W w' := by
  obtain ⟨l, rfl, -⟩ := bytes_of s
  obtain ⟨ls, hr, -⟩ := strs_of ao n cap W h
  exact texts_walk l _ ls W hr
end Oct
end Go.Proofs.Ytjfibmlpjcncmaa
