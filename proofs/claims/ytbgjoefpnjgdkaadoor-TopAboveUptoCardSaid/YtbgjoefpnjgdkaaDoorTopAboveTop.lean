/- TopAbove where what came in is of bulk at most 1048576: the slices that came in are opened; the variables are those that the row lists. -/
import Derived.Test.YtbgjoefpnjgdkaaDoorTopAbove
import Derived.Test.YtbgjoefpnjgdkaaDoorAboveChange
import Derived.Test.YtbgjoefpnjgdkaaDoorCards
import Derived.SliceStrings
namespace Go.Proofs.YtbgjoefpnjgdkaaDoor
open Go.RowKit Go.ChangeShapes Go.WideShapes
set_option linter.unusedVariables false
set_option maxRecDepth 100000
variable {H : Type} {enc : TypeId × Value → H}
namespace Above
theorem strs_in (ao : Option Addr) (n cap : Nat) (W : World) {fuel : Nat} {x : DataW H × List MemPlace}
    (h : DataW.trod enc Tryd.prog W 0 (fun _ => true) true fuel 22 [.slice ao n cap] = some x) : ∃ ls, Oct.StrRow W (.slice ao n cap) ls ∧ ∀ t ∈ ls, t.length ≤ maxLen := by
  rcases open_strings Tryd.underlying22 Tryd.underlying9 (by kernel_rfl) h with ⟨hcs, hx⟩ | ⟨a, len, cap', ss, hcs, _, hl, hm, hz, hx, hcell, hws⟩
  · simp only [List.cons.injEq, and_true] at hcs
    rw [hcs]
    exact ⟨[], .inl ⟨_, _, rfl, rfl⟩, by simp⟩
  · simp only [List.cons.injEq, and_true] at hcs
    injection hcs with e1 e2 e3
    subst e1 e2 e3
    rw [if_pos rfl] at hz
    by_cases h0 : n = 0
    · subst h0
      exact ⟨[], .inl ⟨_, _, rfl, rfl⟩, by simp⟩
    · obtain ⟨b, off, spot⟩ := a
      have hspot : spot = none := by simpa [Addr.add] using World.cell?_spot (hcell 0 (by omega))
      subst hspot
      have hadd : ∀ j : Nat, (⟨b, off, none⟩ : Addr).add j = ⟨b, off + j, none⟩ := fun j => by
        unfold Addr.add; split
        · rename_i e; subst e; rfl
        · rfl
      have hlen : ((ss.take n).map (fun s => s.data.toList)).length = n := by rw [List.length_map, List.length_take]; omega
      refine ⟨(ss.take n).map (fun s => s.data.toList), .inr ⟨b, off, cap, by rw [hlen], ?_, fun j hj => ?_⟩, ?_⟩
      · exact World.block_lt_of_cell? W ⟨b, off, none⟩ (by have := hcell 0 (by omega); simpa [Addr.add] using this)
      · rw [hlen] at hj
        rw [← hadd, hcell j (by omega)]
        congr 2
        rw [List.getElem_map, List.getElem_take]
        simp [List.getD, List.getElem?_eq_getElem (show j < ss.length by omega)]
      · intro t ht
        obtain ⟨s, hs, rfl⟩ := List.mem_map.1 ht
        have := hws s (List.mem_of_mem_take hs)
        rwa [ByteArray.size, ← Array.length_toList] at this
theorem strs_len (ao : Option Addr) (n cap : Nat) (W : World) {fuel : Nat} {x : DataW H × List MemPlace}
    (h : DataW.trod enc Tryd.prog W 0 (fun _ => true) true fuel 22 [.slice ao n cap] = some x) : n ≤ 9223372036854775807 := by
  rcases open_strings Tryd.underlying22 Tryd.underlying9 (by kernel_rfl) h with ⟨hcs, hx⟩ | ⟨a, len, cap', ss, hcs, _, hl, hm, hz, hx, hcell, hws⟩
  · simp only [List.cons.injEq, and_true] at hcs
    injection hcs with e1 e2 e3
    omega
  · simp only [List.cons.injEq, and_true] at hcs
    injection hcs with e1 e2 e3
    unfold maxLen at hm
    omega
theorem above_laid {W : World} (h : laidMet Tryd.prog Rows.topAboveUptoRow.laid W) : VarsP W :=
  ⟨Named.vars_of h (.tail _ (.tail _ (.tail _ (.tail _ (.head _))))) (.tail _ (.tail _ (.tail _ (.tail _ (.tail _ (.head _)))))) (.tail _ (.tail _ (.tail _ (.tail _ (.tail _ (.tail _ (.head _))))))), tab_of_mem h (.tail _ (.tail _ (.head _)))⟩
theorem above_top (s : ByteArray) (hs : s.size ≤ 1048576) (ao : Option Addr) (n cap : Nat) (bo : Option Addr) (n' cap' : Nat) (ta : ByteArray) {Q1 : Prop} (_ : Q1) (tb : ByteArray) {Q2 : Prop} (_ : Q2) (W : World)
    {fuel fuel' : Nat} {x x' : DataW H × List MemPlace}
    (h : DataW.trod enc Tryd.prog W 0 (fun _ => true) true fuel 22 [.slice ao n cap] = some x)
    (h' : DataW.trod enc Tryd.prog W 0 (fun _ => true) true fuel' 22 [.slice bo n' cap'] = some x') (hP : VarsP W) :
    Calls Tryd.prog 7 #[.string s, .slice ao n cap, .slice bo n' cap', .string ta, .string tb] W fun e w' => e = .returned (.bool true) ∧ Below W.heap.size W w' := by
  obtain ⟨L, hL, -⟩ := strs_in ao n cap W h
  obtain ⟨M, hM, -⟩ := strs_in bo n' cap' W h'
  have e1 : n = L.length := by obtain ⟨p, c, e⟩ := Oct.StrRow.form hL; injection e
  have e2 : n' = M.length := by obtain ⟨p, c, e⟩ := Oct.StrRow.form hM; injection e
  have l1 := strs_len ao n cap W h
  have l2 := strs_len bo n' cap' W h'
  obtain ⟨a, rfl⟩ : ∃ a : List UInt8, ta = ⟨a.toArray⟩ := ⟨ta.data.toList, by simp⟩
  obtain ⟨b, rfl⟩ : ∃ b : List UInt8, tb = ⟨b.toArray⟩ := ⟨tb.data.toList, by simp⟩
  exact above_walk s hs _ _ L M a b W hL hM (by omega) (by omega) hP (Lib.hid fun n0 n1 n2 n3 n4 n5 m0 m1 m2 m3 m4 m5 va vb us ts x w h1 h2 h3 h4 h5 h6 h7 => change_any n0 n1 n2 n3 n4 n5 m0 m1 m2 m3 m4 m5 va vb us ts x w h1 h2 h3 h4 h5 h6 h7)
end Above
end Go.Proofs.YtbgjoefpnjgdkaaDoor
