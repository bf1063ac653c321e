/- The walks of chapter 1's laws: OctetNums, OctetTexts, OctetReads. -/
import Derived.Test.YtbgjoefpnjgdkaaDoorOctLives
import Derived.SliceStrings
namespace Go.Proofs.YtbgjoefpnjgdkaaDoor
open Go.RowKit
set_option linter.unusedVariables false
set_option linter.unusedSimpArgs false
set_option maxRecDepth 4000
namespace Oct

theorem u64_of (a : Int) (h : (Lit.int .u64 a).wf = true) : ∃ n : Nat, a = (n : Int) ∧ n < 18446744073709551616 := by
  have hx : 0 ≤ a ∧ a ≤ 18446744073709551615 := by simpa [Lit.wf, IntKind.min, IntKind.max, IntKind.signed, IntKind.bits] using h
  exact ⟨a.toNat, by omega, by omega⟩
theorem bytes_of (s : ByteArray) : ∃ l : List UInt8, s = ⟨l.toArray⟩ ∧ l.length = s.size := ⟨s.data.toList, by cases s; simp, by cases s; simp [ByteArray.size]⟩

section
open Go.ChangeShapes Go.WideShapes
variable {H : Type} {enc : TypeId × Value → H}
/-- a slice of strings that came in, as a row that can be read -/
theorem strs_of (ao : Option Addr) (n cap : Nat) (W : World) {fuel : Nat} {x : DataW H × List MemPlace}
    (h : DataW.trod enc Tryd.prog W 0 (fun _ => true) true fuel 22 [.slice ao n cap] = some x) : ∃ ls, StrRow W (.slice ao n cap) ls ∧ ∀ t ∈ ls, t.length ≤ maxLen := by
  rcases open_strings Tryd.underlying22 Tryd.underlying9 (by kernel_rfl) h with ⟨hcs, hx⟩ | ⟨a, len, cap', ss, hcs, _, hl, hm, hz, hx, hcell, hws⟩
  · simp only [List.cons.injEq, and_true] at hcs
    rw [hcs]
    exact ⟨[], .inl ⟨_, _, rfl, rfl⟩, by simp⟩
  · simp only [List.cons.injEq, and_true] at hcs
    injection hcs with e1 e2 e3
    subst e1 e2 e3
    rw [if_pos rfl] at hz
    by_cases h0 : n = 0
    · subst h0
      exact ⟨[], .inl ⟨_, _, rfl, rfl⟩, by simp⟩
    · obtain ⟨b, off, spot⟩ := a
      have hspot : spot = none := by simpa [Addr.add] using World.cell?_spot (hcell 0 (by omega))
      subst hspot
      have hadd : ∀ j : Nat, (⟨b, off, none⟩ : Addr).add j = ⟨b, off + j, none⟩ := fun j => by
        unfold Addr.add; split
        · rename_i e; subst e; rfl
        · rfl
      have hlen : ((ss.take n).map (fun s => s.data.toList)).length = n := by rw [List.length_map, List.length_take]; omega
      refine ⟨(ss.take n).map (fun s => s.data.toList), .inr ⟨b, off, cap, by rw [hlen], ?_, fun j hj => ?_⟩, ?_⟩
      · exact World.block_lt_of_cell? W ⟨b, off, none⟩ (by have := hcell 0 (by omega); simpa [Addr.add] using this)
      · rw [hlen] at hj
        rw [← hadd, hcell j (by omega)]
        congr 2
        rw [List.getElem_map, List.getElem_take]
        simp [List.getD, List.getElem?_eq_getElem (show j < ss.length by omega)]
      · intro t ht
        obtain ⟨s, hs, rfl⟩ := List.mem_map.1 ht
        have := hws s (List.mem_of_mem_take hs)
        rwa [ByteArray.size, ← Array.length_toList] at this
end

end Oct
end Go.Proofs.YtbgjoefpnjgdkaaDoor
