/- TopKept for every input: the slices that came in are opened; too long ones are answered at once. -/
import Derived.Test.YtjfibmlpjcncmaaTopKept
import Derived.Test.YtjfibmlpjcncmaaOctLaws
import Derived.Test.YtjfibmlpjcncmaaDiskKeptWalk
namespace Go.Proofs.Ytjfibmlpjcncmaa
open Go.RowKit Go.ChangeShapes Go.WideShapes
set_option linter.unusedVariables false
set_option maxRecDepth 100000
variable {H : Type} {enc : TypeId × Value → H}
namespace Top

theorem topkept_long (p q : Option Addr) (ne ce nc cc : Nat) (T : ByteArray) (keep bits : Int) (h : (20 : Int) < (ne : Int) ∨ (20 : Int) < (nc : Int) ∨ (16384 : Int) < (T.size : Int)) (w : World) :
    Calls Try.prog 14 #[.slice p ne ce, .slice q nc cc, .string T, .int .i64 keep, .int .u8 bits] w fun e w' => e = .returned (.bool true) ∧ Below w.heap.size w w' := by
  by_cases h1 : (20 : Int) < (ne : Int)
  · have d1 : decide ((20 : Int) < (ne : Int)) = true := by simpa using h1
    go_enter Try.func14, Try.ntmps14
    go_wp2_with fail
    refine (begins_any _).mono ?_
    rintro e w1 ⟨rfl, B⟩
    go_wp2_with fail
    go_ret
    exact ⟨rfl, B⟩
  · have d1 : decide ((20 : Int) < (ne : Int)) = false := by simp; omega
    by_cases h2 : (20 : Int) < (nc : Int)
    · have d2 : decide ((20 : Int) < (nc : Int)) = true := by simpa using h2
      go_enter Try.func14, Try.ntmps14
      go_wp2_with fail
      refine (begins_any _).mono ?_
      rintro e w1 ⟨rfl, B⟩
      go_wp2_with fail
      go_ret
      exact ⟨rfl, B⟩
    · have d2 : decide ((20 : Int) < (nc : Int)) = false := by simp; omega
      have h3 : (16384 : Int) < (T.size : Int) := by omega
      have d3 : decide ((16384 : Int) < (T.size : Int)) = true := by simpa using h3
      go_enter Try.func14, Try.ntmps14
      go_wp2_with fail
      refine (begins_any _).mono ?_
      rintro e w1 ⟨rfl, B⟩
      go_wp2_with fail
      go_ret
      exact ⟨rfl, B⟩

theorem in_str {w : World} {p : Option Addr} {n cap : Nat} {E : List (List UInt8)} (h : Oct.StrRow w (.slice p n cap) E) : n = E.length ∧ InStr w p E := by
  rcases h with ⟨p', cap', h1, rfl⟩ | ⟨b, o, cap', h1, h2, h3⟩
  · injection h1 with e1 e2 e3
    exact ⟨e2, fun j hj => by simp at hj⟩
  · injection h1 with e1 e2 e3
    exact ⟨e2, fun j hj => ⟨b, o, e1, h2, h3 j hj⟩⟩

theorem ints_of (ao : Option Addr) (n cap : Nat) (W : World) {fuel : Nat} {x : DataW H × List MemPlace}
    (h : DataW.trod enc Try.prog W 0 (fun _ => true) true fuel 71 [.slice ao n cap] = some x) : ∃ C : List Int, n = C.length ∧ InInt W ao C := by
  rcases open_ints Try.underlying71 Try.underlying3 (by kernel_rfl) h with ⟨hcs, hx⟩ | ⟨a, len, cap', zs, hcs, _, hl, hm, hz, hx, hcell, hws⟩
  · simp only [List.cons.injEq, and_true] at hcs
    injection hcs with e1 e2 e3
    exact ⟨[], e2, fun j hj => by simp at hj⟩
  · simp only [List.cons.injEq, and_true] at hcs
    injection hcs with e1 e2 e3
    subst e1 e2 e3
    rw [if_pos rfl] at hz
    by_cases h0 : n = 0
    · subst h0
      exact ⟨[], rfl, fun j hj => by simp at hj⟩
    · obtain ⟨b, off, spot⟩ := a
      have hspot : spot = none := by simpa [Addr.add] using World.cell?_spot (hcell 0 (by omega))
      subst hspot
      have hadd : ∀ j : Nat, (⟨b, off, none⟩ : Addr).add j = ⟨b, off + j, none⟩ := fun j => by
        unfold Addr.add; split
        · rename_i e; subst e; rfl
        · rfl
      have hlen : (zs.take n).length = n := by rw [List.length_take]; omega
      refine ⟨zs.take n, hlen.symm, fun j hj => ⟨b, off, rfl, ?_, ?_⟩⟩
      · exact World.block_lt_of_cell? W ⟨b, off, none⟩ (by have := hcell 0 (by omega); simpa [Addr.add] using this)
      · rw [hlen] at hj
        rw [← hadd, hcell j (by omega)]
        congr 2
        rw [List.getElem_take]
        simp [List.getD, List.getElem?_eq_getElem (show j < zs.length by omega)]

theorem topkept_top (ao : Option Addr) (n cap : Nat) (bo : Option Addr) (n' cap' : Nat) (T : ByteArray) (wT : T.size ≤ maxLen) (keep : Int) (wk : (Lit.int .i64 keep).wf = true) (bits : Int) (wb : (Lit.int .u8 bits).wf = true) (W : World)
    {fuel fuel' : Nat} {x x' : DataW H × List MemPlace}
    (h : DataW.trod enc Try.prog W 0 (fun _ => true) true fuel 32 [.slice ao n cap] = some x)
    (h' : DataW.trod enc Try.prog W 0 (fun _ => true) true fuel' 71 [.slice bo n' cap'] = some x') :
    Calls Try.prog 14 #[.slice ao n cap, .slice bo n' cap', .string T, .int .i64 keep, .int .u8 bits] W fun e w' => e = .returned (.bool true) ∧ Below W.heap.size W w' := by
  obtain ⟨E, hr, -⟩ := Oct.strs_of ao n cap W h
  obtain ⟨rfl, hE⟩ := in_str hr
  obtain ⟨C, rfl, hC⟩ := ints_of bo n' cap' W h'
  by_cases hg : (20 : Int) < (E.length : Int) ∨ (20 : Int) < (C.length : Int) ∨ (16384 : Int) < (T.size : Int)
  · exact topkept_long ao bo E.length cap C.length cap' T keep bits hg W
  · obtain ⟨t, rfl, ht⟩ := Jrn.bytes_of T
    obtain ⟨b, rfl⟩ := Disk.u8_of bits wb
    exact topkept_walk ao bo cap cap' E C t keep b (by omega) (by omega) (by omega) W hE hC
end Top
end Go.Proofs.Ytjfibmlpjcncmaa
