/- Joined of 2 texts: their lemmas, one behind the other; each says below what it holds. -/
import Derived.Test.YtbgjoefpnjgdkaaDoorKOneSign
import Derived.Test.YtbgjoefpnjgdkaaDoorJ10
import Derived.Stop.BytesEq
/- The plain law of one-time signatures: a signature leads to the sum of its seed. -/
namespace Go.Proofs.YtbgjoefpnjgdkaaDoor
open Go.RowKit
set_option linter.unusedVariables false
namespace One
open Sha
theorem rec_sig (X kk : Nat → Int) (D : List Nat) (hD : ∀ d ∈ D, d ≤ 3) (seed : List UInt8) : ∀ (js : List (Fin 68)), recEnds X kk (js.map fun j => D.getD j.val 0) (sigEnds X kk D seed js) = ends X kk seed js
  | [] => rfl
  | j :: js => by
    have hd : D.getD j.val 0 ≤ 3 := by
      rw [List.getD_eq_getElem?_getD]
      cases h : D[j.val]? with
      | none => simp
      | some d => exact hD d (List.mem_of_getElem? h)
    have hl := onL_length X kk (D.getD j.val 0) (startL X kk seed j.val) (startL_length _ _ _ _)
    have ih := rec_sig X kk D hD seed js
    have e1 : sigEnds X kk D seed (j :: js) = onL X kk (D.getD j.val 0) (startL X kk seed j.val) ++ sigEnds X kk D seed js := by simp [sigEnds]
    have e2 : ends X kk seed (j :: js) = onL X kk 3 (startL X kk seed j.val) ++ ends X kk seed js := by simp [ends]
    rw [List.map_cons, recEnds, e1, e2, List.take_left' hl, List.drop_left' hl, ih, onL_add, show D.getD j.val 0 + (3 - D.getD j.val 0) = 3 by omega]

theorem recover_sign (X kk : Nat → Int) (seed text : List UInt8) : recoverL X kk text (signL X kk seed text) = publicL X kk seed := by
  have h := rec_sig X kk (digitsL X kk text) (digitsL_le X kk text) seed places
  have hD : (places.map fun j => (digitsL X kk text).getD j.val 0) = digitsL X kk text := by
    refine List.ext_getElem? fun i => ?_
    by_cases hi : i < 68
    · rw [List.getElem?_map, show places[i]? = some ⟨i, hi⟩ by simp [places, hi], List.getElem?_eq_getElem (by rw [digitsL_length]; exact hi)]
      simp only [Option.map_some, List.getD_eq_getElem?_getD]
      rw [List.getElem?_eq_getElem (by rw [digitsL_length]; exact hi)]; rfl
    · rw [List.getElem?_eq_none (by rw [List.length_map, places_length]; omega), List.getElem?_eq_none (by rw [digitsL_length]; omega)]
  rw [hD] at h
  rw [recoverL, signL, h]; rfl
end One
end Go.Proofs.YtbgjoefpnjgdkaaDoor
/- Sums compared; rows of texts told by their cells. -/
namespace Go.Proofs.YtbgjoefpnjgdkaaDoor
open Go.RowKit
set_option linter.unusedVariables false
set_option maxRecDepth 100000

theorem size_u8 (w : World) : (sizeOf 5).run Tryd.prog w = .ok 1 w := by
  obtain ⟨i0, hi, hz0, hz1, hz2⟩ := info_parts info_u8
  simp [sizeOf, typeInfo, hi, hz1]
theorem hash_eql (w : World) (a b : List UInt8) (ha : a.length = 32) (hb : b.length = 32) :
    (binOp .eql 30 (.agg (bytesV a).toArray) (.agg (bytesV b).toArray)).run Tryd.prog w = .ok (.bool (a == b)) w :=
  run_eql_bytes (P := Tryd.prog) w 30 5 32 Tryd.underlying30 Tryd.underlying5 size_u8 a b ha hb
theorem hash_neq (w : World) (a b : List UInt8) (ha : a.length = 32) (hb : b.length = 32) :
    (binOp .neq 30 (.agg (bytesV a).toArray) (.agg (bytesV b).toArray)).run Tryd.prog w = .ok (.bool (a != b)) w := by
  have h := hash_eql w a b ha hb
  have e : ∀ x y : Array Value, binOp .neq 30 (.agg x) (.agg y) = (do pure (.bool (!(← Op.equal 30 (.agg x) (.agg y))))) := fun _ _ => rfl
  have e2 : ∀ x y : Array Value, binOp .eql 30 (.agg x) (.agg y) = (do pure (.bool (← Op.equal 30 (.agg x) (.agg y)))) := fun _ _ => rfl
  rw [e]
  rw [e2] at h
  simp only [Sem.run_bind] at h ⊢
  generalize (Op.equal 30 (.agg (bytesV a).toArray) (.agg (bytesV b).toArray)).run Tryd.prog w = r at h ⊢
  cases r with
  | ok x w1 =>
    simp at h ⊢
    obtain ⟨rfl, rfl⟩ := h
    exact ⟨by simp [bne], rfl⟩
  | _ => simp [Result.andThen] at h

/-- a row of texts, told by its cells -/
def RowS (w : World) (p : Option Addr) (E : List (List UInt8)) : Prop := ∀ j (h : j < E.length), ∃ b o, p = some ⟨b, o, none⟩ ∧ b < w.heap.size ∧ w.cell? ⟨b, o + j, none⟩ = some (.string ⟨(E[j]).toArray⟩)
theorem RowS.below {w w' : World} {p : Option Addr} {E : List (List UInt8)} (h : RowS w p E) (hb : Below w.heap.size w w') : RowS w' p E := by
  intro j hj
  obtain ⟨b, o, h1, h2, h3⟩ := h j hj
  exact ⟨b, o, h1, Nat.lt_of_lt_of_le h2 hb.size, (hb.cell (p := ⟨b, o + j, none⟩) h2).trans h3⟩
theorem RowS.of {w : World} {p : Option Addr} {n cap : Nat} {E : List (List UInt8)} (h : Oct.StrRow w (.slice p n cap) E) : n = E.length ∧ RowS w p E := by
  rcases h with ⟨p', cap', h1, rfl⟩ | ⟨b, o, cap', h1, h2, h3⟩
  · injection h1 with e1 e2 e3
    exact ⟨e2, fun j hj => by simp at hj⟩
  · injection h1 with e1 e2 e3
    exact ⟨e2, fun j hj => ⟨b, o, e1, h2, h3 j hj⟩⟩
theorem strrow_slice {w : World} {v : Value} {E : List (List UInt8)} (h : Oct.StrRow w v E) : ∃ p cap, v = .slice p E.length cap := by
  rcases h with ⟨p, cap, rfl, rfl⟩ | ⟨b, o, cap, rfl, h2, h3⟩
  · exact ⟨p, cap, rfl⟩
  · exact ⟨_, cap, rfl⟩
end Go.Proofs.YtbgjoefpnjgdkaaDoor
