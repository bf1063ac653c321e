/- A row of users with their levels that the call owns. -/
import Derived.Test.YtbgjoefpnjgdkaaDoorAboveFind
import Derived.OwnWalkIn
import Derived.Deep.AppendLies
namespace Go.Proofs.YtbgjoefpnjgdkaaDoor
open Go.RowKit
set_option linter.unusedVariables false
set_option linter.unusedSimpArgs false
set_option maxRecDepth 100000
namespace Above
def uC (u : List UInt8 × Int) : List Value := [.string ⟨u.1.toArray⟩, .int .i64 u.2]
def OwnU (base : Nat) (w : World) (v : Value) (us : List (List UInt8 × Int)) : Prop := w.ownsRow base 76 2 v us.length (us.flatMap uC)
theorem OwnU.nil (base : Nat) (w : World) : OwnU base w (.slice none 0 0) [] := World.ownsRow_nil w base _ 2
theorem info_level : (Tryd.prog.info? 76).map (fun i => (i.zero, i.size, i.bytes)) = some (some (.agg #[.string ByteArray.empty, .int .i64 0]), 2, 24) := by kernel_rfl
theorem flatU : ∀ (us : List (List UInt8 × Int)) (j : Nat) (hj : j < us.length), (us.flatMap uC)[j * 2]? = some (.string ⟨(us[j]).1.toArray⟩) ∧ (us.flatMap uC)[j * 2 + 1]? = some (.int .i64 (us[j]).2)
  | u :: r, 0, _ => ⟨rfl, rfl⟩
  | u :: r, j + 1, hj => by
    have h := flatU r j (by simpa using hj)
    rw [List.flatMap_cons]
    have e1 : (j + 1) * 2 = j * 2 + 1 + 1 := by omega
    rw [e1]
    exact ⟨by simpa [uC] using h.1, by simpa [uC] using h.2⟩
theorem OwnU.row {base : Nat} {w : World} {v : Value} {us : List (List UInt8 × Int)} (h : OwnU base w v us) : LRow w v us := by
  by_cases h0 : 0 < us.length
  · obtain ⟨g, cap, rfl, hb, hg⟩ := World.ownsRow.form h h0
    have hc : ∀ (i : Nat) (x : Value), (us.flatMap uC)[i]? = some x → w.cell? ⟨g, i, none⟩ = some x := fun i x hx => by
      have h1 := World.ownsRow.cells h (g := g) rfl i x hx
      have e : (⟨g, 0, none⟩ : Addr).add i = ⟨g, i, none⟩ := by unfold Addr.add; split <;> simp_all
      rw [e] at h1
      exact h1
    exact .inr ⟨g, cap, rfl, hg, fun j hj => ⟨hc _ _ (flatU us j hj).1, hc _ _ (flatU us j hj).2⟩⟩
  · obtain rfl : us = [] := List.length_eq_zero_iff.1 (by omega)
    rcases h.2 with ⟨rfl, _⟩ | ⟨g, cap, cur, rfl, _⟩
    · exact .inl ⟨_, _, rfl, rfl⟩
    · exact .inl ⟨_, _, rfl, rfl⟩
theorem OwnU.low {base : Nat} {w w' : World} {v : Value} {us : List (List UInt8 × Int)} (h : OwnU base w v us) (hb : Below w.heap.size w w') : OwnU base w' v us :=
  World.ownsRow.kept h (row := none) ⟨hb.os, hb.tape, hb.output, hb.size, fun k hk _ => hb.block k hk⟩ (by cases hv : v.ownBlock <;> simp)
theorem OwnU.grown {base g : Nat} {w w' : World} {v : Value} {us : List (List UInt8 × Int)} (h : OwnU base w v us) (hg : g < base) (hb : w.grownBy w' (some g)) : OwnU base w' v us :=
  World.ownsRow.kept h hb (by
    by_cases h0 : v.ownBlock = none
    · exact .inl h0
    · right
      intro e
      have := (World.ownsRow.lt h _ e).1
      omega)
/-- a user is appended -/
theorem OwnU.append {base : Nat} {w : World} {v : Value} {us : List (List UInt8 × Int)} (h : OwnU base w v us) (hbase : base ≤ w.heap.size) (hl : us.length ≤ 1048577) (u : List UInt8 × Int) (b : Nat) (hn : ∀ j x, (uC u)[j]? = some x → w.cell? ((⟨b, 0, none⟩ : Addr).add j) = some x) :
    ∃ p n c w', (Builtin.append_ #[70, 70] 70 #[v, .slice (some ⟨b, 0, none⟩) 1 1]).run Tryd.prog w = .ok (.slice p n c) w' ∧ OwnU base w' (.slice p n c) (us ++ [u]) ∧ w.grownBy w' v.ownBlock := by
  obtain ⟨i0, hin, hz0, hz1, hz2⟩ := info_parts info_level
  obtain ⟨v', w5, hr, ho5, hg5, -⟩ := run_append_own (P := Tryd.prog) w base 70 70 76 i0 (.agg #[.string ByteArray.empty, .int .i64 0]) 2 24 Tryd.underlying70 hin hz0 hz1 hz2 (by simp [Value.cells]) (by decide) v us.length _ h ⟨b, 0, none⟩ 1 1 (uC u) rfl hn (by intro x hx; simp [uC] at hx; rcases hx with rfl | rfl <;> rfl) (by unfold maxLen; omega) (by omega) (by omega)
  obtain ⟨p', n', c', rfl⟩ : ∃ p n c, v' = .slice p n c := by
    rcases ho5.2 with ⟨h, _⟩ | ⟨g, c, cur, h, _⟩
    · exact ⟨_, _, _, h⟩
    · exact ⟨_, _, _, h⟩
  refine ⟨p', n', c', w5, hr, ?_, hg5⟩
  rw [OwnU, List.length_append, List.flatMap_append, List.flatMap_singleton]
  exact ho5
end Above
end Go.Proofs.YtbgjoefpnjgdkaaDoor
