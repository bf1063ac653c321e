/- A slice of calls that a law is handed, opened: each element's four cells. -/
import Derived.Test.YtjfibmlpjcncmaaDiskKeptWalk
import Derived.Deep.Slices
import Derived.Lib.SmallJoins
import Derived.WideHanded
namespace Go.Proofs.Ytjfibmlpjcncmaa
open Go.RowKit Go.ChangeShapes Go.WideShapes Go.Deep Go.Joins
set_option linter.unusedVariables false

instance : Inhabited Disk.ActD := ⟨⟨0, ⟨#[]⟩, 0, 0⟩⟩

theorem take1 {cs : List Value} {j : Nat} (h : j < cs.length) : (cs.drop j).take 1 = [cs[j]] := by
  rw [List.drop_eq_getElem_cons h]; rfl

section
variable {H : Type} {enc : TypeId × Value → H} {W : World}

theorem open_acts {ts te : TypeId} {fuel : Nat} {cs : List Value} {x : DataW H × List MemPlace} (hts : Try.prog.underlying ts = some (.slice te))
    {f0 f1 f2 f3 : Field} (hte : Try.prog.underlying te = some (.struct #[f0, f1, f2, f3])) (hC : Try.prog.cellsOf te = 4)
    (o0 : f0.offset = 0) (o1 : f1.offset = 1) (o2 : f2.offset = 2) (o3 : f3.offset = 3)
    (c0 : Try.prog.cellsOf f0.type = 1) (c1 : Try.prog.cellsOf f1.type = 1) (c2 : Try.prog.cellsOf f2.type = 1) (c3 : Try.prog.cellsOf f3.type = 1)
    (u0 : Try.prog.underlying f0.type = some (.int .i64)) (u1 : Try.prog.underlying f1.type = some .string) (u2 : Try.prog.underlying f2.type = some (.int .i64)) (u3 : Try.prog.underlying f3.type = some (.int .u8))
    (h : DataW.trod enc Try.prog W 0 (fun _ => true) true fuel ts cs = some x) :
    cs = [.slice none 0 0] ∨ ∃ (a : Addr) (cap : Nat) (L : List Disk.ActD), cs = [.slice (some a) L.length cap] ∧ L.length ≤ maxLen ∧ (L = [] ∨ ∃ b off, a = ⟨b, off, none⟩ ∧ Disk.Acts W b off L) := by
  rcases open_slice hts h with ⟨h0, _⟩ | ⟨a, len, cap, m, n, D, Pl, hcs, _, hl, hm, hmm, _, hi⟩
  · exact .inl h0
  right
  rw [hC] at hi
  have hlm : len ≤ m := by rw [hmm, if_pos rfl]; exact hl
  have each : ∀ i, i < len → ∃ d : Disk.ActD, W.cell? (a.add (i * 4)) = some (.int .i64 d.kind) ∧ W.cell? (a.add (i * 4 + 1)) = some (.string d.text) ∧ W.cell? (a.add (i * 4 + 2)) = some (.int .i64 d.n) ∧ W.cell? (a.add (i * 4 + 3)) = some (.int .u8 (d.bits.toNat : Int)) := by
    intro i hil
    obtain ⟨cs', hc, ht⟩ := hi i (by omega)
    obtain ⟨_, hcl, hat⟩ := World.cells?_some hc
    obtain ⟨y0, y1, y2, y3, n', _, _, t0, t1, t2, t3⟩ := trod_struct4 hte ht
    rw [o0, c0, take1 (by omega)] at t0
    rw [o1, c1, take1 (by omega)] at t1
    rw [o2, c2, take1 (by omega)] at t2
    rw [o3, c3, take1 (by omega)] at t3
    obtain ⟨k, e0, _, _⟩ := DataW.trod_int u0 t0
    obtain ⟨s, e1, _, _⟩ := DataW.trod_string u1 t1
    obtain ⟨q, e2, _, _⟩ := DataW.trod_int u2 t2
    obtain ⟨bb, e3, _, wb⟩ := DataW.trod_int u3 t3
    obtain ⟨b, rfl⟩ := Disk.u8_of bb wb
    have g : ∀ j (hj : j < 4), W.cell? (a.add (i * 4 + j)) = some (cs'[j]'(by omega)) := fun j hj => by
      rw [← Go.Deep.add_add, hat j hj, List.getElem?_eq_getElem (by omega)]
    refine ⟨⟨k, s, q, b⟩, ?_, ?_, ?_, ?_⟩
    · rw [show i * 4 = i * 4 + 0 from rfl, g 0 (by omega)]; simpa using e0
    · rw [g 1 (by omega)]; simpa using e1
    · rw [g 2 (by omega)]; simpa using e2
    · rw [g 3 (by omega)]; simpa using e3
  obtain ⟨f, hf⟩ := choose_lt each
  refine ⟨a, cap, (List.range len).map f, by simpa using hcs, by simp; omega, ?_⟩
  by_cases hz : len = 0
  · left; subst hz; rfl
  · right
    obtain ⟨b, off, spot⟩ := a
    have hspot : spot = none := by simpa [Addr.add] using World.cell?_spot (hf 0 (by omega)).1
    subst hspot
    refine ⟨b, off, rfl, ?_⟩
    have hL : ∀ (i : Nat) (d : Disk.ActD), ((List.range len).map f)[i]? = some d → i < len ∧ d = f i := by
      intro i d hd
      rw [List.getElem?_map] at hd
      by_cases hil : i < len
      · rw [List.getElem?_range hil] at hd
        simp at hd
        exact ⟨hil, hd.symm⟩
      · rw [List.getElem?_eq_none (by simpa using hil)] at hd; simp at hd
    have hadd : ∀ j : Nat, (⟨b, off, none⟩ : Addr).add j = ⟨b, off + j, none⟩ := fun j => by
      unfold Addr.add; split
      · rename_i e; subst e; rfl
      · rfl
    refine ⟨fun _ => ?_, fun i d hd => ?_, fun i d hd => ?_, fun i d hd => ?_, fun i d hd => ?_⟩
    · exact World.block_lt_of_cell? W ⟨b, off, none⟩ (by have := (hf 0 (by omega)).1; simpa [Addr.add] using this)
    · obtain ⟨hil, rfl⟩ := hL i d hd; have := (hf i hil).1; rwa [hadd] at this
    · obtain ⟨hil, rfl⟩ := hL i d hd; have := (hf i hil).2.1; rwa [hadd, ← Nat.add_assoc] at this
    · obtain ⟨hil, rfl⟩ := hL i d hd; have := (hf i hil).2.2.1; rwa [hadd, ← Nat.add_assoc] at this
    · obtain ⟨hil, rfl⟩ := hL i d hd; have := (hf i hil).2.2.2; rwa [hadd, ← Nat.add_assoc] at this
end
end Go.Proofs.Ytjfibmlpjcncmaa
