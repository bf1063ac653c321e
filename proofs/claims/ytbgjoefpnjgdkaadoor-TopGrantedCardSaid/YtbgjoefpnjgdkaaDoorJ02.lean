/- Joined of 2 texts: their lemmas, one behind the other; each says below what it holds. -/
import Derived.Test.YtbgjoefpnjgdkaaDoorJ01
import Derived.RangeFuncBox
import Derived.Lib.SlBytesConst
import Derived.Test.YtbgjoefpnjgdkaaDoorJ00
import Derived.Lib.Hide
/- More of bytes that may be appended to: in a range over a function. -/
namespace Go.Proofs.YtbgjoefpnjgdkaaDoor
open Go.RowKit
set_option linter.unusedVariables false
/-- its row is not a block that holds something else -/
theorem Bag.ne_box {base b : Nat} {w : World} {v u : Value} {l : List UInt8} (h : Bag base w v l) (hl : 0 < l.length) (hb : w.cell? ⟨b, 0, none⟩ = some u) (hu : ∀ c : Int, u ≠ .int .u8 c) : v.ownBlock ≠ some b := by
  rcases h with ⟨rfl, rfl⟩ | ⟨g, cap, rfl, _, _, _, h1, _⟩
  · cases hl
  · intro e
    injection e with e
    simp only at e
    subst e
    have h0 := h1 0 hl
    rw [hb] at h0
    exact hu _ (Option.some.inj h0)

/-- a literal that was converted to its own type -/
theorem Bag.literal (w : World) (l : List UInt8) (C : Array Value) (t : TypeId) (k : Nat) (base H : Nat) (hH : w.heap.size = H) (hb : base ≤ H) (hC : C = (bytesV l).toArray) (hk : l.length ≤ k) (m : Nat) : Bag base (w.alloc (.cells C t (k, m))) (.slice (some ⟨H, 0, none⟩) l.length l.length) l := by
  subst hH hC
  refine .inr ⟨w.heap.size, l.length, rfl, hb, by simp, Nat.le_refl _, fun j hj => ?_, fun j hj => ⟨?_, ?_⟩⟩
  · rw [World.cell?_alloc_mark w (bytesV l).toArray t (k, m) j]
    simp [bytesV, hj]
  · rw [World.cell?_alloc_mark w (bytesV l).toArray t (k, m) j]
    simp [bytesV, hj]
  · refine (World.frozen?_alloc_mark w (bytesV l).toArray t k m j).trans ?_
    simp only [Bool.and_eq_false_iff, decide_eq_false_iff_not]
    left; omega

/-- it outlives what is done to blocks that are no cells -/
theorem Bag.from {β : Type} {base : Nat} {v : Value} {f : β → List UInt8} {s : β} {W W' : World} {row : Option Nat} (h : Bag base W v (f s)) (hl : 0 < (f s).length) (hg : W.grownBy W' row) (hr : ∀ r, row = some r → ∃ o : Obj, W.heap[r]? = some o ∧ o.isCells = false) : Bag base W' v (f s) := by
  refine h.kept hg ?_
  by_cases h0 : v.ownBlock = none
  · exact .inl h0
  · right
    intro e
    rcases h with ⟨_, h1⟩ | ⟨g, cap, rfl, _, _, _, h1, _⟩
    · rw [h1] at hl; cases hl
    · obtain ⟨o, ho, hc⟩ := hr g e.symm
      have hcell := h1 0 hl
      unfold World.cell? at hcell
      simp only [ho] at hcell
      cases o <;> simp_all [Obj.isCells]

theorem row_ne_cell {W : World} {row : Option Nat} {b : Nat} {u : Value} (hc : W.cell? ⟨b, 0, none⟩ = some u) (hr : ∀ r, row = some r → ∃ o : Obj, W.heap[r]? = some o ∧ o.isCells = false) : some b ≠ row := by
  intro e
  obtain ⟨o, ho, hcc⟩ := hr b e.symm
  unfold World.cell? at hc
  simp only [ho] at hc
  cases o <;> simp_all [Obj.isCells]
theorem boxed_low {W W' : World} {B : Nat} {t : TypeId} {v : Value} (h : Boxed W B t v) (hb : Below W.heap.size W W') : Boxed W' B t v :=
  h.kept (row := none) ⟨hb.os, hb.tape, hb.output, hb.size, fun k hk _ => hb.block k hk⟩ (by simp)
theorem keeps_low {W W' : World} (hb : Below W.heap.size W W') : KeepsOthers W W' :=
  KeepsOthers.of_grownBy (row := none) ⟨hb.os, hb.tape, hb.output, hb.size, fun k hk _ => hb.block k hk⟩ (fun j o e => by cases e)

/-- a literal's new row -/
theorem Bag.fresh (w : World) (l : List UInt8) (C : Array Value) (t : TypeId) (base H : Nat) (hH : w.heap.size = H) (hb : base ≤ H) (hC : C = (bytesV l).toArray) : Bag base (w.alloc (.cells C t)) (.slice (some ⟨H, 0, none⟩) l.length l.length) l := by
  subst hH hC
  refine .inr ⟨w.heap.size, l.length, rfl, hb, by simp, Nat.le_refl _, fun j hj => ?_, fun j hj => ⟨?_, ?_⟩⟩
  · rw [World.cell?_alloc_mark w (bytesV l).toArray t (0, 0) j]
    simp [bytesV, hj]
  · rw [World.cell?_alloc_mark w (bytesV l).toArray t (0, 0) j]
    simp [bytesV, hj]
  · exact (World.frozen?_alloc_mark w (bytesV l).toArray t 0 0 j).trans (by simp)
theorem add_block (b j : Nat) : ((⟨b, 0, none⟩ : Addr).add j).block = b := by unfold Addr.add; split <;> rfl
end Go.Proofs.YtbgjoefpnjgdkaaDoor
/- sha's turn: a word turned. -/
namespace Go.Proofs.YtbgjoefpnjgdkaaDoor
open Go.RowKit
set_option linter.unusedVariables false
set_option maxRecDepth 100000
namespace Sha
/-- as the model spells it; plain, so that no walk takes it apart -/
def rotK (x k : Int) : Int := bits .or .u32 (x * 2 ^ k.toNat % 4294967296) (x / 2 ^ (32 - k).toNat)

theorem rot_any (x n k : Int) (h0 : 0 ≤ k) (h1 : k ≤ 31) (hb : bits .and .u64 (IntKind.u64.wrap n) 31 = k) (w : World) :
    Calls Tryd.prog 132 #[.int .u32 x, .int .i64 n] w fun e w' => e = .returned (.int .u32 (rotK x k)) ∧ w = w' := by
  have h2 : 0 ≤ 32 - k := by omega
  have h3 : IntKind.u64.wrap (32 - k) = 32 - k := by simp only [IntKind.wrap]; simp [IntKind.signed, IntKind.bits]; omega
  go_enter Tryd.func132, Tryd.ntmps132
  go_wp2_with fail
  go_ret
  exact ⟨rfl, rfl⟩

def turnOk (c : Int) : Prop := 0 ≤ 32 - c ∧ 32 - c ≤ 31 ∧ bits .and .u64 (IntKind.u64.wrap (-c)) 31 = 32 - c
/-- turned by c places to the right -/
def rotr (x c : Int) : Int := rotK x (32 - c)
theorem turn_any (x c : Int) (h : turnOk c) (hc : IntKind.i64.wrap (-c) = -c) (w : World) :
    Calls Tryd.prog 92 #[.int .u32 x, .int .i64 c] w fun e w' => e = .returned (.int .u32 (rotr x c)) ∧ w = w' := by
  have H := Lib.hid h
  clear h
  go_enter Tryd.func92, Tryd.ntmps92
  go_wp2_with fail
  refine (rot_any x (-c) (32 - c) H.out.1 H.out.2.1 H.out.2.2 _).mono ?_
  rintro e w' ⟨rfl, rfl⟩
  go_wp2_with fail
  go_ret
  exact ⟨rfl, rfl⟩

theorem ok2 : turnOk 2 := ⟨by decide, by decide, by decide +kernel⟩
theorem ok6 : turnOk 6 := ⟨by decide, by decide, by decide +kernel⟩
theorem ok7 : turnOk 7 := ⟨by decide, by decide, by decide +kernel⟩
theorem ok11 : turnOk 11 := ⟨by decide, by decide, by decide +kernel⟩
theorem ok13 : turnOk 13 := ⟨by decide, by decide, by decide +kernel⟩
theorem ok17 : turnOk 17 := ⟨by decide, by decide, by decide +kernel⟩
theorem ok18 : turnOk 18 := ⟨by decide, by decide, by decide +kernel⟩
theorem ok19 : turnOk 19 := ⟨by decide, by decide, by decide +kernel⟩
theorem ok22 : turnOk 22 := ⟨by decide, by decide, by decide +kernel⟩
theorem ok25 : turnOk 25 := ⟨by decide, by decide, by decide +kernel⟩
theorem turn7 (x : Int) (w : World) : Calls Tryd.prog 92 #[.int .u32 x, .int .i64 7] w fun e w' => e = .returned (.int .u32 (rotr x 7)) ∧ w = w' := turn_any x 7 ok7 (by decide +kernel) w
end Sha
end Go.Proofs.YtbgjoefpnjgdkaaDoor
