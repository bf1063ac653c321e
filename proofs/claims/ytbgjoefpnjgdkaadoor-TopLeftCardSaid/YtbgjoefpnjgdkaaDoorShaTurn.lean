/- sha's turn: a word turned. -/
import Derived.Test.YtbgjoefpnjgdkaaDoorBase
import Derived.Lib.Hide
namespace Go.Proofs.YtbgjoefpnjgdkaaDoor
open Go.RowKit
set_option linter.unusedVariables false
set_option maxRecDepth 100000
namespace Sha
/-- as the model spells it; plain, so that no walk takes it apart -/
def rotK (x k : Int) : Int := bits .or .u32 (x * 2 ^ k.toNat % 4294967296) (x / 2 ^ (32 - k).toNat)

theorem rot_any (x n k : Int) (h0 : 0 ≤ k) (h1 : k ≤ 31) (hb : bits .and .u64 (IntKind.u64.wrap n) 31 = k) (w : World) :
    Calls Tryd.prog 132 #[.int .u32 x, .int .i64 n] w fun e w' => e = .returned (.int .u32 (rotK x k)) ∧ w = w' := by
  have h2 : 0 ≤ 32 - k := by omega
  have h3 : IntKind.u64.wrap (32 - k) = 32 - k := by simp only [IntKind.wrap]; simp [IntKind.signed, IntKind.bits]; omega
  go_enter Tryd.func132, Tryd.ntmps132
  go_wp2_with fail
  go_ret
  exact ⟨rfl, rfl⟩

def turnOk (c : Int) : Prop := 0 ≤ 32 - c ∧ 32 - c ≤ 31 ∧ bits .and .u64 (IntKind.u64.wrap (-c)) 31 = 32 - c
/-- turned by c places to the right -/
def rotr (x c : Int) : Int := rotK x (32 - c)
theorem turn_any (x c : Int) (h : turnOk c) (hc : IntKind.i64.wrap (-c) = -c) (w : World) :
    Calls Tryd.prog 92 #[.int .u32 x, .int .i64 c] w fun e w' => e = .returned (.int .u32 (rotr x c)) ∧ w = w' := by
  have H := Lib.hid h
  clear h
  go_enter Tryd.func92, Tryd.ntmps92
  go_wp2_with fail
  refine (rot_any x (-c) (32 - c) H.out.1 H.out.2.1 H.out.2.2 _).mono ?_
  rintro e w' ⟨rfl, rfl⟩
  go_wp2_with fail
  go_ret
  exact ⟨rfl, rfl⟩

theorem ok2 : turnOk 2 := ⟨by decide, by decide, by decide +kernel⟩
theorem ok6 : turnOk 6 := ⟨by decide, by decide, by decide +kernel⟩
theorem ok7 : turnOk 7 := ⟨by decide, by decide, by decide +kernel⟩
theorem ok11 : turnOk 11 := ⟨by decide, by decide, by decide +kernel⟩
theorem ok13 : turnOk 13 := ⟨by decide, by decide, by decide +kernel⟩
theorem ok17 : turnOk 17 := ⟨by decide, by decide, by decide +kernel⟩
theorem ok18 : turnOk 18 := ⟨by decide, by decide, by decide +kernel⟩
theorem ok19 : turnOk 19 := ⟨by decide, by decide, by decide +kernel⟩
theorem ok22 : turnOk 22 := ⟨by decide, by decide, by decide +kernel⟩
theorem ok25 : turnOk 25 := ⟨by decide, by decide, by decide +kernel⟩
theorem turn7 (x : Int) (w : World) : Calls Tryd.prog 92 #[.int .u32 x, .int .i64 7] w fun e w' => e = .returned (.int .u32 (rotr x 7)) ∧ w = w' := turn_any x 7 ok7 (by decide +kernel) w
end Sha
end Go.Proofs.YtbgjoefpnjgdkaaDoor
