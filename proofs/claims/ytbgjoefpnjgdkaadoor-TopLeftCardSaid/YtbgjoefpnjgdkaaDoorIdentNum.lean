/- A small number's digits are appended. -/
import Derived.Test.YtbgjoefpnjgdkaaDoorIdentVars
import Derived.Test.YtbgjoefpnjgdkaaDoorConvShelf
namespace Go.Proofs.YtbgjoefpnjgdkaaDoor
open Go.RowKit
set_option linter.unusedVariables false
set_option linter.unusedSimpArgs false
set_option maxRecDepth 100000
namespace Named
theorem decDigits_short (u : Nat) (h : u < 100) : (Lib.decDigits u).length ≤ 2 := by
  rw [Lib.decDigits]
  split
  · simp
  · rw [Lib.decDigits, dif_pos (by omega)]; simp

theorem ba_size (l : List UInt8) : (ByteArray.mk l.toArray).size = l.length := by simp [ByteArray.size]

theorem appendUint_small (base : Nat) (v : Value) (l : List UInt8) (u : Nat) (hu : u < 100) (hl : l.length ≤ 1048576) (w : World) (hB : Bag base w v l) (hb : base ≤ w.heap.size) :
    Calls Tryd.prog 148 #[v, .int .u64 (u : Int), .int .i64 10] w fun e w' => ∃ v', e = .returned v' ∧ Bag base w' v' (l ++ Lib.decDigits u) ∧ w.grownBy w' v.ownBlock := by
  have HS := Lib.hid (fun w => Tryd.internal_strconv_small u hu w)
  have hd := decDigits_short u hu
  obtain ⟨d, hdd⟩ : ∃ d, d = Lib.decDigits u := ⟨_, rfl⟩
  rw [← hdd] at HS hd ⊢
  clear hdd
  have hui : (u : Int) < 100 := by omega
  have hz := ba_size d
  go_enter Tryd.func148, Tryd.ntmps148
  go_wp2_with (first
    | (go_at_call 164; refine (HS.out _).mono ?_; rintro e w' ⟨rfl, rfl⟩)
    | (at_builtin; refine wpList_append_bag_string rfl _ _ rfl base v l rfl hB hb ⟨d.toArray⟩ rfl (by rw [hz]; omega) ?_; intro v' w' hB' hg'))
  go_ret
  exact ⟨_, rfl, hB', hg'⟩

theorem appendInt_inner (base : Nat) (v : Value) (l : List UInt8) (u : Nat) (hu : u < 100) (hl : l.length ≤ 1048576) (w : World) (hB : Bag base w v l) (hb : base ≤ w.heap.size) :
    Calls Tryd.prog 115 #[v, .int .i64 (u : Int), .int .i64 10] w fun e w' => ∃ v', e = .returned v' ∧ Bag base w' v' (l ++ Lib.decDigits u) ∧ w.grownBy w' v.ownBlock := by
  have HS := Lib.hid (appendUint_small base v l u hu hl w hB hb)
  have hui : (u : Int) < 100 := by omega
  have hw : IntKind.u64.wrap (u : Int) = (u : Int) := by rw [IntKind.wrap_u64]; omega
  go_enter Tryd.func115, Tryd.ntmps115
  go_wp2_with (go_at_call 148; refine HS.out.mono ?_; rintro e w' ⟨v', rfl, hB', hg'⟩)
  go_ret
  exact ⟨_, rfl, hB', hg'⟩

theorem appendInt_small (base : Nat) (v : Value) (l : List UInt8) (u : Nat) (hu : u < 100) (hl : l.length ≤ 1048576) (w : World) (hB : Bag base w v l) (hb : base ≤ w.heap.size) :
    Calls Tryd.prog 71 #[v, .int .i64 (u : Int), .int .i64 10] w fun e w' => ∃ v', e = .returned v' ∧ Bag base w' v' (l ++ Lib.decDigits u) ∧ w.grownBy w' v.ownBlock := by
  have HS := Lib.hid (appendInt_inner base v l u hu hl w hB hb)
  go_enter Tryd.func71, Tryd.ntmps71
  go_wp2_with (go_at_call 115; refine HS.out.mono ?_; rintro e w' ⟨v', rfl, hB', hg'⟩)
  go_ret
  exact ⟨_, rfl, hB', hg'⟩
end Named
end Go.Proofs.YtbgjoefpnjgdkaaDoor
