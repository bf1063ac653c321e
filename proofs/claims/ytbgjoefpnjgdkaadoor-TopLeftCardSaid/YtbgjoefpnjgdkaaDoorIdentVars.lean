/- The variables that ident and strconv read: the kinds' signs, and the two errors; a text's kind. -/
import Derived.Test.YtbgjoefpnjgdkaaDoorIdentCut
namespace Go.Proofs.YtbgjoefpnjgdkaaDoor
open Go.RowKit
set_option linter.unusedVariables false
set_option linter.unusedSimpArgs false
set_option maxRecDepth 100000
namespace Named
/-- the signs and the errors lie in the world -/
structure Vars (w : World) : Prop where
  s1 : w.cell? ⟨1, 1, none⟩ = some (.string ⟨#[64]⟩)
  s2 : w.cell? ⟨1, 2, none⟩ = some (.string ⟨#[33]⟩)
  es : ∃ t p, w.cell? ⟨5, 0, none⟩ = some (.iface t p)
  er : ∃ t p, w.cell? ⟨6, 0, none⟩ = some (.iface t p)

theorem cell_low {w w' : World} {a : Addr} {v : Value} (h : w.cell? a = some v) (hb : Below w.heap.size w w') : w'.cell? a = some v := by
  rw [hb.cell (World.block_lt_of_cell? w a h)]; exact h

theorem Vars.low {w w' : World} (h : Vars w) (hb : Below w.heap.size w w') : Vars w' := by
  obtain ⟨t, p, h3⟩ := h.es
  obtain ⟨t', p', h4⟩ := h.er
  exact ⟨cell_low h.s1 hb, cell_low h.s2 hb, ⟨t, p, cell_low h3 hb⟩, ⟨t', p', cell_low h4 hb⟩⟩
theorem Vars.below {w w' : World} {n : Nat} (h : Vars w) (hn : n = w.heap.size) (hb : Below n w w') : Vars w' := h.low (hn ▸ hb)
theorem Vars.drew {w : World} (h : Vars w) : Vars w.drew := ⟨h.s1, h.s2, h.es, h.er⟩
theorem Vars.alloc {w : World} (h : Vars w) (o : Obj) : Vars (w.alloc o) := h.low ((Below.refl _ _).alloc (Nat.le_refl _) o)

theorem kind_any (s : List UInt8) (w : World) (hV : Vars w) : Calls Tryd.prog 67 #[.string ⟨s.toArray⟩] w fun e w' => e = .returned (.int .u8 (kindL s : Int)) ∧ w' = w := by
  have h1 := hV.s1
  have h2 := hV.s2
  have HP1 := Lib.hid (hasPrefix_one s 64)
  have HP2 := Lib.hid (hasPrefix_one s 33)
  have HK : Hid (kindL s = if s.head? = some 64 then 1 else if s.head? = some 33 then 2 else 0) := Lib.hid rfl
  clear hV
  go_enter Tryd.func67, Tryd.ntmps67
  go_wp2
  go_loop [3] (fun v => ∃ k : Nat, v = .int .u8 (k : Int) ∧ 1 ≤ k ∧ k ≤ 3 ∧ Hid ((1 < k → s.head? ≠ some 64) ∧ (2 < k → s.head? ≠ some 33))) (fun v => 3 - (intOf v).toNat)
  case atStart => exact ⟨1, rfl, by omega, by omega, Lib.hid ⟨fun h => absurd h (by omega), fun h => absurd h (by omega)⟩⟩
  case round =>
    obtain ⟨k, rfl, hk1, hk3, HA⟩ := hrel
    obtain rfl | rfl | rfl : k = 1 ∨ k = 2 ∨ k = 3 := by omega
    · by_cases hd : s.head? = some 64
      · have hdd := decide_eq_true hd
        rw [hdd] at HP1
        have HR := Lib.hid (show kindL s = 1 by rw [HK.out, if_pos hd])
        clear hdd hd
        go_wp2_with (go_at_call 110; refine (HP1.out _).mono ?_; rintro e w' ⟨rfl, rfl⟩)
        go_ret
        exact ⟨by rw [HR.out]; rfl, rfl⟩
      · have hdd := decide_eq_false hd
        rw [hdd] at HP1
        have HD := Lib.hid hd
        clear hdd hd
        go_wp2_with (go_at_call 110; refine (HP1.out _).mono ?_; rintro e w' ⟨rfl, rfl⟩)
        exact ⟨⟨2, rfl, by omega, by omega, Lib.hid ⟨fun _ => HD.out, fun h => absurd h (by omega)⟩⟩, by simp [intOf]⟩
    · by_cases hd : s.head? = some 33
      · have hdd := decide_eq_true hd
        rw [hdd] at HP2
        have HR := Lib.hid (show kindL s = 2 by rw [HK.out, if_neg (HA.out.1 (by omega)), if_pos hd])
        clear hdd hd
        go_wp2_with (go_at_call 110; refine (HP2.out _).mono ?_; rintro e w' ⟨rfl, rfl⟩)
        go_ret
        exact ⟨by rw [HR.out]; rfl, rfl⟩
      · have hdd := decide_eq_false hd
        rw [hdd] at HP2
        have HD := Lib.hid hd
        clear hdd hd
        go_wp2_with (go_at_call 110; refine (HP2.out _).mono ?_; rintro e w' ⟨rfl, rfl⟩)
        exact ⟨⟨3, rfl, by omega, by omega, Lib.hid ⟨fun _ => HA.out.1 (by omega), fun _ => HD.out⟩⟩, by simp [intOf]⟩
    · have HR := Lib.hid (show kindL s = 0 by rw [HK.out, if_neg (HA.out.1 (by omega)), if_neg (HA.out.2 (by omega))])
      go_wp2
      go_ret
      exact ⟨by rw [HR.out]; rfl, rfl⟩
end Named
end Go.Proofs.YtbgjoefpnjgdkaaDoor
