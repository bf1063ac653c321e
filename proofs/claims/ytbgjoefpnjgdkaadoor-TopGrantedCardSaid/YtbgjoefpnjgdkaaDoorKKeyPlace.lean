/- key.Place: a signature's place. -/
import Derived.Test.YtbgjoefpnjgdkaaDoorJ26
namespace Go.Proofs.YtbgjoefpnjgdkaaDoor
open Go.RowKit
set_option linter.unusedVariables false
set_option linter.unusedSimpArgs false
set_option maxRecDepth 100000
namespace Key
open Sha
set_option maxHeartbeats 1000000 in
theorem place_ok0 (b : UInt8) (r : List UInt8) (hl : r.length = 1088) (hb : b.toNat < 1) (w : World) : Calls Tryd.prog 108 #[.int .i64 0, .string ⟨(b :: r).toArray⟩] w fun e w' => e = .returned (.tuple #[.int .i64 (b.toNat : Int), .int .i64 0]) ∧ Below w.heap.size w w' := by
  have hsz : (ByteArray.mk (b :: r).toArray).size = 1089 := by simp [ByteArray.size, hl]
  have hat : ∀ h, (ByteArray.mk (b :: r).toArray)[0]'h = b := fun _ => rfl
  have hw64 : wrap64 (b.toNat : Int) = (b.toNat : Int) := by simp only [wrap64]; omega
  have hbi : decide ((1 : Int) ≤ (b.toNat : Int)) = false := decide_eq_false (by omega)
  have hb0 : (0 : Int) ≤ (b.toNat : Int) := by omega
  have hb1 : (b.toNat : Int) < 1 := by omega
  have hlt : ¬ (1 : Int) ≤ (b.toNat : Int) := by omega
  have HSC := Lib.hid (fun (W : World) => high_ok 0 (by omega) (by omega) W)
  go_enter Tryd.func108, Tryd.ntmps108
  go_wp2_with fail
  refine wp_region_quiet_below (by kernel_rfl) (by kernel_rfl) ?_
  repeat (go_big_quiet_step ((go_at_call 136; exact Calls.regrown_of ((HSC.out _).mono fun e w' ⟨he, hw⟩ => ⟨he, hw ▸ Below.refl _ _⟩))))
  refine wpQuiet_nil ?_
  intro W5 hw'
  have hb5 : Below w.heap.size w W5 := by obtain ⟨p, rfl⟩ := hw'; exact below_regrown w p.d p.os
  clear hw'
  go_wp2_with fail
  refine bodyPost_ret (v := .tuple #[.int .i64 (b.toNat : Int), .int .i64 0]) (by simp [results, Tryd.f108, go_sem]) rfl ⟨rfl, hb5⟩

set_option maxHeartbeats 1000000 in
theorem place_ok1 (b : UInt8) (r : List UInt8) (hl : r.length = 1120) (hb : b.toNat < 2) (w : World) : Calls Tryd.prog 108 #[.int .i64 1, .string ⟨(b :: r).toArray⟩] w fun e w' => e = .returned (.tuple #[.int .i64 (b.toNat : Int), .int .i64 0]) ∧ Below w.heap.size w w' := by
  have hsz : (ByteArray.mk (b :: r).toArray).size = 1121 := by simp [ByteArray.size, hl]
  have hat : ∀ h, (ByteArray.mk (b :: r).toArray)[0]'h = b := fun _ => rfl
  have hw64 : wrap64 (b.toNat : Int) = (b.toNat : Int) := by simp only [wrap64]; omega
  have hbi : decide ((2 : Int) ≤ (b.toNat : Int)) = false := decide_eq_false (by omega)
  have hb0 : (0 : Int) ≤ (b.toNat : Int) := by omega
  have hb1 : (b.toNat : Int) < 2 := by omega
  have hlt : ¬ (2 : Int) ≤ (b.toNat : Int) := by omega
  have HSC := Lib.hid (fun (W : World) => high_ok 1 (by omega) (by omega) W)
  go_enter Tryd.func108, Tryd.ntmps108
  go_wp2_with fail
  refine wp_region_quiet_below (by kernel_rfl) (by kernel_rfl) ?_
  repeat (go_big_quiet_step ((go_at_call 136; exact Calls.regrown_of ((HSC.out _).mono fun e w' ⟨he, hw⟩ => ⟨he, hw ▸ Below.refl _ _⟩))))
  refine wpQuiet_nil ?_
  intro W5 hw'
  have hb5 : Below w.heap.size w W5 := by obtain ⟨p, rfl⟩ := hw'; exact below_regrown w p.d p.os
  clear hw'
  go_wp2_with fail
  refine bodyPost_ret (v := .tuple #[.int .i64 (b.toNat : Int), .int .i64 0]) (by simp [results, Tryd.f108, go_sem]) rfl ⟨rfl, hb5⟩

set_option maxHeartbeats 1000000 in
theorem place_ok2 (b : UInt8) (r : List UInt8) (hl : r.length = 1152) (hb : b.toNat < 4) (w : World) : Calls Tryd.prog 108 #[.int .i64 2, .string ⟨(b :: r).toArray⟩] w fun e w' => e = .returned (.tuple #[.int .i64 (b.toNat : Int), .int .i64 0]) ∧ Below w.heap.size w w' := by
  have hsz : (ByteArray.mk (b :: r).toArray).size = 1153 := by simp [ByteArray.size, hl]
  have hat : ∀ h, (ByteArray.mk (b :: r).toArray)[0]'h = b := fun _ => rfl
  have hw64 : wrap64 (b.toNat : Int) = (b.toNat : Int) := by simp only [wrap64]; omega
  have hbi : decide ((4 : Int) ≤ (b.toNat : Int)) = false := decide_eq_false (by omega)
  have hb0 : (0 : Int) ≤ (b.toNat : Int) := by omega
  have hb1 : (b.toNat : Int) < 4 := by omega
  have hlt : ¬ (4 : Int) ≤ (b.toNat : Int) := by omega
  have HSC := Lib.hid (fun (W : World) => high_ok 2 (by omega) (by omega) W)
  go_enter Tryd.func108, Tryd.ntmps108
  go_wp2_with fail
  refine wp_region_quiet_below (by kernel_rfl) (by kernel_rfl) ?_
  repeat (go_big_quiet_step ((go_at_call 136; exact Calls.regrown_of ((HSC.out _).mono fun e w' ⟨he, hw⟩ => ⟨he, hw ▸ Below.refl _ _⟩))))
  refine wpQuiet_nil ?_
  intro W5 hw'
  have hb5 : Below w.heap.size w W5 := by obtain ⟨p, rfl⟩ := hw'; exact below_regrown w p.d p.os
  clear hw'
  go_wp2_with fail
  refine bodyPost_ret (v := .tuple #[.int .i64 (b.toNat : Int), .int .i64 0]) (by simp [results, Tryd.f108, go_sem]) rfl ⟨rfl, hb5⟩

set_option maxHeartbeats 1000000 in
theorem place_ok3 (b : UInt8) (r : List UInt8) (hl : r.length = 1184) (hb : b.toNat < 8) (w : World) : Calls Tryd.prog 108 #[.int .i64 3, .string ⟨(b :: r).toArray⟩] w fun e w' => e = .returned (.tuple #[.int .i64 (b.toNat : Int), .int .i64 0]) ∧ Below w.heap.size w w' := by
  have hsz : (ByteArray.mk (b :: r).toArray).size = 1185 := by simp [ByteArray.size, hl]
  have hat : ∀ h, (ByteArray.mk (b :: r).toArray)[0]'h = b := fun _ => rfl
  have hw64 : wrap64 (b.toNat : Int) = (b.toNat : Int) := by simp only [wrap64]; omega
  have hbi : decide ((8 : Int) ≤ (b.toNat : Int)) = false := decide_eq_false (by omega)
  have hb0 : (0 : Int) ≤ (b.toNat : Int) := by omega
  have hb1 : (b.toNat : Int) < 8 := by omega
  have hlt : ¬ (8 : Int) ≤ (b.toNat : Int) := by omega
  have HSC := Lib.hid (fun (W : World) => high_ok 3 (by omega) (by omega) W)
  go_enter Tryd.func108, Tryd.ntmps108
  go_wp2_with fail
  refine wp_region_quiet_below (by kernel_rfl) (by kernel_rfl) ?_
  repeat (go_big_quiet_step ((go_at_call 136; exact Calls.regrown_of ((HSC.out _).mono fun e w' ⟨he, hw⟩ => ⟨he, hw ▸ Below.refl _ _⟩))))
  refine wpQuiet_nil ?_
  intro W5 hw'
  have hb5 : Below w.heap.size w W5 := by obtain ⟨p, rfl⟩ := hw'; exact below_regrown w p.d p.os
  clear hw'
  go_wp2_with fail
  refine bodyPost_ret (v := .tuple #[.int .i64 (b.toNat : Int), .int .i64 0]) (by simp [results, Tryd.f108, go_sem]) rfl ⟨rfl, hb5⟩

end Key
end Go.Proofs.YtbgjoefpnjgdkaaDoor
