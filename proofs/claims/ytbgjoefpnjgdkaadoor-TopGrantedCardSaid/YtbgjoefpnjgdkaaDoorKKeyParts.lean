/- key: whether a key is right; a place's seed. -/
import Derived.Test.YtbgjoefpnjgdkaaDoorKTreeEdges
import Derived.Test.YtbgjoefpnjgdkaaDoorKOnePublic
import Derived.BigQuiet
import Derived.Lib.QuietBelow
namespace Go.Proofs.YtbgjoefpnjgdkaaDoor
open Go.RowKit
set_option linter.unusedVariables false
set_option linter.unusedSimpArgs false
set_option maxRecDepth 100000
namespace Key
open Sha
theorem high_ok (n : Int) (h0 : 0 ≤ n) (h7 : n ≤ 7) (w : World) : Calls Tryd.prog 136 #[.int .i64 n] w fun e w' => e = .returned (.bool true) ∧ w = w' := by
  go_enter Tryd.func136, Tryd.ntmps136
  go_wp2_with fail
  go_ret
  exact ⟨by simp [h7], rfl⟩
theorem high_bad (n : Int) (h : ¬ (0 ≤ n ∧ n ≤ 7)) (w : World) : Calls Tryd.prog 136 #[.int .i64 n] w fun e w' => e = .returned (.bool false) ∧ w = w' := by
  by_cases h0 : 0 ≤ n
  · have h7 : 7 < n := by omega
    go_enter Tryd.func136, Tryd.ntmps136
    go_wp2_with fail
    go_ret
    exact ⟨by simp; try omega, rfl⟩
  · go_enter Tryd.func136, Tryd.ntmps136
    go_wp2_with fail
    go_ret
    exact ⟨by simp <;> omega, rfl⟩

/-- a key -/
def keyV (s : List UInt8) (high next : Int) : Value := .agg #[.string ⟨s.toArray⟩, .int .i64 high, .int .i64 next]

set_option maxHeartbeats 1000000 in
theorem check_empty (high next : Int) (w : World) : Calls Tryd.prog 99 #[keyV [] high next] w fun e w' => e = .returned (.int .i64 2) ∧ Below w.heap.size w w' := by
  unfold keyV
  have hb := (Below.refl w.heap.size w).alloc (Nat.le_refl _) (.cells #[.string ⟨([] : List UInt8).toArray⟩, .int .i64 high, .int .i64 next] 43)
  go_enter Tryd.func99, Tryd.ntmps99
  go_wp2_with fail
  go_quiet (fail)
  go_wp2_with fail
  go_ret
  exact ⟨rfl, below_drewN hb _⟩
set_option maxHeartbeats 1000000 in
theorem check_long (s : List UInt8) (high next : Int) (h : (64 : Int) < (s.length : Int)) (w : World) : Calls Tryd.prog 99 #[keyV s high next] w fun e w' => e = .returned (.int .i64 2) ∧ Below w.heap.size w w' := by
  unfold keyV
  have hb := (Below.refl w.heap.size w).alloc (Nat.le_refl _) (.cells #[.string ⟨s.toArray⟩, .int .i64 high, .int .i64 next] 43)
  have hsz : (ByteArray.mk s.toArray).size = s.length := by simp [ByteArray.size]
  have h0 : ¬ ((s.length : Int) = 0) := by omega
  have hd0 : decide ((s.length : Int) = 0) = false := decide_eq_false h0
  have hd1 : ((s.length : Int) == 0) = false := by simpa using h0
  have hd : decide ((64 : Int) < (s.length : Int)) = true := decide_eq_true h
  go_enter Tryd.func99, Tryd.ntmps99
  go_wp2_with fail
  go_quiet (fail)
  go_wp2_with fail
  go_ret
  exact ⟨rfl, below_drewN hb _⟩

set_option maxHeartbeats 1000000 in
theorem check_high (s : List UInt8) (high next : Int) (h1 : (0 : Int) < (s.length : Int)) (h : (s.length : Int) ≤ 64) (hh : ¬ (0 ≤ high ∧ high ≤ 7)) (w : World) : Calls Tryd.prog 99 #[keyV s high next] w fun e w' => e = .returned (.int .i64 2) ∧ Below w.heap.size w w' := by
  unfold keyV
  have hb := (Below.refl w.heap.size w).alloc (Nat.le_refl _) (.cells #[.string ⟨s.toArray⟩, .int .i64 high, .int .i64 next] 43)
  have hq := World.alloc_heap_new w (.cells #[.string ⟨s.toArray⟩, .int .i64 high, .int .i64 next] 43)
  have hsz : (ByteArray.mk s.toArray).size = s.length := by simp [ByteArray.size]
  have h0 : ¬ ((s.length : Int) = 0) := by omega
  have hd1 : ((s.length : Int) == 0) = false := by simpa using h0
  have hd : decide ((64 : Int) < (s.length : Int)) = false := decide_eq_false (by omega)
  go_enter Tryd.func99, Tryd.ntmps99
  go_wp2_with fail
  generalize w.alloc (.cells #[.string ⟨s.toArray⟩, .int .i64 high, .int .i64 next] 43) = wa at *
  have c0 : wa.cell? ⟨w.heap.size, 0, none⟩ = some (.string ⟨s.toArray⟩) := by simp [World.cell?, hq]
  have c1 : wa.cell? ⟨w.heap.size, 1, none⟩ = some (.int .i64 high) := by simp [World.cell?, hq]
  have c2 : wa.cell? ⟨w.heap.size, 2, none⟩ = some (.int .i64 next) := by simp [World.cell?, hq]
  have k0 := cell_regrown c0
  have k1 := cell_regrown c1
  have k2 := cell_regrown c2
  have HSC := Lib.hid (fun (W : World) => high_bad high hh W)
  refine wp_region_quiet_below (by kernel_rfl) (by kernel_rfl) ?_
  repeat (go_big_quiet_step ((go_at_call 136; exact Calls.regrown_of ((HSC.out _).mono fun e w' ⟨he, hw⟩ => ⟨he, hw ▸ Below.refl _ _⟩))))
  refine wpQuiet_nil ?_
  intro W5 hw'
  have hb5 : Below wa.heap.size wa W5 := by obtain ⟨p, rfl⟩ := hw'; exact below_regrown wa p.d p.os
  clear hw' k0 k1 k2
  go_wp2_with fail
  go_ret
  exact ⟨rfl, hb.trans (hb5.mono hb.size)⟩

set_option maxHeartbeats 1000000 in
theorem check_neg (s : List UInt8) (high next : Int) (h1 : (0 : Int) < (s.length : Int)) (h : (s.length : Int) ≤ 64) (hh : 0 ≤ high) (h7 : high ≤ 7) (hn : next < 0) (w : World) : Calls Tryd.prog 99 #[keyV s high next] w fun e w' => e = .returned (.int .i64 2) ∧ Below w.heap.size w w' := by
  unfold keyV
  have hb := (Below.refl w.heap.size w).alloc (Nat.le_refl _) (.cells #[.string ⟨s.toArray⟩, .int .i64 high, .int .i64 next] 43)
  have hq := World.alloc_heap_new w (.cells #[.string ⟨s.toArray⟩, .int .i64 high, .int .i64 next] 43)
  have hsz : (ByteArray.mk s.toArray).size = s.length := by simp [ByteArray.size]
  have h0 : ¬ ((s.length : Int) = 0) := by omega
  have hd1 : ((s.length : Int) == 0) = false := by simpa using h0
  have hd : decide ((64 : Int) < (s.length : Int)) = false := decide_eq_false (by omega)
  have hdn : decide (next < 0) = true := decide_eq_true hn
  go_enter Tryd.func99, Tryd.ntmps99
  go_wp2_with fail
  generalize w.alloc (.cells #[.string ⟨s.toArray⟩, .int .i64 high, .int .i64 next] 43) = wa at *
  have c0 : wa.cell? ⟨w.heap.size, 0, none⟩ = some (.string ⟨s.toArray⟩) := by simp [World.cell?, hq]
  have c1 : wa.cell? ⟨w.heap.size, 1, none⟩ = some (.int .i64 high) := by simp [World.cell?, hq]
  have c2 : wa.cell? ⟨w.heap.size, 2, none⟩ = some (.int .i64 next) := by simp [World.cell?, hq]
  have k0 := cell_regrown c0
  have k1 := cell_regrown c1
  have k2 := cell_regrown c2
  have HSC := Lib.hid (fun (W : World) => high_ok high hh h7 W)
  refine wp_region_quiet_below (by kernel_rfl) (by kernel_rfl) ?_
  repeat (go_big_quiet_step ((go_at_call 136; exact Calls.regrown_of ((HSC.out _).mono fun e w' ⟨he, hw⟩ => ⟨he, hw ▸ Below.refl _ _⟩))))
  refine wpQuiet_nil ?_
  intro W5 hw'
  have hb5 : Below wa.heap.size wa W5 := by obtain ⟨p, rfl⟩ := hw'; exact below_regrown wa p.d p.os
  clear hw' k0 k1 k2
  go_wp2_with fail
  go_ret
  exact ⟨rfl, hb.trans (hb5.mono hb.size)⟩

set_option maxHeartbeats 1000000 in
theorem check_next0 (s : List UInt8) (next : Int) (h1 : (0 : Int) < (s.length : Int)) (h : (s.length : Int) ≤ 64) (hn : (1 : Int) < next) (w : World) : Calls Tryd.prog 99 #[keyV s 0 next] w fun e w' => e = .returned (.int .i64 2) ∧ Below w.heap.size w w' := by
  unfold keyV
  have hb := (Below.refl w.heap.size w).alloc (Nat.le_refl _) (.cells #[.string ⟨s.toArray⟩, .int .i64 0, .int .i64 next] 43)
  have hq := World.alloc_heap_new w (.cells #[.string ⟨s.toArray⟩, .int .i64 0, .int .i64 next] 43)
  have hsz : (ByteArray.mk s.toArray).size = s.length := by simp [ByteArray.size]
  have h0 : ¬ ((s.length : Int) = 0) := by omega
  have hd1 : ((s.length : Int) == 0) = false := by simpa using h0
  have hd : decide ((64 : Int) < (s.length : Int)) = false := decide_eq_false (by omega)
  have hdn : decide (next < 0) = false := decide_eq_false (by omega)
  have hdx : decide ((1 : Int) < next) = true := decide_eq_true hn
  go_enter Tryd.func99, Tryd.ntmps99
  go_wp2_with fail
  generalize w.alloc (.cells #[.string ⟨s.toArray⟩, .int .i64 0, .int .i64 next] 43) = wa at *
  have c0 : wa.cell? ⟨w.heap.size, 0, none⟩ = some (.string ⟨s.toArray⟩) := by simp [World.cell?, hq]
  have c1 : wa.cell? ⟨w.heap.size, 1, none⟩ = some (.int .i64 0) := by simp [World.cell?, hq]
  have c2 : wa.cell? ⟨w.heap.size, 2, none⟩ = some (.int .i64 next) := by simp [World.cell?, hq]
  have k0 := cell_regrown c0
  have k1 := cell_regrown c1
  have k2 := cell_regrown c2
  have HSC := Lib.hid (fun (W : World) => high_ok 0 (by omega) (by omega) W)
  refine wp_region_quiet_below (by kernel_rfl) (by kernel_rfl) ?_
  repeat (go_big_quiet_step ((go_at_call 136; exact Calls.regrown_of ((HSC.out _).mono fun e w' ⟨he, hw⟩ => ⟨he, hw ▸ Below.refl _ _⟩))))
  refine wpQuiet_nil ?_
  intro W5 hw'
  have hb5 : Below wa.heap.size wa W5 := by obtain ⟨p, rfl⟩ := hw'; exact below_regrown wa p.d p.os
  clear hw' k0 k1 k2
  go_wp2_with fail
  go_ret
  exact ⟨rfl, hb.trans (hb5.mono hb.size)⟩

set_option maxHeartbeats 1000000 in
theorem check_ok0 (s : List UInt8) (next : Int) (h1 : (0 : Int) < (s.length : Int)) (h : (s.length : Int) ≤ 64) (hn : 0 ≤ next) (hx : next ≤ 1) (w : World) : Calls Tryd.prog 99 #[keyV s 0 next] w fun e w' => e = .returned (.int .i64 0) ∧ Below w.heap.size w w' := by
  unfold keyV
  have hb := (Below.refl w.heap.size w).alloc (Nat.le_refl _) (.cells #[.string ⟨s.toArray⟩, .int .i64 0, .int .i64 next] 43)
  have hq := World.alloc_heap_new w (.cells #[.string ⟨s.toArray⟩, .int .i64 0, .int .i64 next] 43)
  have hsz : (ByteArray.mk s.toArray).size = s.length := by simp [ByteArray.size]
  have h0 : ¬ ((s.length : Int) = 0) := by omega
  have hd1 : ((s.length : Int) == 0) = false := by simpa using h0
  have hd : decide ((64 : Int) < (s.length : Int)) = false := decide_eq_false (by omega)
  have hdn : decide (next < 0) = false := decide_eq_false (by omega)
  have hdx : decide ((1 : Int) < next) = false := decide_eq_false (by omega)
  go_enter Tryd.func99, Tryd.ntmps99
  go_wp2_with fail
  generalize w.alloc (.cells #[.string ⟨s.toArray⟩, .int .i64 0, .int .i64 next] 43) = wa at *
  have c0 : wa.cell? ⟨w.heap.size, 0, none⟩ = some (.string ⟨s.toArray⟩) := by simp [World.cell?, hq]
  have c1 : wa.cell? ⟨w.heap.size, 1, none⟩ = some (.int .i64 0) := by simp [World.cell?, hq]
  have c2 : wa.cell? ⟨w.heap.size, 2, none⟩ = some (.int .i64 next) := by simp [World.cell?, hq]
  have k0 := cell_regrown c0
  have k1 := cell_regrown c1
  have k2 := cell_regrown c2
  have HSC := Lib.hid (fun (W : World) => high_ok 0 (by omega) (by omega) W)
  refine wp_region_quiet_below (by kernel_rfl) (by kernel_rfl) ?_
  repeat (go_big_quiet_step ((go_at_call 136; exact Calls.regrown_of ((HSC.out _).mono fun e w' ⟨he, hw⟩ => ⟨he, hw ▸ Below.refl _ _⟩))))
  refine wpQuiet_nil ?_
  intro W5 hw'
  have hb5 : Below wa.heap.size wa W5 := by obtain ⟨p, rfl⟩ := hw'; exact below_regrown wa p.d p.os
  clear hw' k0 k1 k2
  go_wp2_with fail
  go_ret
  exact ⟨rfl, hb.trans (hb5.mono hb.size)⟩

set_option maxHeartbeats 1000000 in
theorem check_next1 (s : List UInt8) (next : Int) (h1 : (0 : Int) < (s.length : Int)) (h : (s.length : Int) ≤ 64) (hn : (2 : Int) < next) (w : World) : Calls Tryd.prog 99 #[keyV s 1 next] w fun e w' => e = .returned (.int .i64 2) ∧ Below w.heap.size w w' := by
  unfold keyV
  have hb := (Below.refl w.heap.size w).alloc (Nat.le_refl _) (.cells #[.string ⟨s.toArray⟩, .int .i64 1, .int .i64 next] 43)
  have hq := World.alloc_heap_new w (.cells #[.string ⟨s.toArray⟩, .int .i64 1, .int .i64 next] 43)
  have hsz : (ByteArray.mk s.toArray).size = s.length := by simp [ByteArray.size]
  have h0 : ¬ ((s.length : Int) = 0) := by omega
  have hd1 : ((s.length : Int) == 0) = false := by simpa using h0
  have hd : decide ((64 : Int) < (s.length : Int)) = false := decide_eq_false (by omega)
  have hdn : decide (next < 0) = false := decide_eq_false (by omega)
  have hdx : decide ((2 : Int) < next) = true := decide_eq_true hn
  go_enter Tryd.func99, Tryd.ntmps99
  go_wp2_with fail
  generalize w.alloc (.cells #[.string ⟨s.toArray⟩, .int .i64 1, .int .i64 next] 43) = wa at *
  have c0 : wa.cell? ⟨w.heap.size, 0, none⟩ = some (.string ⟨s.toArray⟩) := by simp [World.cell?, hq]
  have c1 : wa.cell? ⟨w.heap.size, 1, none⟩ = some (.int .i64 1) := by simp [World.cell?, hq]
  have c2 : wa.cell? ⟨w.heap.size, 2, none⟩ = some (.int .i64 next) := by simp [World.cell?, hq]
  have k0 := cell_regrown c0
  have k1 := cell_regrown c1
  have k2 := cell_regrown c2
  have HSC := Lib.hid (fun (W : World) => high_ok 1 (by omega) (by omega) W)
  refine wp_region_quiet_below (by kernel_rfl) (by kernel_rfl) ?_
  repeat (go_big_quiet_step ((go_at_call 136; exact Calls.regrown_of ((HSC.out _).mono fun e w' ⟨he, hw⟩ => ⟨he, hw ▸ Below.refl _ _⟩))))
  refine wpQuiet_nil ?_
  intro W5 hw'
  have hb5 : Below wa.heap.size wa W5 := by obtain ⟨p, rfl⟩ := hw'; exact below_regrown wa p.d p.os
  clear hw' k0 k1 k2
  go_wp2_with fail
  go_ret
  exact ⟨rfl, hb.trans (hb5.mono hb.size)⟩

set_option maxHeartbeats 1000000 in
theorem check_ok1 (s : List UInt8) (next : Int) (h1 : (0 : Int) < (s.length : Int)) (h : (s.length : Int) ≤ 64) (hn : 0 ≤ next) (hx : next ≤ 2) (w : World) : Calls Tryd.prog 99 #[keyV s 1 next] w fun e w' => e = .returned (.int .i64 0) ∧ Below w.heap.size w w' := by
  unfold keyV
  have hb := (Below.refl w.heap.size w).alloc (Nat.le_refl _) (.cells #[.string ⟨s.toArray⟩, .int .i64 1, .int .i64 next] 43)
  have hq := World.alloc_heap_new w (.cells #[.string ⟨s.toArray⟩, .int .i64 1, .int .i64 next] 43)
  have hsz : (ByteArray.mk s.toArray).size = s.length := by simp [ByteArray.size]
  have h0 : ¬ ((s.length : Int) = 0) := by omega
  have hd1 : ((s.length : Int) == 0) = false := by simpa using h0
  have hd : decide ((64 : Int) < (s.length : Int)) = false := decide_eq_false (by omega)
  have hdn : decide (next < 0) = false := decide_eq_false (by omega)
  have hdx : decide ((2 : Int) < next) = false := decide_eq_false (by omega)
  go_enter Tryd.func99, Tryd.ntmps99
  go_wp2_with fail
  generalize w.alloc (.cells #[.string ⟨s.toArray⟩, .int .i64 1, .int .i64 next] 43) = wa at *
  have c0 : wa.cell? ⟨w.heap.size, 0, none⟩ = some (.string ⟨s.toArray⟩) := by simp [World.cell?, hq]
  have c1 : wa.cell? ⟨w.heap.size, 1, none⟩ = some (.int .i64 1) := by simp [World.cell?, hq]
  have c2 : wa.cell? ⟨w.heap.size, 2, none⟩ = some (.int .i64 next) := by simp [World.cell?, hq]
  have k0 := cell_regrown c0
  have k1 := cell_regrown c1
  have k2 := cell_regrown c2
  have HSC := Lib.hid (fun (W : World) => high_ok 1 (by omega) (by omega) W)
  refine wp_region_quiet_below (by kernel_rfl) (by kernel_rfl) ?_
  repeat (go_big_quiet_step ((go_at_call 136; exact Calls.regrown_of ((HSC.out _).mono fun e w' ⟨he, hw⟩ => ⟨he, hw ▸ Below.refl _ _⟩))))
  refine wpQuiet_nil ?_
  intro W5 hw'
  have hb5 : Below wa.heap.size wa W5 := by obtain ⟨p, rfl⟩ := hw'; exact below_regrown wa p.d p.os
  clear hw' k0 k1 k2
  go_wp2_with fail
  go_ret
  exact ⟨rfl, hb.trans (hb5.mono hb.size)⟩

set_option maxHeartbeats 1000000 in
theorem check_next2 (s : List UInt8) (next : Int) (h1 : (0 : Int) < (s.length : Int)) (h : (s.length : Int) ≤ 64) (hn : (4 : Int) < next) (w : World) : Calls Tryd.prog 99 #[keyV s 2 next] w fun e w' => e = .returned (.int .i64 2) ∧ Below w.heap.size w w' := by
  unfold keyV
  have hb := (Below.refl w.heap.size w).alloc (Nat.le_refl _) (.cells #[.string ⟨s.toArray⟩, .int .i64 2, .int .i64 next] 43)
  have hq := World.alloc_heap_new w (.cells #[.string ⟨s.toArray⟩, .int .i64 2, .int .i64 next] 43)
  have hsz : (ByteArray.mk s.toArray).size = s.length := by simp [ByteArray.size]
  have h0 : ¬ ((s.length : Int) = 0) := by omega
  have hd1 : ((s.length : Int) == 0) = false := by simpa using h0
  have hd : decide ((64 : Int) < (s.length : Int)) = false := decide_eq_false (by omega)
  have hdn : decide (next < 0) = false := decide_eq_false (by omega)
  have hdx : decide ((4 : Int) < next) = true := decide_eq_true hn
  go_enter Tryd.func99, Tryd.ntmps99
  go_wp2_with fail
  generalize w.alloc (.cells #[.string ⟨s.toArray⟩, .int .i64 2, .int .i64 next] 43) = wa at *
  have c0 : wa.cell? ⟨w.heap.size, 0, none⟩ = some (.string ⟨s.toArray⟩) := by simp [World.cell?, hq]
  have c1 : wa.cell? ⟨w.heap.size, 1, none⟩ = some (.int .i64 2) := by simp [World.cell?, hq]
  have c2 : wa.cell? ⟨w.heap.size, 2, none⟩ = some (.int .i64 next) := by simp [World.cell?, hq]
  have k0 := cell_regrown c0
  have k1 := cell_regrown c1
  have k2 := cell_regrown c2
  have HSC := Lib.hid (fun (W : World) => high_ok 2 (by omega) (by omega) W)
  refine wp_region_quiet_below (by kernel_rfl) (by kernel_rfl) ?_
  repeat (go_big_quiet_step ((go_at_call 136; exact Calls.regrown_of ((HSC.out _).mono fun e w' ⟨he, hw⟩ => ⟨he, hw ▸ Below.refl _ _⟩))))
  refine wpQuiet_nil ?_
  intro W5 hw'
  have hb5 : Below wa.heap.size wa W5 := by obtain ⟨p, rfl⟩ := hw'; exact below_regrown wa p.d p.os
  clear hw' k0 k1 k2
  go_wp2_with fail
  go_ret
  exact ⟨rfl, hb.trans (hb5.mono hb.size)⟩

set_option maxHeartbeats 1000000 in
theorem check_ok2 (s : List UInt8) (next : Int) (h1 : (0 : Int) < (s.length : Int)) (h : (s.length : Int) ≤ 64) (hn : 0 ≤ next) (hx : next ≤ 4) (w : World) : Calls Tryd.prog 99 #[keyV s 2 next] w fun e w' => e = .returned (.int .i64 0) ∧ Below w.heap.size w w' := by
  unfold keyV
  have hb := (Below.refl w.heap.size w).alloc (Nat.le_refl _) (.cells #[.string ⟨s.toArray⟩, .int .i64 2, .int .i64 next] 43)
  have hq := World.alloc_heap_new w (.cells #[.string ⟨s.toArray⟩, .int .i64 2, .int .i64 next] 43)
  have hsz : (ByteArray.mk s.toArray).size = s.length := by simp [ByteArray.size]
  have h0 : ¬ ((s.length : Int) = 0) := by omega
  have hd1 : ((s.length : Int) == 0) = false := by simpa using h0
  have hd : decide ((64 : Int) < (s.length : Int)) = false := decide_eq_false (by omega)
  have hdn : decide (next < 0) = false := decide_eq_false (by omega)
  have hdx : decide ((4 : Int) < next) = false := decide_eq_false (by omega)
  go_enter Tryd.func99, Tryd.ntmps99
  go_wp2_with fail
  generalize w.alloc (.cells #[.string ⟨s.toArray⟩, .int .i64 2, .int .i64 next] 43) = wa at *
  have c0 : wa.cell? ⟨w.heap.size, 0, none⟩ = some (.string ⟨s.toArray⟩) := by simp [World.cell?, hq]
  have c1 : wa.cell? ⟨w.heap.size, 1, none⟩ = some (.int .i64 2) := by simp [World.cell?, hq]
  have c2 : wa.cell? ⟨w.heap.size, 2, none⟩ = some (.int .i64 next) := by simp [World.cell?, hq]
  have k0 := cell_regrown c0
  have k1 := cell_regrown c1
  have k2 := cell_regrown c2
  have HSC := Lib.hid (fun (W : World) => high_ok 2 (by omega) (by omega) W)
  refine wp_region_quiet_below (by kernel_rfl) (by kernel_rfl) ?_
  repeat (go_big_quiet_step ((go_at_call 136; exact Calls.regrown_of ((HSC.out _).mono fun e w' ⟨he, hw⟩ => ⟨he, hw ▸ Below.refl _ _⟩))))
  refine wpQuiet_nil ?_
  intro W5 hw'
  have hb5 : Below wa.heap.size wa W5 := by obtain ⟨p, rfl⟩ := hw'; exact below_regrown wa p.d p.os
  clear hw' k0 k1 k2
  go_wp2_with fail
  go_ret
  exact ⟨rfl, hb.trans (hb5.mono hb.size)⟩

set_option maxHeartbeats 1000000 in
theorem check_next3 (s : List UInt8) (next : Int) (h1 : (0 : Int) < (s.length : Int)) (h : (s.length : Int) ≤ 64) (hn : (8 : Int) < next) (w : World) : Calls Tryd.prog 99 #[keyV s 3 next] w fun e w' => e = .returned (.int .i64 2) ∧ Below w.heap.size w w' := by
  unfold keyV
  have hb := (Below.refl w.heap.size w).alloc (Nat.le_refl _) (.cells #[.string ⟨s.toArray⟩, .int .i64 3, .int .i64 next] 43)
  have hq := World.alloc_heap_new w (.cells #[.string ⟨s.toArray⟩, .int .i64 3, .int .i64 next] 43)
  have hsz : (ByteArray.mk s.toArray).size = s.length := by simp [ByteArray.size]
  have h0 : ¬ ((s.length : Int) = 0) := by omega
  have hd1 : ((s.length : Int) == 0) = false := by simpa using h0
  have hd : decide ((64 : Int) < (s.length : Int)) = false := decide_eq_false (by omega)
  have hdn : decide (next < 0) = false := decide_eq_false (by omega)
  have hdx : decide ((8 : Int) < next) = true := decide_eq_true hn
  go_enter Tryd.func99, Tryd.ntmps99
  go_wp2_with fail
  generalize w.alloc (.cells #[.string ⟨s.toArray⟩, .int .i64 3, .int .i64 next] 43) = wa at *
  have c0 : wa.cell? ⟨w.heap.size, 0, none⟩ = some (.string ⟨s.toArray⟩) := by simp [World.cell?, hq]
  have c1 : wa.cell? ⟨w.heap.size, 1, none⟩ = some (.int .i64 3) := by simp [World.cell?, hq]
  have c2 : wa.cell? ⟨w.heap.size, 2, none⟩ = some (.int .i64 next) := by simp [World.cell?, hq]
  have k0 := cell_regrown c0
  have k1 := cell_regrown c1
  have k2 := cell_regrown c2
  have HSC := Lib.hid (fun (W : World) => high_ok 3 (by omega) (by omega) W)
  refine wp_region_quiet_below (by kernel_rfl) (by kernel_rfl) ?_
  repeat (go_big_quiet_step ((go_at_call 136; exact Calls.regrown_of ((HSC.out _).mono fun e w' ⟨he, hw⟩ => ⟨he, hw ▸ Below.refl _ _⟩))))
  refine wpQuiet_nil ?_
  intro W5 hw'
  have hb5 : Below wa.heap.size wa W5 := by obtain ⟨p, rfl⟩ := hw'; exact below_regrown wa p.d p.os
  clear hw' k0 k1 k2
  go_wp2_with fail
  go_ret
  exact ⟨rfl, hb.trans (hb5.mono hb.size)⟩

set_option maxHeartbeats 1000000 in
theorem check_ok3 (s : List UInt8) (next : Int) (h1 : (0 : Int) < (s.length : Int)) (h : (s.length : Int) ≤ 64) (hn : 0 ≤ next) (hx : next ≤ 8) (w : World) : Calls Tryd.prog 99 #[keyV s 3 next] w fun e w' => e = .returned (.int .i64 0) ∧ Below w.heap.size w w' := by
  unfold keyV
  have hb := (Below.refl w.heap.size w).alloc (Nat.le_refl _) (.cells #[.string ⟨s.toArray⟩, .int .i64 3, .int .i64 next] 43)
  have hq := World.alloc_heap_new w (.cells #[.string ⟨s.toArray⟩, .int .i64 3, .int .i64 next] 43)
  have hsz : (ByteArray.mk s.toArray).size = s.length := by simp [ByteArray.size]
  have h0 : ¬ ((s.length : Int) = 0) := by omega
  have hd1 : ((s.length : Int) == 0) = false := by simpa using h0
  have hd : decide ((64 : Int) < (s.length : Int)) = false := decide_eq_false (by omega)
  have hdn : decide (next < 0) = false := decide_eq_false (by omega)
  have hdx : decide ((8 : Int) < next) = false := decide_eq_false (by omega)
  go_enter Tryd.func99, Tryd.ntmps99
  go_wp2_with fail
  generalize w.alloc (.cells #[.string ⟨s.toArray⟩, .int .i64 3, .int .i64 next] 43) = wa at *
  have c0 : wa.cell? ⟨w.heap.size, 0, none⟩ = some (.string ⟨s.toArray⟩) := by simp [World.cell?, hq]
  have c1 : wa.cell? ⟨w.heap.size, 1, none⟩ = some (.int .i64 3) := by simp [World.cell?, hq]
  have c2 : wa.cell? ⟨w.heap.size, 2, none⟩ = some (.int .i64 next) := by simp [World.cell?, hq]
  have k0 := cell_regrown c0
  have k1 := cell_regrown c1
  have k2 := cell_regrown c2
  have HSC := Lib.hid (fun (W : World) => high_ok 3 (by omega) (by omega) W)
  refine wp_region_quiet_below (by kernel_rfl) (by kernel_rfl) ?_
  repeat (go_big_quiet_step ((go_at_call 136; exact Calls.regrown_of ((HSC.out _).mono fun e w' ⟨he, hw⟩ => ⟨he, hw ▸ Below.refl _ _⟩))))
  refine wpQuiet_nil ?_
  intro W5 hw'
  have hb5 : Below wa.heap.size wa W5 := by obtain ⟨p, rfl⟩ := hw'; exact below_regrown wa p.d p.os
  clear hw' k0 k1 k2
  go_wp2_with fail
  go_ret
  exact ⟨rfl, hb.trans (hb5.mono hb.size)⟩

theorem check_cases (s : List UInt8) (high next : Int) (hx : ¬ (3 < high ∧ high ≤ 7)) :
    (∃ k : Nat, k ≤ 3 ∧ high = (k : Int) ∧ 0 < s.length ∧ s.length ≤ 64 ∧ 0 ≤ next ∧ next ≤ ((2 ^ k : Nat) : Int) ∧ ∀ w, Calls Tryd.prog 99 #[keyV s high next] w fun e w' => e = .returned (.int .i64 0) ∧ Below w.heap.size w w') ∨
    ∀ w, Calls Tryd.prog 99 #[keyV s high next] w fun e w' => e = .returned (.int .i64 2) ∧ Below w.heap.size w w' := by
  by_cases h0 : s.length = 0
  · obtain rfl := List.length_eq_zero_iff.1 h0
    exact .inr (check_empty high next)
  by_cases h64 : (64 : Int) < (s.length : Int)
  · exact .inr (check_long s high next h64)
  have h1 : (0 : Int) < (s.length : Int) := by omega
  have h2 : (s.length : Int) ≤ 64 := by omega
  by_cases hh : 0 ≤ high ∧ high ≤ 7
  · by_cases hn : next < 0
    · exact .inr (check_neg s high next h1 h2 hh.1 hh.2 hn)
    · have hk : high = 0 ∨ high = 1 ∨ high = 2 ∨ high = 3 := by omega
      rcases hk with rfl | rfl | rfl | rfl
      · by_cases hm : (1 : Int) < next
        · exact .inr (check_next0 s next h1 h2 hm)
        · exact .inl ⟨0, by omega, rfl, by omega, by omega, by omega, by simpa using (show next ≤ 1 by omega), check_ok0 s next h1 h2 (by omega) (by omega)⟩
      · by_cases hm : (2 : Int) < next
        · exact .inr (check_next1 s next h1 h2 hm)
        · exact .inl ⟨1, by omega, rfl, by omega, by omega, by omega, by simpa using (show next ≤ 2 by omega), check_ok1 s next h1 h2 (by omega) (by omega)⟩
      · by_cases hm : (4 : Int) < next
        · exact .inr (check_next2 s next h1 h2 hm)
        · exact .inl ⟨2, by omega, rfl, by omega, by omega, by omega, by simpa using (show next ≤ 4 by omega), check_ok2 s next h1 h2 (by omega) (by omega)⟩
      · by_cases hm : (8 : Int) < next
        · exact .inr (check_next3 s next h1 h2 hm)
        · exact .inl ⟨3, by omega, rfl, by omega, by omega, by omega, by simpa using (show next ≤ 8 by omega), check_ok3 s next h1 h2 (by omega) (by omega)⟩
  · exact .inr (check_high s high next h1 h2 hh)

end Key
end Go.Proofs.YtbgjoefpnjgdkaaDoor
