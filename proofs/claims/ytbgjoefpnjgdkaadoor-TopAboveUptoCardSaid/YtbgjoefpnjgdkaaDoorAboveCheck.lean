/- power.Check: 0 or 2. -/
import Derived.Test.YtbgjoefpnjgdkaaDoorAboveOf
import Derived.Test.YtbgjoefpnjgdkaaDoorIdentOf
import Derived.BigQuiet
import Derived.Lib.QuietBelow
namespace Go.Proofs.YtbgjoefpnjgdkaaDoor
open Go.RowKit
set_option linter.unusedVariables false
set_option linter.unusedSimpArgs false
set_option maxRecDepth 100000
namespace Above
open Named
theorem levelB (n : Int) : ∃ b : Bool, ∀ w, Calls Tryd.prog 118 #[.int .i64 n] w fun e w' => e = .returned (.bool b) ∧ w' = w := ⟨_, level_any n⟩

set_option maxHeartbeats 8000000 in
theorem check_some (n0 n1 n2 n3 n4 n5 : Int) (v : Value) (us : List (List UInt8 × Int)) (w : World) (hr : LRow w v us) (hl : us.length ≤ 1048577) (hu : ∀ u ∈ us, u.1.length ≤ 1048576) (hV : Vars w) :
    Calls Tryd.prog 76 #[levV n0 n1 n2 n3 n4 n5 v] w fun e w' => (∃ c : Int, e = .returned (.int .i64 c)) ∧ Below w.heap.size w w' := by
  obtain ⟨p, cap, rfl⟩ := hr.form
  have HR := Lib.hid hr
  have HV := Lib.hid hV
  have HO := Lib.hid (of_any n0 n1 n2 n3 n4 n5 (.slice p us.length cap))
  have hli : (us.length : Int) ≤ 1048577 := by omega
  unfold levV at *
  have A0 := Blk.new w #[.int .i64 n0, .int .i64 n1, .int .i64 n2, .int .i64 n3, .int .i64 n4, .int .i64 n5, .slice p us.length cap] 72
  have B0 := (Below.refl w.heap.size w).alloc (Nat.le_refl _) (.cells #[.int .i64 n0, .int .i64 n1, .int .i64 n2, .int .i64 n3, .int .i64 n4, .int .i64 n5, .slice p us.length cap] 72)
  clear hr hV
  go_enter Tryd.func76, Tryd.ntmps76
  go_wp2_with fail
  generalize w.alloc (.cells #[.int .i64 n0, .int .i64 n1, .int .i64 n2, .int .i64 n3, .int .i64 n4, .int .i64 n5, .slice p us.length cap] 72) = w1 at *
  refine (HO.out _).mono ?_
  rintro e w2 ⟨rfl, hb⟩
  have A2 := A0.low hb
  have B2 := B0.trans (hb.mono B0.size)
  clear hb A0 B0
  go_wp2_with fail
  go_loopw [11] (fun i wr => ∃ j : Nat, j ≤ 6 ∧ i = .int .i64 (j : Int) ∧ wr = w2) (fun i _ => 6 - (intOf i).toNat)
  case atStart => exact ⟨0, by omega, rfl, rfl⟩
  case round =>
    obtain ⟨j, hj, rfl, rfl⟩ := hrel
    by_cases hlt : j < 6
    · obtain rfl | rfl | rfl | rfl | rfl | rfl : j = 0 ∨ j = 1 ∨ j = 2 ∨ j = 3 ∨ j = 4 ∨ j = 5 := by omega
      · have ix : ∀ w, (Instr.index 162 (.agg #[.int .i64 n0, .int .i64 n1, .int .i64 n2, .int .i64 n3, .int .i64 n4, .int .i64 n5]) (.int .i64 0)).run Tryd.prog w = .ok (.int .i64 n0) w := fun w => by kernel_rfl
        have ix' : ∀ w, (Instr.index 162 (.agg #[.int .i64 n0, .int .i64 n1, .int .i64 n2, .int .i64 n3, .int .i64 n4, .int .i64 n5]) (.int .i64 ((0 : Nat) : Int))).run Tryd.prog w = .ok (.int .i64 n0) w := ix
        obtain ⟨b, hb⟩ := levelB n0
        have HL := Lib.hid hb
        clear hb
        cases b with
        | true =>
          go_wp2_with (go_at_call 118; refine (HL.out _).mono ?_; rintro e w' ⟨rfl, rfl⟩)
          go_roundw
          case rel => exact ⟨1, by omega, by go_num, by first | rfl | trivial⟩
          case measure => simp [intOf]
        | false =>
          go_wp2_with (go_at_call 118; refine (HL.out _).mono ?_; rintro e w' ⟨rfl, rfl⟩)
          go_ret
          refine ⟨?_, B2⟩
          first | exact ⟨_, rfl⟩ | exact ⟨2, trivial⟩ | simp
      · have ix : ∀ w, (Instr.index 162 (.agg #[.int .i64 n0, .int .i64 n1, .int .i64 n2, .int .i64 n3, .int .i64 n4, .int .i64 n5]) (.int .i64 1)).run Tryd.prog w = .ok (.int .i64 n1) w := fun w => by kernel_rfl
        have ix' : ∀ w, (Instr.index 162 (.agg #[.int .i64 n0, .int .i64 n1, .int .i64 n2, .int .i64 n3, .int .i64 n4, .int .i64 n5]) (.int .i64 ((1 : Nat) : Int))).run Tryd.prog w = .ok (.int .i64 n1) w := ix
        obtain ⟨b, hb⟩ := levelB n1
        have HL := Lib.hid hb
        clear hb
        cases b with
        | true =>
          go_wp2_with (go_at_call 118; refine (HL.out _).mono ?_; rintro e w' ⟨rfl, rfl⟩)
          go_roundw
          case rel => exact ⟨2, by omega, by go_num, by first | rfl | trivial⟩
          case measure => simp [intOf]
        | false =>
          go_wp2_with (go_at_call 118; refine (HL.out _).mono ?_; rintro e w' ⟨rfl, rfl⟩)
          go_ret
          refine ⟨?_, B2⟩
          first | exact ⟨_, rfl⟩ | exact ⟨2, trivial⟩ | simp
      · have ix : ∀ w, (Instr.index 162 (.agg #[.int .i64 n0, .int .i64 n1, .int .i64 n2, .int .i64 n3, .int .i64 n4, .int .i64 n5]) (.int .i64 2)).run Tryd.prog w = .ok (.int .i64 n2) w := fun w => by kernel_rfl
        have ix' : ∀ w, (Instr.index 162 (.agg #[.int .i64 n0, .int .i64 n1, .int .i64 n2, .int .i64 n3, .int .i64 n4, .int .i64 n5]) (.int .i64 ((2 : Nat) : Int))).run Tryd.prog w = .ok (.int .i64 n2) w := ix
        obtain ⟨b, hb⟩ := levelB n2
        have HL := Lib.hid hb
        clear hb
        cases b with
        | true =>
          go_wp2_with (go_at_call 118; refine (HL.out _).mono ?_; rintro e w' ⟨rfl, rfl⟩)
          go_roundw
          case rel => exact ⟨3, by omega, by go_num, by first | rfl | trivial⟩
          case measure => simp [intOf]
        | false =>
          go_wp2_with (go_at_call 118; refine (HL.out _).mono ?_; rintro e w' ⟨rfl, rfl⟩)
          go_ret
          refine ⟨?_, B2⟩
          first | exact ⟨_, rfl⟩ | exact ⟨2, trivial⟩ | simp
      · have ix : ∀ w, (Instr.index 162 (.agg #[.int .i64 n0, .int .i64 n1, .int .i64 n2, .int .i64 n3, .int .i64 n4, .int .i64 n5]) (.int .i64 3)).run Tryd.prog w = .ok (.int .i64 n3) w := fun w => by kernel_rfl
        have ix' : ∀ w, (Instr.index 162 (.agg #[.int .i64 n0, .int .i64 n1, .int .i64 n2, .int .i64 n3, .int .i64 n4, .int .i64 n5]) (.int .i64 ((3 : Nat) : Int))).run Tryd.prog w = .ok (.int .i64 n3) w := ix
        obtain ⟨b, hb⟩ := levelB n3
        have HL := Lib.hid hb
        clear hb
        cases b with
        | true =>
          go_wp2_with (go_at_call 118; refine (HL.out _).mono ?_; rintro e w' ⟨rfl, rfl⟩)
          go_roundw
          case rel => exact ⟨4, by omega, by go_num, by first | rfl | trivial⟩
          case measure => simp [intOf]
        | false =>
          go_wp2_with (go_at_call 118; refine (HL.out _).mono ?_; rintro e w' ⟨rfl, rfl⟩)
          go_ret
          refine ⟨?_, B2⟩
          first | exact ⟨_, rfl⟩ | exact ⟨2, trivial⟩ | simp
      · have ix : ∀ w, (Instr.index 162 (.agg #[.int .i64 n0, .int .i64 n1, .int .i64 n2, .int .i64 n3, .int .i64 n4, .int .i64 n5]) (.int .i64 4)).run Tryd.prog w = .ok (.int .i64 n4) w := fun w => by kernel_rfl
        have ix' : ∀ w, (Instr.index 162 (.agg #[.int .i64 n0, .int .i64 n1, .int .i64 n2, .int .i64 n3, .int .i64 n4, .int .i64 n5]) (.int .i64 ((4 : Nat) : Int))).run Tryd.prog w = .ok (.int .i64 n4) w := ix
        obtain ⟨b, hb⟩ := levelB n4
        have HL := Lib.hid hb
        clear hb
        cases b with
        | true =>
          go_wp2_with (go_at_call 118; refine (HL.out _).mono ?_; rintro e w' ⟨rfl, rfl⟩)
          go_roundw
          case rel => exact ⟨5, by omega, by go_num, by first | rfl | trivial⟩
          case measure => simp [intOf]
        | false =>
          go_wp2_with (go_at_call 118; refine (HL.out _).mono ?_; rintro e w' ⟨rfl, rfl⟩)
          go_ret
          refine ⟨?_, B2⟩
          first | exact ⟨_, rfl⟩ | exact ⟨2, trivial⟩ | simp
      · have ix : ∀ w, (Instr.index 162 (.agg #[.int .i64 n0, .int .i64 n1, .int .i64 n2, .int .i64 n3, .int .i64 n4, .int .i64 n5]) (.int .i64 5)).run Tryd.prog w = .ok (.int .i64 n5) w := fun w => by kernel_rfl
        have ix' : ∀ w, (Instr.index 162 (.agg #[.int .i64 n0, .int .i64 n1, .int .i64 n2, .int .i64 n3, .int .i64 n4, .int .i64 n5]) (.int .i64 ((5 : Nat) : Int))).run Tryd.prog w = .ok (.int .i64 n5) w := ix
        obtain ⟨b, hb⟩ := levelB n5
        have HL := Lib.hid hb
        clear hb
        cases b with
        | true =>
          go_wp2_with (go_at_call 118; refine (HL.out _).mono ?_; rintro e w' ⟨rfl, rfl⟩)
          go_roundw
          case rel => exact ⟨6, by omega, by go_num, by first | rfl | trivial⟩
          case measure => simp [intOf]
        | false =>
          go_wp2_with (go_at_call 118; refine (HL.out _).mono ?_; rintro e w' ⟨rfl, rfl⟩)
          go_ret
          refine ⟨?_, B2⟩
          first | exact ⟨_, rfl⟩ | exact ⟨2, trivial⟩ | simp
    · obtain rfl : j = 6 := by omega
      clear hlt hj
      rw [show ((6 : Nat) : Int) = 6 from rfl]
      have c6 := A2.cell 6 rfl
      have z2 := A2.size
      by_cases h16 : us.length ≤ 16
      · have h16i : (us.length : Int) ≤ 16 := by omega
        go_wp2_with fail
        go_loopw [25] (fun i w3 => ∃ j : Nat, j ≤ us.length ∧ i = .int .i64 (j : Int) ∧ Hid (Blk w3 w.heap.size [.int .i64 n0, .int .i64 n1, .int .i64 n2, .int .i64 n3, .int .i64 n4, .int .i64 n5, .slice p us.length cap]) ∧ Hid (Below w.heap.size w w3)) (fun i _ => us.length - (intOf i).toNat)
        case atStart => exact ⟨0, by omega, rfl, Lib.hid A2, Lib.hid B2⟩
        case round =>
          obtain ⟨j, hj, rfl, HA, HB⟩ := hrel
          clear A2 B2 c6 z2
          by_cases hlt : j < us.length
          · obtain ⟨b, rfl, -, hbl, hc0, hc1⟩ := HR.out.at hlt
            have c0 := (HB.out.cell (p := ⟨b, j * 2, none⟩) hbl).trans hc0
            have c1 := (HB.out.cell (p := ⟨b, j * 2 + 1, none⟩) hbl).trans hc1
            have hji : (j : Int) < (us.length : Int) := by omega
            have hul := hu us[j] (List.getElem_mem hlt)
            clear hc0 hc1
            generalize us[j] = u at *
            obtain ⟨ux, un⟩ := u
            dsimp only at c0 c1 hul
            have HU := Lib.hid (fun w' (hb : Below w.heap.size w w') => user_any ux (by omega) w' (HV.out.low hb))
            generalize ofI ux 1 = oi at HU
            obtain ⟨sv, is⟩ := oi
            dsimp only at HU
            have hsz := HB.out.size
            have A3 := HA.out.alloc (.cells #[.string ⟨ux.toArray⟩, .int .i64 un] 76)
            have B3 := HB.out.alloc HB.out.size (.cells #[.string ⟨ux.toArray⟩, .int .i64 un] 76)
            have X3 := Blk.new wr #[.string ⟨ux.toArray⟩, .int .i64 un] 76
            clear hul
            go_wp2_with fail
            generalize wr.alloc (.cells #[.string ⟨ux.toArray⟩, .int .i64 un] 76) = w4 at *
            refine (HU.out _ B3).mono ?_
            rintro e w5 ⟨rfl, hb5⟩
            have A5 := A3.low hb5
            have B5 := B3.trans (hb5.mono B3.size)
            have X5 := X3.low hb5
            clear hb5 A3 B3 X3 HU c0 c1
            have e0 := X5.cell 0 rfl
            have e1 := X5.cell 1 rfl
            have e6 := A5.cell 6 rfl
            obtain ⟨lb, hlb⟩ := levelB un
            have HL := Lib.hid hlb
            clear hlb
            cases is with
            | false =>
              go_wp2_with fail
              have k0 := cell_regrown e0
              have k1 := cell_regrown e1
              have k6 := cell_regrown e6
              refine wp_region_quiet_below (by kernel_rfl) (by kernel_rfl) ?_
              repeat (go_big_quiet_step ((go_at_call 118; exact Calls.regrown_of ((HL.out _).mono fun e w' ⟨he, hw⟩ => ⟨he, hw ▸ Below.refl _ _⟩))))
              refine wpQuiet_nil ?_
              intro W5 hw'
              have hb5 : Below w5.heap.size w5 W5 := by obtain ⟨p, rfl⟩ := hw'; exact below_regrown w5 p.d p.os
              clear hw' k0 k1 k6
              have A7 := A5.low hb5
              have B7 := B5.trans (hb5.mono B5.size)
              go_wp2_with fail
              go_ret
              refine ⟨?_, B7⟩
              first | exact ⟨_, rfl⟩ | exact ⟨2, trivial⟩ | simp
            | true =>
              cases lb with
              | false =>
                go_wp2_with fail
                have k0 := cell_regrown e0
                have k1 := cell_regrown e1
                have k6 := cell_regrown e6
                refine wp_region_quiet_below (by kernel_rfl) (by kernel_rfl) ?_
                repeat (go_big_quiet_step ((go_at_call 118; exact Calls.regrown_of ((HL.out _).mono fun e w' ⟨he, hw⟩ => ⟨he, hw ▸ Below.refl _ _⟩))))
                refine wpQuiet_nil ?_
                intro W5 hw'
                have hb5 : Below w5.heap.size w5 W5 := by obtain ⟨p, rfl⟩ := hw'; exact below_regrown w5 p.d p.os
                clear hw' k0 k1 k6
                have A7 := A5.low hb5
                have B7 := B5.trans (hb5.mono B5.size)
                go_wp2_with fail
                go_ret
                refine ⟨?_, B7⟩
                first | exact ⟨_, rfl⟩ | exact ⟨2, trivial⟩ | simp
              | true =>
                by_cases hj0 : j = 0
                · have hjn : ¬ (0 : Int) < (j : Int) := by omega
                  have hjd : decide ((0 : Int) < (j : Int)) = false := decide_eq_false hjn
                  have hjd2 : decide (0 < j) = false := decide_eq_false (by omega)
                  clear hj0
                  go_wp2_with fail
                  have k0 := cell_regrown e0
                  have k1 := cell_regrown e1
                  have k6 := cell_regrown e6
                  refine wp_region_quiet_below (by kernel_rfl) (by kernel_rfl) ?_
                  repeat (go_big_quiet_step ((go_at_call 118; exact Calls.regrown_of ((HL.out _).mono fun e w' ⟨he, hw⟩ => ⟨he, hw ▸ Below.refl _ _⟩))))
                  refine wpQuiet_nil ?_
                  intro W5 hw'
                  have hb5 : Below w5.heap.size w5 W5 := by obtain ⟨p, rfl⟩ := hw'; exact below_regrown w5 p.d p.os
                  clear hw' k0 k1 k6
                  have A7 := A5.low hb5
                  have B7 := B5.trans (hb5.mono B5.size)
                  go_wp2_with fail
                  go_roundw
                  case rel => exact ⟨j + 1, by omega, by go_num, Lib.hid A7, Lib.hid B7⟩
                  case measure => simp [intOf]; omega
                · have hjp : (0 : Int) < (j : Int) := by omega
                  obtain ⟨m, rfl⟩ : ∃ m, j = m + 1 := ⟨j - 1, by omega⟩
                  obtain ⟨b2, hb2, -, -, hp0, -⟩ := HR.out.at (j := m) (by omega)
                  obtain rfl : b2 = b := by injection hb2 with hb2; injection hb2 with hb2; exact hb2.symm
                  have ep := (B5.cell (p := ⟨b2, m * 2, none⟩) hbl).trans hp0
                  have hmi : (m : Int) < (us.length : Int) := by omega
                  have hm0 : (0 : Int) ≤ (m : Int) := by omega
                  clear hp0 hb2
                  generalize us[m] = pu at *
                  obtain ⟨px, pn⟩ := pu
                  dsimp only at ep
                  go_wp2_with fail
                  have k0 := cell_regrown e0
                  have k1 := cell_regrown e1
                  have k6 := cell_regrown e6
                  have kp := cell_regrown ep
                  refine wp_region_quiet_below (by kernel_rfl) (by kernel_rfl) ?_
                  repeat (go_big_quiet_step ((go_at_call 118; exact Calls.regrown_of ((HL.out _).mono fun e w' ⟨he, hw⟩ => ⟨he, hw ▸ Below.refl _ _⟩))))
                  refine wpQuiet_nil ?_
                  intro W5 hw'
                  have hb5 : Below w5.heap.size w5 W5 := by obtain ⟨p, rfl⟩ := hw'; exact below_regrown w5 p.d p.os
                  clear hw' k0 k1 k6 kp
                  have A7 := A5.low hb5
                  have B7 := B5.trans (hb5.mono B5.size)
                  clear e0 e1 e6 ep
                  go_wp2_with fail
                  · go_ret
                    refine ⟨?_, B7⟩
                    first | exact ⟨_, rfl⟩ | exact ⟨2, trivial⟩ | simp
                  · go_roundw
                    case rel => exact ⟨m + 1 + 1, by omega, by go_num, Lib.hid A7, Lib.hid B7⟩
                    case measure => simp [intOf]; omega
          · obtain rfl : j = us.length := by omega
            clear hlt hj
            go_wp2_with fail
            go_ret
            refine ⟨?_, HB.out⟩
            first | exact ⟨_, rfl⟩ | exact ⟨2, trivial⟩ | simp
      · have h16i : (16 : Int) < (us.length : Int) := by omega
        go_wp2_with fail
        go_ret
        refine ⟨?_, B2⟩
        first | exact ⟨_, rfl⟩ | exact ⟨2, trivial⟩ | simp
end Above
end Go.Proofs.YtbgjoefpnjgdkaaDoor
