/- member.Allowed at the two moves of the law TopAbove. -/
import Derived.Test.YtbgjoefpnjgdkaaDoorPowShelf
import Derived.Test.YtbgjoefpnjgdkaaDoorBlk
namespace Go.Proofs.YtbgjoefpnjgdkaaDoor
open Go.RowKit
set_option linter.unusedVariables false
set_option linter.unusedSimpArgs false
set_option maxRecDepth 100000
namespace Above
theorem one_any (x : ByteArray) (b n : Nat) (zs : List ByteArray) (hz : zs.length = n) (hn : n ≤ 9223372036854775807) (w : World) (hc : ∀ j, j < zs.length → w.cell? ⟨b, 0 + j, none⟩ = some (.string (zs.getD j ByteArray.empty))) :
    Calls Tryd.prog 122 #[.string x, .slice (some ⟨b, 0, none⟩) n n] w fun e w' => e = .returned (.bool (Lib.containsS zs x)) ∧ w' = w := by
  have HC := Lib.hid (Tryd.slices_Contains_string b 0 n n zs x w (by omega) hn hc)
  rw [List.take_of_length_le (by omega)] at HC
  generalize Lib.containsS zs x = r at *
  clear hc hz
  go_enter Tryd.func122, Tryd.ntmps122
  go_wp2_with fail
  refine HC.out.mono ?_
  rintro e w' ⟨rfl, rfl⟩
  go_wp2_with fail
  go_ret
  exact ⟨rfl, rfl⟩

theorem strs_cells (w : World) (zs : List ByteArray) (cs : Array Value) (hcs : cs = (zs.map Value.string).toArray) (t : TypeId) : ∀ j, j < zs.length → (w.alloc (.cells cs t)).cell? ⟨w.heap.size, 0 + j, none⟩ = some (.string (zs.getD j ByteArray.empty)) := by
  intro j hj
  subst hcs
  rw [Nat.zero_add, World.cell?_alloc_at _ _ _ _ rfl, List.getElem?_toArray, List.getElem?_map, List.getElem?_eq_getElem hj]
  simp [hj]

theorem rule_public (w : World) : Calls Tryd.prog 120 #[.string ⟨#[112, 117, 98, 108, 105, 99]⟩] w fun e w' => e = .returned (.bool true) ∧ Below w.heap.size w w' := by
  have HC := Lib.hid (one_any ⟨#[112, 117, 98, 108, 105, 99]⟩ w.heap.size 3 [⟨#[112, 117, 98, 108, 105, 99]⟩, ⟨#[105, 110, 118, 105, 116, 101]⟩, ⟨#[107, 110, 111, 99, 107]⟩] rfl (by omega) (w.alloc (.cells #[.string ⟨#[112, 117, 98, 108, 105, 99]⟩, .string ⟨#[105, 110, 118, 105, 116, 101]⟩, .string ⟨#[107, 110, 111, 99, 107]⟩] 9)) (strs_cells w [⟨#[112, 117, 98, 108, 105, 99]⟩, ⟨#[105, 110, 118, 105, 116, 101]⟩, ⟨#[107, 110, 111, 99, 107]⟩] _ rfl _))
  rw [show Lib.containsS [⟨#[112, 117, 98, 108, 105, 99]⟩, ⟨#[105, 110, 118, 105, 116, 101]⟩, ⟨#[107, 110, 111, 99, 107]⟩] ⟨#[112, 117, 98, 108, 105, 99]⟩ = true by decide +kernel] at HC
  go_enter Tryd.func120, Tryd.ntmps120
  go_wp2_with fail
  refine HC.out.mono ?_
  rintro e w' ⟨rfl, rfl⟩
  go_wp2_with fail
  go_ret
  exact ⟨rfl, (Below.refl _ w).alloc (Nat.le_refl _) _⟩

theorem is_join (w : World) : Calls Tryd.prog 121 #[.string ⟨#[106, 111, 105, 110]⟩] w fun e w' => e = .returned (.bool true) ∧ Below w.heap.size w w' := by
  have HC := Lib.hid (one_any ⟨#[106, 111, 105, 110]⟩ w.heap.size 5 [⟨#[106, 111, 105, 110]⟩, ⟨#[105, 110, 118, 105, 116, 101]⟩, ⟨#[108, 101, 97, 118, 101]⟩, ⟨#[98, 97, 110]⟩, ⟨#[107, 110, 111, 99, 107]⟩] rfl (by omega) (w.alloc (.cells #[.string ⟨#[106, 111, 105, 110]⟩, .string ⟨#[105, 110, 118, 105, 116, 101]⟩, .string ⟨#[108, 101, 97, 118, 101]⟩, .string ⟨#[98, 97, 110]⟩, .string ⟨#[107, 110, 111, 99, 107]⟩] 9)) (strs_cells w [⟨#[106, 111, 105, 110]⟩, ⟨#[105, 110, 118, 105, 116, 101]⟩, ⟨#[108, 101, 97, 118, 101]⟩, ⟨#[98, 97, 110]⟩, ⟨#[107, 110, 111, 99, 107]⟩] _ rfl _))
  rw [show Lib.containsS [⟨#[106, 111, 105, 110]⟩, ⟨#[105, 110, 118, 105, 116, 101]⟩, ⟨#[108, 101, 97, 118, 101]⟩, ⟨#[98, 97, 110]⟩, ⟨#[107, 110, 111, 99, 107]⟩] ⟨#[106, 111, 105, 110]⟩ = true by decide +kernel] at HC
  go_enter Tryd.func121, Tryd.ntmps121
  go_wp2_with fail
  refine HC.out.mono ?_
  rintro e w' ⟨rfl, rfl⟩
  go_wp2_with fail
  go_ret
  exact ⟨rfl, (Below.refl _ w).alloc (Nat.le_refl _) _⟩

theorem is_leave (w : World) : Calls Tryd.prog 121 #[.string ⟨#[108, 101, 97, 118, 101]⟩] w fun e w' => e = .returned (.bool true) ∧ Below w.heap.size w w' := by
  have HC := Lib.hid (one_any ⟨#[108, 101, 97, 118, 101]⟩ w.heap.size 5 [⟨#[106, 111, 105, 110]⟩, ⟨#[105, 110, 118, 105, 116, 101]⟩, ⟨#[108, 101, 97, 118, 101]⟩, ⟨#[98, 97, 110]⟩, ⟨#[107, 110, 111, 99, 107]⟩] rfl (by omega) (w.alloc (.cells #[.string ⟨#[106, 111, 105, 110]⟩, .string ⟨#[105, 110, 118, 105, 116, 101]⟩, .string ⟨#[108, 101, 97, 118, 101]⟩, .string ⟨#[98, 97, 110]⟩, .string ⟨#[107, 110, 111, 99, 107]⟩] 9)) (strs_cells w [⟨#[106, 111, 105, 110]⟩, ⟨#[105, 110, 118, 105, 116, 101]⟩, ⟨#[108, 101, 97, 118, 101]⟩, ⟨#[98, 97, 110]⟩, ⟨#[107, 110, 111, 99, 107]⟩] _ rfl _))
  rw [show Lib.containsS [⟨#[106, 111, 105, 110]⟩, ⟨#[105, 110, 118, 105, 116, 101]⟩, ⟨#[108, 101, 97, 118, 101]⟩, ⟨#[98, 97, 110]⟩, ⟨#[107, 110, 111, 99, 107]⟩] ⟨#[108, 101, 97, 118, 101]⟩ = true by decide +kernel] at HC
  go_enter Tryd.func121, Tryd.ntmps121
  go_wp2_with fail
  refine HC.out.mono ?_
  rintro e w' ⟨rfl, rfl⟩
  go_wp2_with fail
  go_ret
  exact ⟨rfl, (Below.refl _ w).alloc (Nat.le_refl _) _⟩

theorem is_ban (w : World) : Calls Tryd.prog 121 #[.string ⟨#[98, 97, 110]⟩] w fun e w' => e = .returned (.bool true) ∧ Below w.heap.size w w' := by
  have HC := Lib.hid (one_any ⟨#[98, 97, 110]⟩ w.heap.size 5 [⟨#[106, 111, 105, 110]⟩, ⟨#[105, 110, 118, 105, 116, 101]⟩, ⟨#[108, 101, 97, 118, 101]⟩, ⟨#[98, 97, 110]⟩, ⟨#[107, 110, 111, 99, 107]⟩] rfl (by omega) (w.alloc (.cells #[.string ⟨#[106, 111, 105, 110]⟩, .string ⟨#[105, 110, 118, 105, 116, 101]⟩, .string ⟨#[108, 101, 97, 118, 101]⟩, .string ⟨#[98, 97, 110]⟩, .string ⟨#[107, 110, 111, 99, 107]⟩] 9)) (strs_cells w [⟨#[106, 111, 105, 110]⟩, ⟨#[105, 110, 118, 105, 116, 101]⟩, ⟨#[108, 101, 97, 118, 101]⟩, ⟨#[98, 97, 110]⟩, ⟨#[107, 110, 111, 99, 107]⟩] _ rfl _))
  rw [show Lib.containsS [⟨#[106, 111, 105, 110]⟩, ⟨#[105, 110, 118, 105, 116, 101]⟩, ⟨#[108, 101, 97, 118, 101]⟩, ⟨#[98, 97, 110]⟩, ⟨#[107, 110, 111, 99, 107]⟩] ⟨#[98, 97, 110]⟩ = true by decide +kernel] at HC
  go_enter Tryd.func121, Tryd.ntmps121
  go_wp2_with fail
  refine HC.out.mono ?_
  rintro e w' ⟨rfl, rfl⟩
  go_wp2_with fail
  go_ret
  exact ⟨rfl, (Below.refl _ w).alloc (Nat.le_refl _) _⟩

set_option maxHeartbeats 2000000 in
theorem check_ban (kick ban above : Bool) (w : World) : Calls Tryd.prog 80 #[.agg #[.string ⟨#[112, 117, 98, 108, 105, 99]⟩, .string ⟨#[106, 111, 105, 110]⟩, .string ⟨#[106, 111, 105, 110]⟩, .string ⟨#[98, 97, 110]⟩, .bool false, .bool false, .bool kick, .bool ban, .bool above]] w fun e w' => e = .returned (.int .i64 0) ∧ Below w.heap.size w w' := by
  have A0 := Blk.new w #[.string ⟨#[112, 117, 98, 108, 105, 99]⟩, .string ⟨#[106, 111, 105, 110]⟩, .string ⟨#[106, 111, 105, 110]⟩, .string ⟨#[98, 97, 110]⟩, .bool false, .bool false, .bool kick, .bool ban, .bool above] 80
  have B := (Below.refl w.heap.size w).alloc (Nat.le_refl _) (.cells #[.string ⟨#[112, 117, 98, 108, 105, 99]⟩, .string ⟨#[106, 111, 105, 110]⟩, .string ⟨#[106, 111, 105, 110]⟩, .string ⟨#[98, 97, 110]⟩, .bool false, .bool false, .bool kick, .bool ban, .bool above] 80)
  go_enter Tryd.func80, Tryd.ntmps80
  go_wp2_with fail
  generalize w.alloc (.cells #[.string ⟨#[112, 117, 98, 108, 105, 99]⟩, .string ⟨#[106, 111, 105, 110]⟩, .string ⟨#[106, 111, 105, 110]⟩, .string ⟨#[98, 97, 110]⟩, .bool false, .bool false, .bool kick, .bool ban, .bool above] 80) = w1 at *
  refine (rule_public w1).mono ?_
  rintro e w2 ⟨rfl, hb⟩
  have A1 := A0.low hb
  have B1 := B.trans (hb.mono B.size)
  have c1 := A1.cell 1 rfl
  clear hb
  go_wp2_with fail
  refine (is_join w2).mono ?_
  rintro e w3 ⟨rfl, hb⟩
  have A2 := A1.low hb
  have B2 := B1.trans (hb.mono B1.size)
  clear hb c1
  have c2 := A2.cell 2 rfl
  go_wp2_with fail
  refine (is_join w3).mono ?_
  rintro e w4 ⟨rfl, hb⟩
  have A3 := A2.low hb
  have B3 := B2.trans (hb.mono B2.size)
  clear hb c2
  have c3 := A3.cell 3 rfl
  go_wp2_with fail
  refine (is_ban w4).mono ?_
  rintro e w5 ⟨rfl, hb⟩
  have B4 := B3.trans (hb.mono B3.size)
  go_wp2_with fail
  go_ret
  exact ⟨rfl, B4⟩

set_option maxHeartbeats 2000000 in
theorem check_leave (kick ban above : Bool) (w : World) : Calls Tryd.prog 80 #[.agg #[.string ⟨#[112, 117, 98, 108, 105, 99]⟩, .string ⟨#[106, 111, 105, 110]⟩, .string ⟨#[106, 111, 105, 110]⟩, .string ⟨#[108, 101, 97, 118, 101]⟩, .bool false, .bool false, .bool kick, .bool ban, .bool above]] w fun e w' => e = .returned (.int .i64 0) ∧ Below w.heap.size w w' := by
  have A0 := Blk.new w #[.string ⟨#[112, 117, 98, 108, 105, 99]⟩, .string ⟨#[106, 111, 105, 110]⟩, .string ⟨#[106, 111, 105, 110]⟩, .string ⟨#[108, 101, 97, 118, 101]⟩, .bool false, .bool false, .bool kick, .bool ban, .bool above] 80
  have B := (Below.refl w.heap.size w).alloc (Nat.le_refl _) (.cells #[.string ⟨#[112, 117, 98, 108, 105, 99]⟩, .string ⟨#[106, 111, 105, 110]⟩, .string ⟨#[106, 111, 105, 110]⟩, .string ⟨#[108, 101, 97, 118, 101]⟩, .bool false, .bool false, .bool kick, .bool ban, .bool above] 80)
  go_enter Tryd.func80, Tryd.ntmps80
  go_wp2_with fail
  generalize w.alloc (.cells #[.string ⟨#[112, 117, 98, 108, 105, 99]⟩, .string ⟨#[106, 111, 105, 110]⟩, .string ⟨#[106, 111, 105, 110]⟩, .string ⟨#[108, 101, 97, 118, 101]⟩, .bool false, .bool false, .bool kick, .bool ban, .bool above] 80) = w1 at *
  refine (rule_public w1).mono ?_
  rintro e w2 ⟨rfl, hb⟩
  have A1 := A0.low hb
  have B1 := B.trans (hb.mono B.size)
  have c1 := A1.cell 1 rfl
  clear hb
  go_wp2_with fail
  refine (is_join w2).mono ?_
  rintro e w3 ⟨rfl, hb⟩
  have A2 := A1.low hb
  have B2 := B1.trans (hb.mono B1.size)
  clear hb c1
  have c2 := A2.cell 2 rfl
  go_wp2_with fail
  refine (is_join w3).mono ?_
  rintro e w4 ⟨rfl, hb⟩
  have A3 := A2.low hb
  have B3 := B2.trans (hb.mono B2.size)
  clear hb c2
  have c3 := A3.cell 3 rfl
  go_wp2_with fail
  refine (is_leave w4).mono ?_
  rintro e w5 ⟨rfl, hb⟩
  have B4 := B3.trans (hb.mono B3.size)
  go_wp2_with fail
  go_ret
  exact ⟨rfl, B4⟩

set_option maxHeartbeats 2000000 in
theorem other_ban (kick ban above : Bool) (w : World) : Calls Tryd.prog 82 #[.agg #[.string ⟨#[112, 117, 98, 108, 105, 99]⟩, .string ⟨#[106, 111, 105, 110]⟩, .string ⟨#[106, 111, 105, 110]⟩, .string ⟨#[98, 97, 110]⟩, .bool false, .bool false, .bool kick, .bool ban, .bool above]] w fun e w' => e = .returned (.bool (ban && above)) ∧ Below w.heap.size w w' := by
  have B := (Below.refl w.heap.size w).alloc (Nat.le_refl _) (.cells #[.string ⟨#[112, 117, 98, 108, 105, 99]⟩, .string ⟨#[106, 111, 105, 110]⟩, .string ⟨#[106, 111, 105, 110]⟩, .string ⟨#[98, 97, 110]⟩, .bool false, .bool false, .bool kick, .bool ban, .bool above] 80)
  cases ban
  all_goals
    go_enter Tryd.func82, Tryd.ntmps82
    go_wp2_with fail
    go_ret
    exact ⟨by simp, B⟩

set_option maxHeartbeats 2000000 in
theorem other_leave (kick ban above : Bool) (w : World) : Calls Tryd.prog 82 #[.agg #[.string ⟨#[112, 117, 98, 108, 105, 99]⟩, .string ⟨#[106, 111, 105, 110]⟩, .string ⟨#[106, 111, 105, 110]⟩, .string ⟨#[108, 101, 97, 118, 101]⟩, .bool false, .bool false, .bool kick, .bool ban, .bool above]] w fun e w' => e = .returned (.bool (above && kick)) ∧ Below w.heap.size w w' := by
  have A0 := Blk.new w #[.string ⟨#[112, 117, 98, 108, 105, 99]⟩, .string ⟨#[106, 111, 105, 110]⟩, .string ⟨#[106, 111, 105, 110]⟩, .string ⟨#[108, 101, 97, 118, 101]⟩, .bool false, .bool false, .bool kick, .bool ban, .bool above] 80
  have B := (Below.refl w.heap.size w).alloc (Nat.le_refl _) (.cells #[.string ⟨#[112, 117, 98, 108, 105, 99]⟩, .string ⟨#[106, 111, 105, 110]⟩, .string ⟨#[106, 111, 105, 110]⟩, .string ⟨#[108, 101, 97, 118, 101]⟩, .bool false, .bool false, .bool kick, .bool ban, .bool above] 80)
  cases above with
  | false =>
    go_enter Tryd.func82, Tryd.ntmps82
    go_wp2_with fail
    go_ret
    exact ⟨by simp, B⟩
  | true =>
    go_enter Tryd.func82, Tryd.ntmps82
    go_wp2_with fail
    have hz1 : (w.alloc (.cells #[.string ⟨#[112, 117, 98, 108, 105, 99]⟩, .string ⟨#[106, 111, 105, 110]⟩, .string ⟨#[106, 111, 105, 110]⟩, .string ⟨#[108, 101, 97, 118, 101]⟩, .bool false, .bool false, .bool kick, .bool ban, .bool true] 80)).heap.size = w.heap.size + 1 := by simp
    generalize w.alloc (.cells #[.string ⟨#[112, 117, 98, 108, 105, 99]⟩, .string ⟨#[106, 111, 105, 110]⟩, .string ⟨#[106, 111, 105, 110]⟩, .string ⟨#[108, 101, 97, 118, 101]⟩, .bool false, .bool false, .bool kick, .bool ban, .bool true] 80) = w1 at *
    have HC := Lib.hid (one_any ⟨#[106, 111, 105, 110]⟩ w1.heap.size 3 [⟨#[106, 111, 105, 110]⟩, ⟨#[105, 110, 118, 105, 116, 101]⟩, ⟨#[107, 110, 111, 99, 107]⟩] rfl (by omega) (w1.alloc (.cells #[.string ⟨#[106, 111, 105, 110]⟩, .string ⟨#[105, 110, 118, 105, 116, 101]⟩, .string ⟨#[107, 110, 111, 99, 107]⟩] 9)) (strs_cells w1 [⟨#[106, 111, 105, 110]⟩, ⟨#[105, 110, 118, 105, 116, 101]⟩, ⟨#[107, 110, 111, 99, 107]⟩] _ rfl _))
    rw [show Lib.containsS [⟨#[106, 111, 105, 110]⟩, ⟨#[105, 110, 118, 105, 116, 101]⟩, ⟨#[107, 110, 111, 99, 107]⟩] ⟨#[106, 111, 105, 110]⟩ = true by decide +kernel, hz1] at HC
    have A1 := A0.alloc (.cells #[.string ⟨#[106, 111, 105, 110]⟩, .string ⟨#[105, 110, 118, 105, 116, 101]⟩, .string ⟨#[107, 110, 111, 99, 107]⟩] 9)
    have B1 := B.alloc B.size (.cells #[.string ⟨#[106, 111, 105, 110]⟩, .string ⟨#[105, 110, 118, 105, 116, 101]⟩, .string ⟨#[107, 110, 111, 99, 107]⟩] 9)
    have c6 := A1.cell 6 rfl
    refine HC.out.mono ?_
    rintro e w' ⟨rfl, rfl⟩
    go_wp2_with fail
    go_ret
    exact ⟨by simp, B1⟩

set_option maxHeartbeats 2000000 in
theorem allowed_ban (kick ban above : Bool) (w : World) : Calls Tryd.prog 32 #[.agg #[.string ⟨#[112, 117, 98, 108, 105, 99]⟩, .string ⟨#[106, 111, 105, 110]⟩, .string ⟨#[106, 111, 105, 110]⟩, .string ⟨#[98, 97, 110]⟩, .bool false, .bool false, .bool kick, .bool ban, .bool above]] w fun e w' => e = .returned (.int .i64 (if (ban && above) = true then 0 else 12)) ∧ Below w.heap.size w w' := by
  have HO := Lib.hid (other_ban kick ban above)
  have HC := Lib.hid (check_ban kick ban above)
  have A0 := Blk.new w #[.string ⟨#[112, 117, 98, 108, 105, 99]⟩, .string ⟨#[106, 111, 105, 110]⟩, .string ⟨#[106, 111, 105, 110]⟩, .string ⟨#[98, 97, 110]⟩, .bool false, .bool false, .bool kick, .bool ban, .bool above] 80
  have B := (Below.refl w.heap.size w).alloc (Nat.le_refl _) (.cells #[.string ⟨#[112, 117, 98, 108, 105, 99]⟩, .string ⟨#[106, 111, 105, 110]⟩, .string ⟨#[106, 111, 105, 110]⟩, .string ⟨#[98, 97, 110]⟩, .bool false, .bool false, .bool kick, .bool ban, .bool above] 80)
  generalize hr : (ban && above) = r at HO ⊢
  clear hr
  go_enter Tryd.func32, Tryd.ntmps32
  go_wp2_with fail
  generalize w.alloc (.cells #[.string ⟨#[112, 117, 98, 108, 105, 99]⟩, .string ⟨#[106, 111, 105, 110]⟩, .string ⟨#[106, 111, 105, 110]⟩, .string ⟨#[98, 97, 110]⟩, .bool false, .bool false, .bool kick, .bool ban, .bool above] 80) = w1 at *
  refine (HC.out _).mono ?_
  rintro e w2 ⟨rfl, hb⟩
  have A1 := A0.low hb
  have B1 := B.trans (hb.mono B.size)
  clear hb
  have c0 := A1.cell 0 rfl
  have c1 := A1.cell 1 rfl
  have c2 := A1.cell 2 rfl
  have c3 := A1.cell 3 rfl
  have c4 := A1.cell 4 rfl
  have c5 := A1.cell 5 rfl
  have c6 := A1.cell 6 rfl
  have c7 := A1.cell 7 rfl
  have c8 := A1.cell 8 rfl
  go_wp2_with fail
  refine (HO.out _).mono ?_
  rintro e w3 ⟨rfl, hb⟩
  have B2 := B1.trans (hb.mono B1.size)
  clear c0 c1 c2 c3 c4 c5 c6 c7 c8
  cases r
  all_goals
    go_wp2_with fail
    go_ret
    exact ⟨rfl, B2⟩

set_option maxHeartbeats 2000000 in
theorem allowed_leave (kick ban above : Bool) (w : World) : Calls Tryd.prog 32 #[.agg #[.string ⟨#[112, 117, 98, 108, 105, 99]⟩, .string ⟨#[106, 111, 105, 110]⟩, .string ⟨#[106, 111, 105, 110]⟩, .string ⟨#[108, 101, 97, 118, 101]⟩, .bool false, .bool false, .bool kick, .bool ban, .bool above]] w fun e w' => e = .returned (.int .i64 (if (above && kick) = true then 0 else 12)) ∧ Below w.heap.size w w' := by
  have HO := Lib.hid (other_leave kick ban above)
  have HC := Lib.hid (check_leave kick ban above)
  have A0 := Blk.new w #[.string ⟨#[112, 117, 98, 108, 105, 99]⟩, .string ⟨#[106, 111, 105, 110]⟩, .string ⟨#[106, 111, 105, 110]⟩, .string ⟨#[108, 101, 97, 118, 101]⟩, .bool false, .bool false, .bool kick, .bool ban, .bool above] 80
  have B := (Below.refl w.heap.size w).alloc (Nat.le_refl _) (.cells #[.string ⟨#[112, 117, 98, 108, 105, 99]⟩, .string ⟨#[106, 111, 105, 110]⟩, .string ⟨#[106, 111, 105, 110]⟩, .string ⟨#[108, 101, 97, 118, 101]⟩, .bool false, .bool false, .bool kick, .bool ban, .bool above] 80)
  generalize hr : (above && kick) = r at HO ⊢
  clear hr
  go_enter Tryd.func32, Tryd.ntmps32
  go_wp2_with fail
  generalize w.alloc (.cells #[.string ⟨#[112, 117, 98, 108, 105, 99]⟩, .string ⟨#[106, 111, 105, 110]⟩, .string ⟨#[106, 111, 105, 110]⟩, .string ⟨#[108, 101, 97, 118, 101]⟩, .bool false, .bool false, .bool kick, .bool ban, .bool above] 80) = w1 at *
  refine (HC.out _).mono ?_
  rintro e w2 ⟨rfl, hb⟩
  have A1 := A0.low hb
  have B1 := B.trans (hb.mono B.size)
  clear hb
  have c0 := A1.cell 0 rfl
  have c1 := A1.cell 1 rfl
  have c2 := A1.cell 2 rfl
  have c3 := A1.cell 3 rfl
  have c4 := A1.cell 4 rfl
  have c5 := A1.cell 5 rfl
  have c6 := A1.cell 6 rfl
  have c7 := A1.cell 7 rfl
  have c8 := A1.cell 8 rfl
  go_wp2_with fail
  refine (HO.out _).mono ?_
  rintro e w3 ⟨rfl, hb⟩
  have B2 := B1.trans (hb.mono B1.size)
  clear c0 c1 c2 c3 c4 c5 c6 c7 c8
  cases r
  all_goals
    go_wp2_with fail
    go_ret
    exact ⟨rfl, B2⟩
end Above
end Go.Proofs.YtbgjoefpnjgdkaaDoor
