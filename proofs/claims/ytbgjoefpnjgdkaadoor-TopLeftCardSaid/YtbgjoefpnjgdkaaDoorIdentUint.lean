/- strconv.ParseUint at base 10 and a size of 6 or 7 bits: the number and no error, or some error. -/
import Derived.Test.YtbgjoefpnjgdkaaDoorIdentNum
import Derived.Lib.ConvBytes
import Derived.Lib.ParseIntBMem
import Derived.Lib.Hide
import Derived.Laws.Strings3
import Derived.Laws.Closers25
import Derived.Laws.Closers25b
namespace Go.Proofs.YtbgjoefpnjgdkaaDoor
open Go.RowKit
set_option linter.unusedVariables false
set_option linter.unusedSimpArgs false
set_option maxRecDepth 100000
namespace Named

set_option maxHeartbeats 32000000 in
theorem uintLoop_6 (t : ByteArray) (hne : t.size ≠ 0) (hmax : t.size ≤ 9223372036854775806) (w : World) :
    Calls Tryd.prog 112 #[.string t, .int .i64 10, .int .i64 6] w fun e w' => e = .returned (Lib.uintTupleM 223 63 (Lib.parseUintM 63 0 t.data.toList)) ∧ Below w.heap.size w w' := by
  have hemp : t.toList.isEmpty = false := by
    rw [← decide_eq_emptyBytes]
    exact decide_eq_false (fun h => hne (by rw [h]; rfl))
  have hcv := Lib.run_convert_string_bytes (P := Tryd.prog) w 9 96 5 t (u := .string) Tryd.underlying9 Tryd.underlying96 Tryd.underlying5
  have hB : ∀ j, j < t.size → (Lib.bytesWorld w 5 t).cell? ⟨w.heap.size, j, none⟩ = some (.int .u8 (t.data.toList.getD j 0).toNat) := fun j hj => Lib.bytesWorld_cell w 5 t j hj
  have HBW := Lib.hid (Lib.bytesWorld_below w 5 t)
  obtain ⟨W1, hW1⟩ : ∃ W1, W1 = Lib.bytesWorld w 5 t := ⟨_, rfl⟩
  rw [← hW1] at hcv hB HBW
  clear hW1
  obtain ⟨bs, hL⟩ : ∃ bs, bs = t.data.toList := ⟨_, rfl⟩
  have hLn : bs.length = t.size := by rw [hL, Lib.size_eq]
  rw [← hL] at hB ⊢
  clear hL
  have hmv : IntKind.u64.wrap (IntKind.u64.wrap 64 - 1) = 63 := by
    rw [IntKind.wrap_u64, IntKind.wrap_u64]
    decide
  go_enter Tryd.func112, Tryd.ntmps112
  go_wp2
  go_loop [12, 13, 101] (fun vu vn vi => ∃ (k acc : Nat) (a : Int), vu = .bool false ∧ vn = .int .u64 a ∧ vi = .int .i64 k ∧ k ≤ t.size ∧ Hid (a = (acc : Int) ∧ acc ≤ 63 ∧ Lib.parseUintM 63 0 bs = Lib.parseUintM 63 acc (bs.drop k)))
    (fun _ _ vi => t.size - (intOf vi).toNat)
  case atStart => exact ⟨0, 0, 0, rfl, rfl, rfl, by omega, rfl, by omega, rfl⟩
  case round =>
    obtain ⟨k, acc, a, rfl, rfl, rfl, hk, hh⟩ := hrel
    obtain ⟨ha, hacc, hdec⟩ := hh.out
    clear hh
    have a0 : 0 ≤ a := by omega
    have a1 : a ≤ 63 := by omega
    by_cases hkn : k < t.size
    · have hc := hB k hkn
      have hdrop : bs.drop k = bs[k]'(by omega) :: bs.drop (k + 1) := List.drop_eq_getElem_cons (by omega)
      have hget : bs.getD k 0 = bs[k]'(by omega) := by simp [List.getD, List.getElem?_eq_getElem (show k < bs.length by omega)]
      rw [hdrop] at hdec
      rw [hget] at hc
      generalize bs[k]'(by omega) = c at hc hdec
      have hc256 : c.toNat < 256 := c.toNat_lt
      clear hB hdrop hget
      by_cases hdig : 48 ≤ c.toNat ∧ c.toNat ≤ 57
      · obtain ⟨hd0, hd1⟩ := hdig
        have hcut : ¬ 1844674407370955162 ≤ acc := by omega
        by_cases hov : 63 < acc * 10 + (c.toNat - 48)
        · have hF : Lib.parseUintM 63 acc (c :: bs.drop (k + 1)) = .range := by simp [Lib.parseUintM, hd0, hd1, hcut, hov]
          rw [hF] at hdec
          have iov : 63 < a * 10 + ((c.toNat : Int) - 48) := by omega
          clear hcut hacc hF hov ha
          go_wp2
          go_ret2
          exact ⟨rfl, HBW.out⟩
        · have hF : Lib.parseUintM 63 acc (c :: bs.drop (k + 1)) = Lib.parseUintM 63 (acc * 10 + (c.toNat - 48)) (bs.drop (k + 1)) := by simp [Lib.parseUintM, hd0, hd1, hcut, hov]
          have HN : Hid (a * 10 + ((c.toNat : Int) - 48) = ((acc * 10 + (c.toNat - 48) : Nat) : Int) ∧ acc * 10 + (c.toNat - 48) ≤ 63 ∧ Lib.parseUintM 63 0 bs = Lib.parseUintM 63 (acc * 10 + (c.toNat - 48)) (bs.drop (k + 1))) := Lib.hid ⟨by omega, by omega, hdec.trans hF⟩
          have iov : a * 10 + ((c.toNat : Int) - 48) ≤ 63 := by omega
          clear hcut hacc hF hov hdec ha
          go_wp2
          refine ⟨⟨k + 1, acc * 10 + (c.toNat - 48), a * 10 + ((c.toNat : Int) - 48), rfl, (by first | rfl | (congr 1; omega)), (by first | rfl | (congr 1; omega)), by omega, HN⟩, by simp [intOf]; omega⟩
      · have hF : Lib.parseUintM 63 acc (c :: bs.drop (k + 1)) = Lib.parseUintM 63 0 [0] := by simp [Lib.parseUintM, hdig]
        rw [hF] at hdec
        clear hacc hF ha
        have hv0 := bits_lo_u8 .or (c.toNat : Int) 32
        have hv1 := bits_hi_u8 .or (c.toNat : Int) 32
        have hu0 := bits_lo_u8 .or 95 32
        have hu1 := bits_hi_u8 .or 95 32
        go_wp2_with (go_at_call 142; refine (Tryd.internal_strconv_lower _ _).mono ?_; rintro e w' ⟨rfl, rfl⟩)
        all_goals go_ret2
        all_goals first | exact ⟨rfl, HBW.out⟩ | exact ⟨by rw [hdec]; rfl, HBW.out⟩
    · have hkk : k = t.size := by omega
      subst hkk
      have hF : Lib.parseUintM 63 acc (bs.drop t.size) = .ok acc := by rw [List.drop_eq_nil_of_le (by omega)]; rfl
      rw [hF] at hdec
      subst ha
      clear hacc hF a0 a1
      go_wp2
      go_ret2
      exact ⟨rfl, HBW.out⟩

set_option maxHeartbeats 4000000 in
theorem uintIn_6 (l : List UInt8) (hmax : l.length ≤ 281474976710656) (w : World) :
    Calls Tryd.prog 112 #[.string ⟨l.toArray⟩, .int .i64 10, .int .i64 6] w fun e w' => e = .returned (Lib.uintTupleM 223 63 (Lib.parseUintB 6 l)) ∧ Below w.heap.size w w' := by
  cases l with
  | nil =>
    go_enter Tryd.func112, Tryd.ntmps112
    go_wp2
    go_ret2
    exact ⟨rfl, Below.refl _ _⟩
  | cons c r =>
    have h := uintLoop_6 ⟨(c :: r).toArray⟩ (by simp [ByteArray.size]) (by rw [ba_size]; omega) w
    rw [Lib.parseUintB, if_neg (by simp)]
    exact h

set_option maxHeartbeats 4000000 in
/-- strconv.ParseUint(s, 10, 6): the number, and nil just where it is one -/
theorem uint_6 (l : List UInt8) (hmax : l.length ≤ 281474976710656) (w : World) (hV : Vars w) :
    Calls Tryd.prog 69 #[.string ⟨l.toArray⟩, .int .i64 10, .int .i64 6] w fun e w' => ∃ er, e = .returned (.tuple #[.int .u64 ((uintV 6 l).1 : Int), er]) ∧ (((uintV 6 l).2 = true ∧ er = .nilIface) ∨ ((uintV 6 l).2 = false ∧ ∃ t p, er = .iface t p)) ∧ Below w.heap.size w w' := by
  have HI := Lib.hid (uintIn_6 l hmax w)
  have HM := Lib.hid hmax
  have HV := Lib.hid hV
  have HU : Hid (uintV 6 l = match Lib.parseUintB 6 l with
    | .ok n => (n, true)
    | .range => (2 ^ 6 - 1, false)
    | _ => (0, false)) := Lib.hid rfl
  clear hmax hV
  generalize Lib.parseUintB 6 l = r at HI HU
  rcases r with n | _ | _
  ·
    have HI2 : Hid (Calls Tryd.prog 112 #[.string ⟨l.toArray⟩, .int .i64 10, .int .i64 6] w fun e w' => e = .returned (.tuple #[.int .u64 n, .nilIface]) ∧ Below w.heap.size w w') := HI
    clear HI
    go_enter Tryd.func69, Tryd.ntmps69
    go_wp2_with fail
    refine HI2.out.mono ?_
    rintro e w1 ⟨rfl, hb⟩
    go_wp2_with fail
    go_ret2
    rw [HU.out]
    exact ⟨_, rfl, .inl ⟨rfl, rfl⟩, hb⟩
  ·
    have HI2 : Hid (Calls Tryd.prog 112 #[.string ⟨l.toArray⟩, .int .i64 10, .int .i64 6] w fun e w' => e = .returned (.tuple #[.int .u64 0, .iface 223 (.int .i64 2)]) ∧ Below w.heap.size w w') := HI
    clear HI
    go_enter Tryd.func69, Tryd.ntmps69
    go_wp2_with fail
    refine HI2.out.mono ?_
    rintro e w1 ⟨rfl, hb⟩
    have HV1 := Lib.hid (HV.out.low hb)
    go_wp2_with fail
    obtain ⟨te, pe, hes⟩ := HV1.out.es
    refine (Tryd.strconv_toError_syntax _ _ _ _ _ _ (by rw [ba_size]; exact HM.out) hes (.inr ⟨te, pe, rfl⟩)).mono ?_
    rintro e w2 ⟨N, rfl, -, -, hb2⟩
    go_wp2_with fail
    go_ret2
    rw [HU.out]
    exact ⟨_, rfl, .inr ⟨rfl, _, _, rfl⟩, hb.trans (hb2.mono hb.size)⟩
  ·
    have HI2 : Hid (Calls Tryd.prog 112 #[.string ⟨l.toArray⟩, .int .i64 10, .int .i64 6] w fun e w' => e = .returned (.tuple #[.int .u64 63, .iface 223 (.int .i64 1)]) ∧ Below w.heap.size w w') := HI
    clear HI
    go_enter Tryd.func69, Tryd.ntmps69
    go_wp2_with fail
    refine HI2.out.mono ?_
    rintro e w1 ⟨rfl, hb⟩
    have HV1 := Lib.hid (HV.out.low hb)
    go_wp2_with fail
    obtain ⟨te, pe, hes⟩ := HV1.out.er
    refine (Tryd.strconv_toError_range _ _ _ _ _ _ (by rw [ba_size]; exact HM.out) hes (.inr ⟨te, pe, rfl⟩)).mono ?_
    rintro e w2 ⟨N, rfl, -, -, hb2⟩
    go_wp2_with fail
    go_ret2
    rw [HU.out]
    exact ⟨_, rfl, .inr ⟨rfl, _, _, rfl⟩, hb.trans (hb2.mono hb.size)⟩

set_option maxHeartbeats 32000000 in
theorem uintLoop_7 (t : ByteArray) (hne : t.size ≠ 0) (hmax : t.size ≤ 9223372036854775806) (w : World) :
    Calls Tryd.prog 112 #[.string t, .int .i64 10, .int .i64 7] w fun e w' => e = .returned (Lib.uintTupleM 223 127 (Lib.parseUintM 127 0 t.data.toList)) ∧ Below w.heap.size w w' := by
  have hemp : t.toList.isEmpty = false := by
    rw [← decide_eq_emptyBytes]
    exact decide_eq_false (fun h => hne (by rw [h]; rfl))
  have hcv := Lib.run_convert_string_bytes (P := Tryd.prog) w 9 96 5 t (u := .string) Tryd.underlying9 Tryd.underlying96 Tryd.underlying5
  have hB : ∀ j, j < t.size → (Lib.bytesWorld w 5 t).cell? ⟨w.heap.size, j, none⟩ = some (.int .u8 (t.data.toList.getD j 0).toNat) := fun j hj => Lib.bytesWorld_cell w 5 t j hj
  have HBW := Lib.hid (Lib.bytesWorld_below w 5 t)
  obtain ⟨W1, hW1⟩ : ∃ W1, W1 = Lib.bytesWorld w 5 t := ⟨_, rfl⟩
  rw [← hW1] at hcv hB HBW
  clear hW1
  obtain ⟨bs, hL⟩ : ∃ bs, bs = t.data.toList := ⟨_, rfl⟩
  have hLn : bs.length = t.size := by rw [hL, Lib.size_eq]
  rw [← hL] at hB ⊢
  clear hL
  have hmv : IntKind.u64.wrap (IntKind.u64.wrap 128 - 1) = 127 := by
    rw [IntKind.wrap_u64, IntKind.wrap_u64]
    decide
  go_enter Tryd.func112, Tryd.ntmps112
  go_wp2
  go_loop [12, 13, 101] (fun vu vn vi => ∃ (k acc : Nat) (a : Int), vu = .bool false ∧ vn = .int .u64 a ∧ vi = .int .i64 k ∧ k ≤ t.size ∧ Hid (a = (acc : Int) ∧ acc ≤ 127 ∧ Lib.parseUintM 127 0 bs = Lib.parseUintM 127 acc (bs.drop k)))
    (fun _ _ vi => t.size - (intOf vi).toNat)
  case atStart => exact ⟨0, 0, 0, rfl, rfl, rfl, by omega, rfl, by omega, rfl⟩
  case round =>
    obtain ⟨k, acc, a, rfl, rfl, rfl, hk, hh⟩ := hrel
    obtain ⟨ha, hacc, hdec⟩ := hh.out
    clear hh
    have a0 : 0 ≤ a := by omega
    have a1 : a ≤ 127 := by omega
    by_cases hkn : k < t.size
    · have hc := hB k hkn
      have hdrop : bs.drop k = bs[k]'(by omega) :: bs.drop (k + 1) := List.drop_eq_getElem_cons (by omega)
      have hget : bs.getD k 0 = bs[k]'(by omega) := by simp [List.getD, List.getElem?_eq_getElem (show k < bs.length by omega)]
      rw [hdrop] at hdec
      rw [hget] at hc
      generalize bs[k]'(by omega) = c at hc hdec
      have hc256 : c.toNat < 256 := c.toNat_lt
      clear hB hdrop hget
      by_cases hdig : 48 ≤ c.toNat ∧ c.toNat ≤ 57
      · obtain ⟨hd0, hd1⟩ := hdig
        have hcut : ¬ 1844674407370955162 ≤ acc := by omega
        by_cases hov : 127 < acc * 10 + (c.toNat - 48)
        · have hF : Lib.parseUintM 127 acc (c :: bs.drop (k + 1)) = .range := by simp [Lib.parseUintM, hd0, hd1, hcut, hov]
          rw [hF] at hdec
          have iov : 127 < a * 10 + ((c.toNat : Int) - 48) := by omega
          clear hcut hacc hF hov ha
          go_wp2
          go_ret2
          exact ⟨rfl, HBW.out⟩
        · have hF : Lib.parseUintM 127 acc (c :: bs.drop (k + 1)) = Lib.parseUintM 127 (acc * 10 + (c.toNat - 48)) (bs.drop (k + 1)) := by simp [Lib.parseUintM, hd0, hd1, hcut, hov]
          have HN : Hid (a * 10 + ((c.toNat : Int) - 48) = ((acc * 10 + (c.toNat - 48) : Nat) : Int) ∧ acc * 10 + (c.toNat - 48) ≤ 127 ∧ Lib.parseUintM 127 0 bs = Lib.parseUintM 127 (acc * 10 + (c.toNat - 48)) (bs.drop (k + 1))) := Lib.hid ⟨by omega, by omega, hdec.trans hF⟩
          have iov : a * 10 + ((c.toNat : Int) - 48) ≤ 127 := by omega
          clear hcut hacc hF hov hdec ha
          go_wp2
          refine ⟨⟨k + 1, acc * 10 + (c.toNat - 48), a * 10 + ((c.toNat : Int) - 48), rfl, (by first | rfl | (congr 1; omega)), (by first | rfl | (congr 1; omega)), by omega, HN⟩, by simp [intOf]; omega⟩
      · have hF : Lib.parseUintM 127 acc (c :: bs.drop (k + 1)) = Lib.parseUintM 127 0 [0] := by simp [Lib.parseUintM, hdig]
        rw [hF] at hdec
        clear hacc hF ha
        have hv0 := bits_lo_u8 .or (c.toNat : Int) 32
        have hv1 := bits_hi_u8 .or (c.toNat : Int) 32
        have hu0 := bits_lo_u8 .or 95 32
        have hu1 := bits_hi_u8 .or 95 32
        go_wp2_with (go_at_call 142; refine (Tryd.internal_strconv_lower _ _).mono ?_; rintro e w' ⟨rfl, rfl⟩)
        all_goals go_ret2
        all_goals first | exact ⟨rfl, HBW.out⟩ | exact ⟨by rw [hdec]; rfl, HBW.out⟩
    · have hkk : k = t.size := by omega
      subst hkk
      have hF : Lib.parseUintM 127 acc (bs.drop t.size) = .ok acc := by rw [List.drop_eq_nil_of_le (by omega)]; rfl
      rw [hF] at hdec
      subst ha
      clear hacc hF a0 a1
      go_wp2
      go_ret2
      exact ⟨rfl, HBW.out⟩

set_option maxHeartbeats 4000000 in
theorem uintIn_7 (l : List UInt8) (hmax : l.length ≤ 281474976710656) (w : World) :
    Calls Tryd.prog 112 #[.string ⟨l.toArray⟩, .int .i64 10, .int .i64 7] w fun e w' => e = .returned (Lib.uintTupleM 223 127 (Lib.parseUintB 7 l)) ∧ Below w.heap.size w w' := by
  cases l with
  | nil =>
    go_enter Tryd.func112, Tryd.ntmps112
    go_wp2
    go_ret2
    exact ⟨rfl, Below.refl _ _⟩
  | cons c r =>
    have h := uintLoop_7 ⟨(c :: r).toArray⟩ (by simp [ByteArray.size]) (by rw [ba_size]; omega) w
    rw [Lib.parseUintB, if_neg (by simp)]
    exact h

set_option maxHeartbeats 4000000 in
/-- strconv.ParseUint(s, 10, 7): the number, and nil just where it is one -/
theorem uint_7 (l : List UInt8) (hmax : l.length ≤ 281474976710656) (w : World) (hV : Vars w) :
    Calls Tryd.prog 69 #[.string ⟨l.toArray⟩, .int .i64 10, .int .i64 7] w fun e w' => ∃ er, e = .returned (.tuple #[.int .u64 ((uintV 7 l).1 : Int), er]) ∧ (((uintV 7 l).2 = true ∧ er = .nilIface) ∨ ((uintV 7 l).2 = false ∧ ∃ t p, er = .iface t p)) ∧ Below w.heap.size w w' := by
  have HI := Lib.hid (uintIn_7 l hmax w)
  have HM := Lib.hid hmax
  have HV := Lib.hid hV
  have HU : Hid (uintV 7 l = match Lib.parseUintB 7 l with
    | .ok n => (n, true)
    | .range => (2 ^ 7 - 1, false)
    | _ => (0, false)) := Lib.hid rfl
  clear hmax hV
  generalize Lib.parseUintB 7 l = r at HI HU
  rcases r with n | _ | _
  ·
    have HI2 : Hid (Calls Tryd.prog 112 #[.string ⟨l.toArray⟩, .int .i64 10, .int .i64 7] w fun e w' => e = .returned (.tuple #[.int .u64 n, .nilIface]) ∧ Below w.heap.size w w') := HI
    clear HI
    go_enter Tryd.func69, Tryd.ntmps69
    go_wp2_with fail
    refine HI2.out.mono ?_
    rintro e w1 ⟨rfl, hb⟩
    go_wp2_with fail
    go_ret2
    rw [HU.out]
    exact ⟨_, rfl, .inl ⟨rfl, rfl⟩, hb⟩
  ·
    have HI2 : Hid (Calls Tryd.prog 112 #[.string ⟨l.toArray⟩, .int .i64 10, .int .i64 7] w fun e w' => e = .returned (.tuple #[.int .u64 0, .iface 223 (.int .i64 2)]) ∧ Below w.heap.size w w') := HI
    clear HI
    go_enter Tryd.func69, Tryd.ntmps69
    go_wp2_with fail
    refine HI2.out.mono ?_
    rintro e w1 ⟨rfl, hb⟩
    have HV1 := Lib.hid (HV.out.low hb)
    go_wp2_with fail
    obtain ⟨te, pe, hes⟩ := HV1.out.es
    refine (Tryd.strconv_toError_syntax _ _ _ _ _ _ (by rw [ba_size]; exact HM.out) hes (.inr ⟨te, pe, rfl⟩)).mono ?_
    rintro e w2 ⟨N, rfl, -, -, hb2⟩
    go_wp2_with fail
    go_ret2
    rw [HU.out]
    exact ⟨_, rfl, .inr ⟨rfl, _, _, rfl⟩, hb.trans (hb2.mono hb.size)⟩
  ·
    have HI2 : Hid (Calls Tryd.prog 112 #[.string ⟨l.toArray⟩, .int .i64 10, .int .i64 7] w fun e w' => e = .returned (.tuple #[.int .u64 127, .iface 223 (.int .i64 1)]) ∧ Below w.heap.size w w') := HI
    clear HI
    go_enter Tryd.func69, Tryd.ntmps69
    go_wp2_with fail
    refine HI2.out.mono ?_
    rintro e w1 ⟨rfl, hb⟩
    have HV1 := Lib.hid (HV.out.low hb)
    go_wp2_with fail
    obtain ⟨te, pe, hes⟩ := HV1.out.er
    refine (Tryd.strconv_toError_range _ _ _ _ _ _ (by rw [ba_size]; exact HM.out) hes (.inr ⟨te, pe, rfl⟩)).mono ?_
    rintro e w2 ⟨N, rfl, -, -, hb2⟩
    go_wp2_with fail
    go_ret2
    rw [HU.out]
    exact ⟨_, rfl, .inr ⟨rfl, _, _, rfl⟩, hb.trans (hb2.mono hb.size)⟩
end Named
end Go.Proofs.YtbgjoefpnjgdkaaDoor
