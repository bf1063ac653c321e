/- The walk of the law TopSummed, by the contracts of what it calls. -/
import Derived.Test.YtbgjoefpnjgdkaaDoorTopBegins
import Derived.Test.YtbgjoefpnjgdkaaDoorOctAll
import Derived.Test.YtbgjoefpnjgdkaaDoorOctPlain
import Derived.Test.YtbgjoefpnjgdkaaDoorOctBack
import Derived.Test.YtbgjoefpnjgdkaaDoorShaSum
import Derived.Test.YtbgjoefpnjgdkaaDoorHashEq
import Derived.BigQuiet
import Derived.Lib.QuietBelow
import Derived.Lib.Strings
namespace Go.Proofs.YtbgjoefpnjgdkaaDoor
open Go.RowKit
set_option linter.unusedVariables false
set_option linter.unusedSimpArgs false
set_option maxRecDepth 100000
namespace Top
open Oct Sha

theorem summed_cases (L : List (List UInt8)) : listR L = ([], 7) ∨ ∃ a, listR L = (a, 0) ∧ allR a = (L, 0) := by
  by_cases h1 : 256 < L.length
  · left; rw [listR, if_pos h1]
  · by_cases h2 : ∃ t ∈ L, 8192 < t.length
    · left; rw [listR, if_neg h1, if_pos h2]
    · right
      refine ⟨_, by rw [listR, if_neg h1, if_neg h2], ?_⟩
      have h := getList_put L (putL L.length ++ L.flatMap textL) [] (by rw [listR, if_neg h1, if_neg h2])
      rw [List.append_nil] at h
      rw [allR, h]
      simp

theorem summed_bad (p q : Option Addr) (cap cap' : Nat) (L M : List (List UInt8)) (w : World) (hL : StrRow w (.slice p L.length cap) L) (hM : StrRow w (.slice q M.length cap') M) (hb : listR L = ([], 7)) :
    Calls Tryd.prog 3 #[.slice p L.length cap, .slice q M.length cap'] w fun e w' => e = .returned (.bool true) ∧ Below w.heap.size w w' := by
  go_enter Tryd.func3, Tryd.ntmps3
  go_wp2_with fail
  refine (begins_any _).mono ?_
  rintro e w1 ⟨rfl, B1⟩
  have HL1 := hL.below rfl B1
  have HM1 := hM.below rfl B1
  go_wp2_with fail
  refine (list_any _ L w1 HL1).mono ?_
  rintro e w2 ⟨rfl, B2⟩
  rw [hb]
  have HM2 := HM1.below rfl B2
  have B2' := B1.trans (B2.mono B1.size)
  go_wp2_with fail
  refine (list_any _ M w2 HM2).mono ?_
  rintro e w3 ⟨rfl, B3⟩
  have B3' := B2'.trans (B3.mono B2'.size)
  go_wp2_with fail
  refine (all_any [] (by decide) w3).mono ?_
  rintro e w4 ⟨v, rfl, hv, B4⟩
  have B4' := B3'.trans (B4.mono B3'.size)
  go_wp2_with fail
  go_ret
  exact ⟨rfl, B4'⟩

theorem summed_long (p q : Option Addr) (cap cap' : Nat) (L M : List (List UInt8)) (w : World) (hL : StrRow w (.slice p L.length cap) L) (hM : StrRow w (.slice q M.length cap') M) (a : List UInt8) (hb : listR L = (a, 0)) (ha : (262144 : Int) < (a.length : Int)) :
    Calls Tryd.prog 3 #[.slice p L.length cap, .slice q M.length cap'] w fun e w' => e = .returned (.bool true) ∧ Below w.heap.size w w' := by
  have hm : a.length ≤ maxLen := by
    have := listR_length L
    rw [hb] at this
    unfold maxLen; simp at this; omega
  have HM := Lib.hid hm
  clear hm
  have hae : a.isEmpty = false := by
    cases a with
    | nil => simp at ha
    | cons => rfl
  have hsz : (ByteArray.mk a.toArray).size = a.length := by simp [ByteArray.size]
  go_enter Tryd.func3, Tryd.ntmps3
  go_wp2_with fail
  refine (begins_any _).mono ?_
  rintro e w1 ⟨rfl, B1⟩
  have HL1 := hL.below rfl B1
  have HM1 := hM.below rfl B1
  go_wp2_with fail
  refine (list_any _ L w1 HL1).mono ?_
  rintro e w2 ⟨rfl, B2⟩
  rw [hb]
  have HM2 := HM1.below rfl B2
  have B2' := B1.trans (B2.mono B1.size)
  go_wp2_with fail
  refine (list_any _ M w2 HM2).mono ?_
  rintro e w3 ⟨rfl, B3⟩
  have B3' := B2'.trans (B3.mono B2'.size)
  go_wp2_with fail
  refine (all_any a HM.out w3).mono ?_
  rintro e w4 ⟨v, rfl, hv, B4⟩
  have B4' := B3'.trans (B4.mono B3'.size)
  go_wp2_with fail
  go_ret
  exact ⟨rfl, B4'⟩

set_option maxHeartbeats 4000000 in
theorem summed_main (p q : Option Addr) (cap cap' : Nat) (L M : List (List UInt8)) (w : World) (X kk : Nat → Int) (hT : Tabs w X kk) (hL : StrRow w (.slice p L.length cap) L) (hM : StrRow w (.slice q M.length cap') M) (a : List UInt8) (hb : listR L = (a, 0)) (hall : allR a = (L, 0)) (ha : (a.length : Int) ≤ 262144) :
    Calls Tryd.prog 3 #[.slice p L.length cap, .slice q M.length cap'] w fun e w' => e = .returned (.bool true) ∧ Below w.heap.size w w' := by
  have hm : a.length ≤ maxLen := by unfold maxLen; omega
  have hL256 : (L.length : Int) ≤ 256 := by
    have h := allR_length a
    rw [hall] at h
    have h2 : L.length ≤ 256 := h
    omega
  have HM := Lib.hid hm
  clear hm
  go_enter Tryd.func3, Tryd.ntmps3
  go_wp2_with fail
  refine (begins_any _).mono ?_
  rintro e w1 ⟨rfl, B1⟩
  have HL1 := hL.below rfl B1
  have HM1 := hM.below rfl B1
  go_wp2_with fail
  refine (list_any _ L w1 HL1).mono ?_
  rintro e w2 ⟨rfl, B2⟩
  rw [hb]
  have HM2 := HM1.below rfl B2
  have HL2 := HL1.below rfl B2
  have B2' := B1.trans (B2.mono B1.size)
  go_wp2_with fail
  refine (list_any _ M w2 HM2).mono ?_
  rintro e w3 ⟨rfl, B3⟩
  have B3' := B2'.trans (B3.mono B2'.size)
  have HM3 := HM2.below rfl B3
  have HL3 := HL2.below rfl B3
  go_wp2_with fail
  refine (all_any a HM.out w3).mono ?_
  rintro e w4 ⟨v, rfl, hv, B4⟩
  rw [hall] at hv ⊢
  have B4' := Lib.hid (B3'.trans (B4.mono B3'.size))
  have HM4 := Lib.hid (RowS.of (HM3.below rfl B4)).2
  have HL4 := Lib.hid (RowS.of (HL3.below rfl B4)).2
  obtain ⟨pv, cv, rfl⟩ := strrow_slice hv.row
  have HV4 := Lib.hid (RowS.of hv.row).2
  have HT4 := Lib.hid (hT.below rfl B4'.out)
  have HALL := Lib.hid hall
  have HB := Lib.hid hb
  clear B1 B2 B3 B2' B3' B4 HL1 HM1 HL2 HM2 HL3 HM3 hv hL hM hT hall hb
  go_wp2_with fail
  generalize hS0 : ((L.length : Int) == (M.length : Int)) = s0 at *
  have HS0 := Lib.hid hS0
  clear hS0
  go_loopw [61, 11] (fun i b wr => ∃ k : Nat, k ≤ L.length ∧ i = .int .i64 (k : Int) ∧ b = .bool (s0 && decide (L.take k = M.take k)) ∧ Hid (Below w4.heap.size w4 wr)) (fun i _ _ => L.length - (intOf i).toNat)
  case atStart => exact ⟨0, by omega, rfl, by simp, Lib.hid (Below.refl _ _)⟩
  case round =>
    obtain ⟨k, hk, rfl, rfl, BR⟩ := hrel
    by_cases hlt : k < L.length
    · have hki : (k : Int) < (L.length : Int) := by omega
      have hk0 : (0 : Int) ≤ (k : Int) := by omega
      obtain ⟨b1, o1, rfl, hb1, c1⟩ := (HL4.out.below BR.out) k hlt
      obtain ⟨b3, o3, rfl, hb3, c3⟩ := (HV4.out.below BR.out) k hlt
      generalize hx : L[k] = x at *
      have hST : ∀ W, Below wr.heap.size wr W → Tabs W X kk := fun W hW => (HT4.out.below rfl BR.out).below rfl hW
      have HST := Lib.hid hST
      have hneq : ∀ W, (binOp .neq 30 (.agg (bytesV (sumL X kk x)).toArray) (.agg (bytesV (sumL X kk x)).toArray)).run Tryd.prog W = .ok (.bool false) W := fun W => by
        rw [hash_neq W _ _ (sumL_length _ _ _) (sumL_length _ _ _)]; simp [bne]
      have HSC : Hid (∀ W, Below wr.heap.size wr W → Calls Tryd.prog 12 #[.string ⟨x.toArray⟩] W fun e w' => e = .returned (.agg (bytesV (sumL X kk x)).toArray) ∧ Below W.heap.size W w') := Lib.hid (fun W hW => by simpa using sum_any ⟨x.toArray⟩ X kk W (hST W hW))
      clear hST
      generalize sumL X kk x = S at *
      go_wp2_with fail
      have k0 := cell_regrown c1
      refine wp_region_quiet_below (by kernel_rfl) (by kernel_rfl) ?_
      repeat (go_big_quiet_step ((go_at_call 12; exact Calls.regrown_of (HSC.out _ (below_regrown wr _ _)))))
      refine wpQuiet_nil ?_
      intro W5 hw'
      have hb : Below wr.heap.size wr W5 := by obtain ⟨p, rfl⟩ := hw'; exact below_regrown wr p.d p.os
      clear hw' k0
      have BR5 := Lib.hid (BR.out.trans (hb.mono BR.out.size))
      have c5 := (hb.cell (p := ⟨b1, o1 + k, none⟩) hb1).trans c1
      clear c1 c3 hb HSC HST hb3 hb1 hneq
      by_cases hs : s0 = true ∧ L.take k = M.take k
      · obtain ⟨rfl, hs2⟩ := hs
        have hs3 : L.length = M.length := by
          have := HS0.out
          have h3 : (L.length : Int) = (M.length : Int) := by simpa only [beq_iff_eq] using this
          omega
        have hkM : k < M.length := by omega
        have hs4 : decide (L.take k = M.take k) = true := by simpa using hs2
        rw [hs4]
        obtain ⟨b2, o2, rfl, hb2, c2⟩ := (HM4.out.below BR5.out) k hkM
        have HTK : Hid (decide (L.take (k + 1) = M.take (k + 1)) = (x == M[k])) := by
          refine Lib.hid ?_
          rw [List.take_succ_eq_append_getElem hlt, List.take_succ_eq_append_getElem hkM, hs2, hx, Bool.eq_iff_iff, decide_eq_true_iff, beq_iff_eq]
          exact ⟨fun h => (List.cons.inj (List.append_cancel_left h)).1, fun h => by rw [h]⟩
        have hkMi : (k : Int) < (M.length : Int) := by omega
        generalize M[k] = y at *
        clear hs2 hs3 hs4
        go_wp2_with fail
        go_quiet (fail)
        go_wp2_with fail
        go_roundw
        case rel => exact ⟨k + 1, by omega, by go_num, by rw [HTK.out]; rfl, Lib.hid (below_drewN BR5.out _)⟩
        case measure => simp [intOf]; omega
      · have hsf : (s0 && decide (L.take k = M.take k)) = false := by
          rw [Bool.eq_false_iff]
          intro h
          rw [Bool.and_eq_true, decide_eq_true_iff] at h
          exact hs h
        have hsg : Hid ((s0 && decide (L.take (k + 1) = M.take (k + 1))) = false) := by
          refine Lib.hid ?_
          rw [Bool.eq_false_iff]
          intro h
          rw [Bool.and_eq_true, decide_eq_true_iff] at h
          refine hs ⟨h.1, ?_⟩
          have h2 := congrArg (List.take k) h.2
          rw [List.take_take, List.take_take, Nat.min_eq_left (by omega)] at h2
          exact h2
        rw [hsf]
        clear hsf hs
        go_wp2_with fail
        go_quiet (fail)
        go_wp2_with fail
        go_roundw
        case rel => exact ⟨k + 1, by omega, by go_num, by rw [hsg.out], Lib.hid (below_drewN BR5.out _)⟩
        case measure => simp [intOf]; omega
    · obtain rfl : k = L.length := by omega
      clear hlt hk
      have hse : (s0 && decide (L.take L.length = M.take L.length)) = decide (L = M) := by
        rw [← HS0.out, Bool.eq_iff_iff, Bool.and_eq_true, decide_eq_true_iff, decide_eq_true_iff, beq_iff_eq, List.take_length]
        constructor
        · rintro ⟨h1, h2⟩
          rw [h2]
          exact List.take_of_length_le (by omega)
        · rintro rfl
          exact ⟨rfl, (List.take_length).symm⟩
      rw [hse]
      clear hse
      have BW := Lib.hid (B4'.out.trans (BR.out.mono B4'.out.size))
      rcases summed_cases M with hb2 | ⟨b, hb2, hall2⟩
      · rw [hb2]
        go_wp2_with fail
        go_ret
        exact ⟨rfl, BW.out⟩
      · have hab : (a == b) = decide (L = M) := by
          rw [Bool.eq_iff_iff, decide_eq_true_iff, beq_iff_eq]
          constructor
          · rintro rfl
            have h := HALL.out
            rw [hall2] at h
            exact (Prod.mk.inj h).1.symm
          · rintro rfl
            have h := HB.out
            rw [hb2] at h
            exact (Prod.mk.inj h).1.symm
        rw [hb2]
        generalize decide (L = M) = q0 at *
        go_wp2_with fail
        go_ret
        exact ⟨rfl, BW.out⟩

theorem summed_top (ao : Option Addr) (n cap : Nat) (bo : Option Addr) (n' cap' : Nat) (X kk : Nat → Int) (W : World) (hT : Tabs W X kk) (L M : List (List UInt8)) (hL : StrRow W (.slice ao n cap) L) (hM : StrRow W (.slice bo n' cap') M) :
    Calls Tryd.prog 3 #[.slice ao n cap, .slice bo n' cap'] W fun e w' => e = .returned (.bool true) ∧ Below W.heap.size W w' := by
  obtain ⟨rfl, -⟩ := RowS.of hL
  obtain ⟨rfl, -⟩ := RowS.of hM
  rcases summed_cases L with hb | ⟨a, hb, hall⟩
  · exact summed_bad ao bo cap cap' L M W hL hM hb
  · by_cases ha : (262144 : Int) < (a.length : Int)
    · exact summed_long ao bo cap cap' L M W hL hM a hb ha
    · exact summed_main ao bo cap cap' L M W X kk hT hL hM a hb hall (by omega)
end Top
end Go.Proofs.YtbgjoefpnjgdkaaDoor
