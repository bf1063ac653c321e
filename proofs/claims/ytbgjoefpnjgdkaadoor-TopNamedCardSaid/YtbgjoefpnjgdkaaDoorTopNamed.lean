/- The law TopNamed, by the contracts of what it calls. -/
import Derived.Test.YtbgjoefpnjgdkaaDoorEventParse
import Derived.Test.YtbgjoefpnjgdkaaDoorTopBegins
namespace Go.Proofs.YtbgjoefpnjgdkaaDoor
open Go.RowKit
set_option linter.unusedVariables false
set_option linter.unusedSimpArgs false
set_option maxRecDepth 100000
namespace Named
open Oct
set_option maxHeartbeats 4000000 in
theorem named_long (s : List UInt8) (nonce : Int) (w : World) (hl : (16384 : Int) < (s.length : Int)) :
    Calls Tryd.prog 6 #[.string ⟨s.toArray⟩, .int .i64 nonce] w fun e w' => e = .returned (.bool true) ∧ Below w.heap.size w w' := by
  have hsz : (ByteArray.mk s.toArray).size = s.length := by simp [ByteArray.size]
  go_enter Tryd.func6, Tryd.ntmps6
  go_wp2_with fail
  refine (Top.begins_any _).mono ?_
  rintro e w1 ⟨rfl, B⟩
  go_wp2_with fail
  go_ret
  exact ⟨rfl, B⟩

set_option maxHeartbeats 4000000 in
theorem named_bad (s : List UInt8) (nonce : Int) (w : World) (hl : (s.length : Int) ≤ 16384)
    (HP : Hid (∀ w', Below w.heap.size w w' → Calls Tryd.prog 23 #[.string ⟨s.toArray⟩] w' fun e w'' => e = .returned (.tuple #[.agg #[.string ⟨#[]⟩, .string ⟨#[]⟩, .int .u8 0, .string ⟨#[]⟩, .string ⟨#[]⟩, .int .i64 0], .int .i64 6]) ∧ Below w'.heap.size w' w''))
    (HC : Hid (∀ w', Below w.heap.size w w' → Calls Tryd.prog 24 #[.agg #[.string ⟨#[]⟩, .string ⟨#[]⟩, .int .u8 0, .string ⟨#[]⟩, .string ⟨#[]⟩, .int .i64 0]] w' fun e w'' => e = .returned (.int .i64 2) ∧ Below w'.heap.size w' w'')) :
    Calls Tryd.prog 6 #[.string ⟨s.toArray⟩, .int .i64 nonce] w fun e w' => e = .returned (.bool true) ∧ Below w.heap.size w w' := by
  have hsz : (ByteArray.mk s.toArray).size = s.length := by simp [ByteArray.size]
  go_enter Tryd.func6, Tryd.ntmps6
  go_wp2_with fail
  refine (Top.begins_any _).mono ?_
  rintro e w1 ⟨rfl, B⟩
  go_wp2_with fail
  refine (HP.out _ B).mono ?_
  rintro e w2 ⟨rfl, hb⟩
  have B := B.trans (hb.mono B.size)
  clear hb
  go_wp2_with fail
  have XE := Blk.new w2 #[.string ⟨#[]⟩, .string ⟨#[]⟩, .int .u8 0, .string ⟨#[]⟩, .string ⟨#[]⟩, .int .i64 0] 56
  have B := B.alloc B.size (.cells #[.string ⟨#[]⟩, .string ⟨#[]⟩, .int .u8 0, .string ⟨#[]⟩, .string ⟨#[]⟩, .int .i64 0] 56)
  generalize w2.alloc (.cells #[.string ⟨#[]⟩, .string ⟨#[]⟩, .int .u8 0, .string ⟨#[]⟩, .string ⟨#[]⟩, .int .i64 0] 56) = w3 at *
  refine (HC.out _ B).mono ?_
  rintro e w4 ⟨rfl, hb⟩
  have XE := XE.low hb
  have B := B.trans (hb.mono B.size)
  clear hb
  go_wp2_with fail
  go_ret
  exact ⟨rfl, B⟩

set_option maxHeartbeats 4000000 in
theorem named_ok (s rm sd key body nm nm' t : List UInt8) (kind sv sv' er5 : Nat) (nonce nz : Int) (w : World) (hl : (s.length : Int) ≤ 16384)
    (HP : Hid (∀ w', Below w.heap.size w w' → Calls Tryd.prog 23 #[.string ⟨s.toArray⟩] w' fun e w'' => e = .returned (.tuple #[.agg #[.string ⟨rm.toArray⟩, .string ⟨sd.toArray⟩, .int .u8 (kind : Int), .string ⟨key.toArray⟩, .string ⟨body.toArray⟩, .int .i64 nz], .int .i64 0]) ∧ Below w'.heap.size w' w''))
    (HI1 : Hid (∀ w', Below w.heap.size w w' → Calls Tryd.prog 25 #[.string ⟨rm.toArray⟩] w' fun e w'' => e = .returned (.tuple #[.agg #[.int .u8 2, .string ⟨nm.toArray⟩, .int .i64 (sv : Int)], .int .i64 0]) ∧ Below w'.heap.size w' w''))
    (HI2 : Hid (∀ w', Below w.heap.size w w' → Calls Tryd.prog 25 #[.string ⟨sd.toArray⟩] w' fun e w'' => e = .returned (.tuple #[.agg #[.int .u8 1, .string ⟨nm'.toArray⟩, .int .i64 (sv' : Int)], .int .i64 0]) ∧ Below w'.heap.size w' w''))
    (HT1 : Hid (∀ w', Below w.heap.size w w' → Calls Tryd.prog 26 #[.agg #[.int .u8 2, .string ⟨nm.toArray⟩, .int .i64 (sv : Int)]] w' fun e w'' => e = .returned (.tuple #[.string ⟨rm.toArray⟩, .int .i64 0]) ∧ Below w'.heap.size w' w''))
    (HT2 : Hid (∀ w', Below w.heap.size w w' → Calls Tryd.prog 26 #[.agg #[.int .u8 1, .string ⟨nm'.toArray⟩, .int .i64 (sv' : Int)]] w' fun e w'' => e = .returned (.tuple #[.string ⟨sd.toArray⟩, .int .i64 0]) ∧ Below w'.heap.size w' w''))
    (HU : Hid (∀ w', Below w.heap.size w w' → Calls Tryd.prog 27 #[.string ⟨sd.toArray⟩] w' fun e w'' => e = .returned (.tuple #[.int .i64 (sv' : Int), .bool true]) ∧ Below w'.heap.size w' w''))
    (HB : Hid (∀ w', Below w.heap.size w w' → Calls Tryd.prog 28 #[.agg #[.string ⟨rm.toArray⟩, .string ⟨sd.toArray⟩, .int .u8 (kind : Int), .string ⟨key.toArray⟩, .string ⟨body.toArray⟩, .int .i64 nonce]] w' fun e w'' => e = .returned (.tuple #[.string ⟨t.toArray⟩, .int .i64 (er5 : Int)]) ∧ Below w'.heap.size w' w''))
    (HL : Hid (er5 = 0 → ((t = s) ↔ (nonce = nz)))) :
    Calls Tryd.prog 6 #[.string ⟨s.toArray⟩, .int .i64 nonce] w fun e w' => e = .returned (.bool true) ∧ Below w.heap.size w w' := by
  have hsz : (ByteArray.mk s.toArray).size = s.length := by simp [ByteArray.size]
  go_enter Tryd.func6, Tryd.ntmps6
  go_wp2_with fail
  refine (Top.begins_any _).mono ?_
  rintro e w1 ⟨rfl, B⟩
  go_wp2_with fail
  refine (HP.out _ B).mono ?_
  rintro e w2 ⟨rfl, hb⟩
  have B := B.trans (hb.mono B.size)
  clear hb
  go_wp2_with fail
  have XE := Blk.new w2 #[.string ⟨rm.toArray⟩, .string ⟨sd.toArray⟩, .int .u8 (kind : Int), .string ⟨key.toArray⟩, .string ⟨body.toArray⟩, .int .i64 nz] 56
  have B := B.alloc B.size (.cells #[.string ⟨rm.toArray⟩, .string ⟨sd.toArray⟩, .int .u8 (kind : Int), .string ⟨key.toArray⟩, .string ⟨body.toArray⟩, .int .i64 nz] 56)
  generalize w2.alloc (.cells #[.string ⟨rm.toArray⟩, .string ⟨sd.toArray⟩, .int .u8 (kind : Int), .string ⟨key.toArray⟩, .string ⟨body.toArray⟩, .int .i64 nz] 56) = w3 at *
  refine (HI1.out _ B).mono ?_
  rintro e w4 ⟨rfl, hb⟩
  have XE := XE.low hb
  have B := B.trans (hb.mono B.size)
  clear hb
  have cE0 := XE.cell 0 rfl
  have cE1 := XE.cell 1 rfl
  have cE2 := XE.cell 2 rfl
  have cE3 := XE.cell 3 rfl
  have cE4 := XE.cell 4 rfl
  have cE5 := XE.cell 5 rfl
  have zE := XE.size
  go_wp2_with fail
  clear cE0 cE1 cE2 cE3 cE4 cE5 zE
  have XE := XE.alloc (.cells #[.int .u8 2, .string ⟨nm.toArray⟩, .int .i64 (sv : Int)] 62)
  have XR := Blk.new w4 #[.int .u8 2, .string ⟨nm.toArray⟩, .int .i64 (sv : Int)] 62
  have B := B.alloc B.size (.cells #[.int .u8 2, .string ⟨nm.toArray⟩, .int .i64 (sv : Int)] 62)
  generalize w4.alloc (.cells #[.int .u8 2, .string ⟨nm.toArray⟩, .int .i64 (sv : Int)] 62) = w5 at *
  refine (HI2.out _ B).mono ?_
  rintro e w6 ⟨rfl, hb⟩
  have XE := XE.low hb
  have XR := XR.low hb
  have B := B.trans (hb.mono B.size)
  clear hb
  have cE0 := XE.cell 0 rfl
  have cE1 := XE.cell 1 rfl
  have cE2 := XE.cell 2 rfl
  have cE3 := XE.cell 3 rfl
  have cE4 := XE.cell 4 rfl
  have cE5 := XE.cell 5 rfl
  have zE := XE.size
  have cR0 := XR.cell 0 rfl
  have cR1 := XR.cell 1 rfl
  have cR2 := XR.cell 2 rfl
  have zR := XR.size
  go_wp2_with fail
  clear cE0 cE1 cE2 cE3 cE4 cE5 zE cR0 cR1 cR2 zR
  have XE := XE.alloc (.cells #[.int .u8 1, .string ⟨nm'.toArray⟩, .int .i64 (sv' : Int)] 62)
  have XR := XR.alloc (.cells #[.int .u8 1, .string ⟨nm'.toArray⟩, .int .i64 (sv' : Int)] 62)
  have XU := Blk.new w6 #[.int .u8 1, .string ⟨nm'.toArray⟩, .int .i64 (sv' : Int)] 62
  have B := B.alloc B.size (.cells #[.int .u8 1, .string ⟨nm'.toArray⟩, .int .i64 (sv' : Int)] 62)
  generalize w6.alloc (.cells #[.int .u8 1, .string ⟨nm'.toArray⟩, .int .i64 (sv' : Int)] 62) = w7 at *
  refine (HT1.out _ B).mono ?_
  rintro e w8 ⟨rfl, hb⟩
  have XE := XE.low hb
  have XR := XR.low hb
  have XU := XU.low hb
  have B := B.trans (hb.mono B.size)
  clear hb
  have cE0 := XE.cell 0 rfl
  have cE1 := XE.cell 1 rfl
  have cE2 := XE.cell 2 rfl
  have cE3 := XE.cell 3 rfl
  have cE4 := XE.cell 4 rfl
  have cE5 := XE.cell 5 rfl
  have zE := XE.size
  have cR0 := XR.cell 0 rfl
  have cR1 := XR.cell 1 rfl
  have cR2 := XR.cell 2 rfl
  have zR := XR.size
  have cU0 := XU.cell 0 rfl
  have cU1 := XU.cell 1 rfl
  have cU2 := XU.cell 2 rfl
  have zU := XU.size
  go_wp2_with fail
  clear cE0 cE1 cE2 cE3 cE4 cE5 zE cR0 cR1 cR2 zR cU0 cU1 cU2 zU
  refine (HT2.out _ B).mono ?_
  rintro e w9 ⟨rfl, hb⟩
  have XE := XE.low hb
  have XR := XR.low hb
  have XU := XU.low hb
  have B := B.trans (hb.mono B.size)
  clear hb
  have cE0 := XE.cell 0 rfl
  have cE1 := XE.cell 1 rfl
  have cE2 := XE.cell 2 rfl
  have cE3 := XE.cell 3 rfl
  have cE4 := XE.cell 4 rfl
  have cE5 := XE.cell 5 rfl
  have zE := XE.size
  have cR0 := XR.cell 0 rfl
  have cR1 := XR.cell 1 rfl
  have cR2 := XR.cell 2 rfl
  have zR := XR.size
  have cU0 := XU.cell 0 rfl
  have cU1 := XU.cell 1 rfl
  have cU2 := XU.cell 2 rfl
  have zU := XU.size
  go_wp2_with fail
  clear cE0 cE1 cE2 cE3 cE4 cE5 zE cR0 cR1 cR2 zR cU0 cU1 cU2 zU
  refine (HU.out _ B).mono ?_
  rintro e w10 ⟨rfl, hb⟩
  have XE := XE.low hb
  have XR := XR.low hb
  have XU := XU.low hb
  have B := B.trans (hb.mono B.size)
  clear hb
  have cE0 := XE.cell 0 rfl
  have cE1 := XE.cell 1 rfl
  have cE2 := XE.cell 2 rfl
  have cE3 := XE.cell 3 rfl
  have cE4 := XE.cell 4 rfl
  have cE5 := XE.cell 5 rfl
  have zE := XE.size
  have cR0 := XR.cell 0 rfl
  have cR1 := XR.cell 1 rfl
  have cR2 := XR.cell 2 rfl
  have zR := XR.size
  have cU0 := XU.cell 0 rfl
  have cU1 := XU.cell 1 rfl
  have cU2 := XU.cell 2 rfl
  have zU := XU.size
  go_wp2_with fail
  clear cE0 cE1 cE2 cE3 cE4 cE5 zE cR0 cR1 cR2 zR cU0 cU1 cU2 zU
  have XE := XE.alloc (.cells #[.string ⟨rm.toArray⟩, .string ⟨sd.toArray⟩, .int .u8 (kind : Int), .string ⟨key.toArray⟩, .string ⟨body.toArray⟩, .int .i64 nonce] 56)
  have XR := XR.alloc (.cells #[.string ⟨rm.toArray⟩, .string ⟨sd.toArray⟩, .int .u8 (kind : Int), .string ⟨key.toArray⟩, .string ⟨body.toArray⟩, .int .i64 nonce] 56)
  have XU := XU.alloc (.cells #[.string ⟨rm.toArray⟩, .string ⟨sd.toArray⟩, .int .u8 (kind : Int), .string ⟨key.toArray⟩, .string ⟨body.toArray⟩, .int .i64 nonce] 56)
  have XF := Blk.new w10 #[.string ⟨rm.toArray⟩, .string ⟨sd.toArray⟩, .int .u8 (kind : Int), .string ⟨key.toArray⟩, .string ⟨body.toArray⟩, .int .i64 nonce] 56
  have B := B.alloc B.size (.cells #[.string ⟨rm.toArray⟩, .string ⟨sd.toArray⟩, .int .u8 (kind : Int), .string ⟨key.toArray⟩, .string ⟨body.toArray⟩, .int .i64 nonce] 56)
  generalize w10.alloc (.cells #[.string ⟨rm.toArray⟩, .string ⟨sd.toArray⟩, .int .u8 (kind : Int), .string ⟨key.toArray⟩, .string ⟨body.toArray⟩, .int .i64 nonce] 56) = w11 at *
  refine (HB.out _ B).mono ?_
  rintro e w12 ⟨rfl, hb⟩
  have XE := XE.low hb
  have XR := XR.low hb
  have XU := XU.low hb
  have XF := XF.low hb
  have B := B.trans (hb.mono B.size)
  clear hb
  have cE0 := XE.cell 0 rfl
  have cE1 := XE.cell 1 rfl
  have cE2 := XE.cell 2 rfl
  have cE3 := XE.cell 3 rfl
  have cE4 := XE.cell 4 rfl
  have cE5 := XE.cell 5 rfl
  have zE := XE.size
  have cR0 := XR.cell 0 rfl
  have cR1 := XR.cell 1 rfl
  have cR2 := XR.cell 2 rfl
  have zR := XR.size
  have cU0 := XU.cell 0 rfl
  have cU1 := XU.cell 1 rfl
  have cU2 := XU.cell 2 rfl
  have zU := XU.size
  have cF0 := XF.cell 0 rfl
  have cF1 := XF.cell 1 rfl
  have cF2 := XF.cell 2 rfl
  have cF3 := XF.cell 3 rfl
  have cF4 := XF.cell 4 rfl
  have cF5 := XF.cell 5 rfl
  have zF := XF.size
  by_cases h5 : er5 = 0
  · subst h5
    have hl := HL.out rfl
    clear HL
    by_cases hn : nonce = nz
    · obtain rfl := hl.2 hn
      subst hn
      clear hl
      go_wp2_with fail
      go_ret
      exact ⟨rfl, B⟩
    · have hts : ¬ t = s := fun h => hn (hl.1 h)
      have htd : (t == s) = false := by simpa using hts
      have hnd : (nonce == nz) = false := by simpa using hn
      clear hl hts
      go_wp2_with fail
      go_ret
      exact ⟨rfl, B⟩
  · have h51 : ¬ ((er5 : Int) = 0) := by omega
    have h52 : ((er5 : Int) == 0) = false := by simpa using h51
    clear h5 HL
    go_wp2_with fail
    go_ret
    exact ⟨rfl, B⟩

theorem named_top (t0 : ByteArray) {Q1 : Prop} (_ : Q1) (nonce : Int) {Q2 : Prop} (_ : Q2) (w : World) (hT : Vars w ∧ Words w) :
    Calls Tryd.prog 6 #[.string t0, .int .i64 nonce] w fun e w' => e = .returned (.bool true) ∧ Below w.heap.size w w' := by
  obtain ⟨hV, hW⟩ := hT
  obtain ⟨s, rfl⟩ : ∃ s : List UInt8, t0 = ⟨s.toArray⟩ := ⟨t0.data.toList, by simp⟩
  by_cases hl : s.length ≤ 16384
  · have hs : s.length ≤ maxLen := by unfold maxLen; omega
    have hP := fun w' (hb : Below w.heap.size w w') => eparse_any s hs w' (hV.low hb) (hW.low hb)
    rcases parseE_cases s with h | ⟨h0, hc, hr⟩
    · rw [h] at hP
      refine named_bad s nonce w (by omega) (Lib.hid fun w' hb => hP w' hb) (Lib.hid fun w' hb => ?_)
      have hC := check_any zeroE ⟨Nat.zero_le _, Nat.zero_le _, Nat.zero_le _, Nat.zero_le _⟩ w' (hV.low hb)
      rw [check_zero] at hC
      exact hC
    · rw [h0] at hP
      generalize (parseE s).1 = ev at *
      obtain ⟨rm, sd, kind, key, body, nz⟩ := ev
      have hsh : ∀ t ∈ textsE ⟨rm, sd, kind, key, body, nz⟩, t.length ≤ 8192 := by
        rw [listR] at hr
        split at hr
        · cases hr
        · split at hr
          · cases hr
          · rename_i hn
            intro t ht
            exact Decidable.byContradiction fun h => hn ⟨t, ht, by omega⟩
      have q0 : rm.length ≤ 8192 := hsh rm (by simp [textsE])
      have q1 : sd.length ≤ 8192 := hsh sd (by simp [textsE])
      have q3 : key.length ≤ 8192 := hsh key (by simp [textsE])
      have q4 : body.length ≤ 8192 := hsh body (by simp [textsE])
      obtain ⟨hroom, huser, -⟩ := check_parts hc
      obtain ⟨r1, r2, -⟩ := ofI_ok hroom
      obtain ⟨u1, u2, u3⟩ := ofI_ok huser
      change (parseI rm).2 = 0 at r1
      change (parseI rm).1.1 = 2 at r2
      change (parseI sd).2 = 0 at u1
      change (parseI sd).1.1 = 1 at u2
      change (ofI sd 1).1 = (parseI sd).1.2.2 at u3
      change (ofI sd 1).2 = true at huser
      have r3 := parseI_ok r1
      have u4 := parseI_ok u1
      rw [r2] at r3
      rw [u2] at u4
      have hI1 := fun w' (hb : Below w.heap.size w w') => parse_any rm (by omega) w' (hV.low hb)
      have hI2 := fun w' (hb : Below w.heap.size w w') => parse_any sd (by omega) w' (hV.low hb)
      have hU := fun w' (hb : Below w.heap.size w w') => user_any sd (by omega) w' (hV.low hb)
      rw [r1, r2] at hI1
      rw [u1, u2] at hI2
      rw [u3, huser] at hU
      have hn16 : ∀ k nm sv x, textI k nm sv = (x, 0) → nm.length ≤ maxLen := by
        intro k nm sv x h
        rw [textI] at h
        split at h
        · rename_i hok
          have hb := hok.2.1
          rw [nameB, Bool.and_eq_true, decide_eq_true_eq] at hb
          unfold maxLen
          omega
        · cases h
      obtain ⟨nm, hnm⟩ : ∃ x, (parseI rm).1.2.1 = x := ⟨_, rfl⟩
      obtain ⟨sv, hsv⟩ : ∃ x, (parseI rm).1.2.2 = x := ⟨_, rfl⟩
      obtain ⟨nm', hnm'⟩ : ∃ x, (parseI sd).1.2.1 = x := ⟨_, rfl⟩
      obtain ⟨sv', hsv'⟩ : ∃ x, (parseI sd).1.2.2 = x := ⟨_, rfl⟩
      rw [hnm, hsv] at r3 hI1
      rw [hnm', hsv'] at u4 hI2
      rw [hsv'] at hU
      refine named_ok s rm sd key body nm nm' (bytesE ⟨rm, sd, kind, key, body, nonce⟩).1 kind sv sv' (bytesE ⟨rm, sd, kind, key, body, nonce⟩).2 nonce nz w (by omega) (Lib.hid fun w' hb => hP w' hb) (Lib.hid fun w' hb => hI1 w' hb) (Lib.hid fun w' hb => hI2 w' hb)
        (Lib.hid fun w' hb => ?_) (Lib.hid fun w' hb => ?_) (Lib.hid fun w' hb => hU w' hb) (Lib.hid fun w' hb => bytes_any ⟨rm, sd, kind, key, body, nonce⟩ ⟨by show rm.length ≤ _; omega, by show sd.length ≤ _; omega, by show key.length ≤ _; omega, by show body.length ≤ _; omega⟩ w' (hV.low hb) (hW.low hb)) (Lib.hid fun h5 => ?_)
      · have h := itext_any 2 nm (sv : Int) (hn16 _ _ _ _ r3) w' (hV.low hb)
        rw [r3] at h
        exact h
      · have h := itext_any 1 nm' (sv' : Int) (hn16 _ _ _ _ u4) w' (hV.low hb)
        rw [u4] at h
        exact h
      · exact other_bytes ⟨rm, sd, kind, key, body, nz⟩ s _ nonce hc hr (Prod.ext rfl h5)
  · exact named_long s nonce w (by omega)

end Named
end Go.Proofs.YtbgjoefpnjgdkaaDoor
