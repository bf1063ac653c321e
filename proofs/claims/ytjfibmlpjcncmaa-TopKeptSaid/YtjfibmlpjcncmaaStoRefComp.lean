/- The walks of the document's Compact and Same of chapter 10. -/
import Derived.Test.YtjfibmlpjcncmaaStoComp
namespace Go.Proofs.Ytjfibmlpjcncmaa
open Go.RowKit
set_option linter.unusedVariables false
set_option linter.unusedSimpArgs false
set_option maxRecDepth 4000
namespace Sto
open Oct Crc Disk Jrn

theorem comp_ok (l : List UInt8) (S R : Int) (hr : rightB ⟨l.toArray⟩ S R = true) (es : List (List UInt8)) (c : Nat) (hl : loadR l = (es, c, 0)) :
    compR ⟨l.toArray⟩ S R = ⟨⟨(anewL es c).toArray⟩, ((anewL es c).length : Int), R, 0⟩ := by
  have h := (loadR_spec l es c hl).1
  have hR := (right_iff _ _ _).1 hr
  have hsz : (⟨l.toArray⟩ : ByteArray).size = l.length := by simp [ByteArray.size]
  have hsz2 : (⟨(anewL es c).toArray⟩ : ByteArray).size = (anewL es c).length := by simp [ByteArray.size]
  unfold Right at hR
  rw [hsz] at hR
  rw [compR, if_pos hr]
  dsimp only
  rw [hl]
  dsimp only
  rw [if_neg (by simp), swapR, if_pos hr, hsz2, if_pos (by omega)]

set_option maxHeartbeats 1000000 in
theorem same10_any (va vb : Value) (la lb : List (List UInt8)) (a b : Int) (w : World) (ha : StrRow w va la) (hb : StrRow w vb lb) (h : (la.length : Int) ≤ 2097152) :
    Calls Try.prog 54 #[.agg #[va, .int .i64 a], .agg #[vb, .int .i64 b]] w fun e w' => e = .returned (.bool (decide (a = b) && decide (la = lb))) ∧ Below w.heap.size w w' := by
  obtain ⟨pa, ca, rfl⟩ := ha.form
  obtain ⟨pb, cb, rfl⟩ := hb.form
  have hA : Below w.heap.size w ((w.alloc (.cells #[.slice pa la.length ca, .int .i64 a] 61)).alloc (.cells #[.slice pb lb.length cb, .int .i64 b] 61)) := ((Below.refl _ _).alloc (Nat.le_refl _) _).alloc (by simp) _
  have ha' := ha.below rfl hA
  have hb' := hb.below rfl hA
  have HA := Lib.hid ha'
  have HB := Lib.hid hb'
  have HW := Lib.hid hA
  clear ha hb ha' hb' hA
  by_cases hab : a = b
  · have hd : decide (a = b) = true := by simpa using hab
    rw [hd]
    subst hab
    have hq : (a == a) = true := by simp
    go_enter Try.func54, Try.ntmps54
    go_wp2_with fail
    refine (same_big (.slice pa la.length ca) (.slice pb lb.length cb) la lb _ HA.out HB.out h).mono ?_
    rintro e w1 ⟨rfl, hb⟩
    go_wp2_with fail
    go_ret
    exact ⟨by simp, HW.out.trans (hb.mono (by simp; omega))⟩
  · have hd : decide (a = b) = false := by simpa using hab
    rw [hd]
    have hq : (a == b) = false := by simpa using hab
    go_enter Try.func54, Try.ntmps54
    go_wp2_with fail
    go_ret
    exact ⟨rfl, HW.out⟩

set_option maxHeartbeats 4000000 in
theorem refCompact_any (D : ByteArray) (S R : Int) (hD : (D.size : Int) ≤ 2097152) (w : World) :
    Calls Try.prog 49 #[.agg #[.string D, .int .i64 S, .int .i64 R]] w fun e w' => e = .returned (.tuple #[.agg #[.string (compR D S R).d, .int .i64 (compR D S R).s, .int .i64 (compR D S R).r], .int .i64 (compR D S R).e]) ∧ Below w.heap.size w w' := by
  have c1 := fun w => refMend_any D S R hD w
  by_cases hr : rightB D S R = true
  · obtain ⟨l, rfl, hl⟩ := Jrn.bytes_of D
    have hll : (l.length : Int) ≤ 2097152 := by rw [hl]; exact hD
    have c2 := fun w => refLoad_any l hll w
    have hco := comp_ok l S R hr
    have hce : (loadR l).2.2 ≠ 0 → compR ⟨l.toArray⟩ S R = ⟨⟨l.toArray⟩, S, R, (loadR l).2.2⟩ := fun h => by rw [compR, if_pos hr, if_pos h]
    have hln := loadR_length l
    have hsp := loadR_spec l
    have hm := mend_ok l S R hr
    have hme : (mendR ⟨l.toArray⟩ S R).e = 0 := by rw [hm]
    generalize mendR ⟨l.toArray⟩ S R = m at *
    rw [hme] at c1
    generalize loadR l = q at *
    obtain ⟨es, c, er⟩ := q
    dsimp only at c2 hln hce
    have hes : es.length ≤ 500000 := by omega
    have HES := Lib.hid hes
    by_cases he : er = 0
    · subst he
      rw [hco es c rfl]
      have hc := (hsp es c rfl).2.2.1
      clear hl hll hD hln hes hr hm hco hce hsp hme
      by_cases h0 : 0 < c
      · have h0i : (0 : Int) < (c : Int) := by omega
        have cN := fun w => refCount_any (c : Int) w
        have cB := fun w => refBytes_any (cntR (c : Int)).1 w
        have hyl := bytesR_length (cntR (c : Int)).1
        have hcB : Hid (cntB c = (bytesR (cntR (c : Int)).1).1) := Lib.hid (by rw [cntB, if_pos h0])
        generalize bytesR (cntR (c : Int)).1 = y at *
        generalize cntR (c : Int) = x at *
        have hyi : (y.1.length : Int) ≤ 8207 := by omega
        have happ0 := ba_app [] y.1
        rw [List.nil_append] at happ0
        clear hyl
        go_enter Try.func49, Try.ntmps49
        go_wp2_with fail
        refine (c1 _).mono ?_
        rintro e w1 ⟨rfl, hb⟩
        have T := (Two.made w _ _ _ _ _ _ _ _).below hb
        have B : Below w.heap.size w w1 := (((Below.refl _ _).alloc (Nat.le_refl _) _).alloc (by simp) _).trans (hb.mono (by simp <;> omega))
        have TT := T
        obtain ⟨hz, a0, a1, a2, b0, b1, b2, fa0, fa1, fa2, fb0, fb1, fb2⟩ := T
        have TA := TT.below (low_al w1 (.cells #[.string m.d, .int .i64 m.s, .int .i64 m.r] 47))
        obtain ⟨pz, p0, p1, p2, p3, p4, p5, r0, r1, r2, r3, r4, r5⟩ := TA
        clear hb c1
        go_wp2_with fail
        refine (c2 _).mono ?_
        rintro e w2 ⟨v, rfl, o, hb⟩
        clear pz p0 p1 p2 p3 p4 p5 r0 r1 r2 r3 r4 r5
        have hbb := (low_al w1 (.cells #[.string m.d, .int .i64 m.s, .int .i64 m.r] 47)).trans (hb.mono (by simp))
        have T := TT.below hbb
        replace B := B.trans (hbb.mono B.size)
        obtain ⟨pv, cv, rfl⟩ := own_of o
        have RV := o.row
        clear hz a0 a1 a2 b0 b1 b2 fa0 fa1 fa2 fb0 fb1 fb2 hb hbb TT c2 o
        have hA := low_al w2 (.cells #[.slice pv es.length cv, .int .i64 (c : Int)] 61)
        have T2 := T.below hA
        have TT2 := Lib.hid T2
        have RV2 := Lib.hid (RV.below rfl hA)
        have B2 := Lib.hid (B.trans (hA.mono B.size))
        obtain ⟨hz, a0, a1, a2, b0, b1, b2, fa0, fa1, fa2, fb0, fb1, fb2⟩ := T
        obtain ⟨yz, c0, c1, c2, d0, d1, d2, ga0, ga1, ga2, gb0, gb1, gb2⟩ := T2
        have hBz := B.size
        clear RV hA
        go_wp2_with fail
        refine (cN _).mono ?_
        rintro e w3 ⟨rfl, hb⟩
        have T3 := TT2.out.below hb
        have R3 := RV2.out.below rfl hb
        have B3 := B2.out.trans (hb.mono B2.out.size)
        have s0 := Pair.made w2 (.slice pv es.length cv) (.int .i64 (c : Int)) 61
        have S3 := s0.below' hb
        clear hb cN TT2 RV2 B2 hz a0 a1 a2 b0 b1 b2 fa0 fa1 fa2 fb0 fb1 fb2 yz c0 c1 c2 d0 d1 d2 ga0 ga1 ga2 gb0 gb1 gb2 s0
        go_wp2_with fail
        refine (cB _).mono ?_
        rintro e w4 ⟨rfl, hb⟩
        have TL := T3.below hb
        have RL := R3.below rfl hb
        have BL := B3.trans (hb.mono B3.size)
        have S4 := S3.below' hb
        clear hb cB T3 R3 B3 S3
        obtain ⟨kz, ka, kb, kf, kg⟩ := S4
        go_wp2_with fail
        go_loopw [8, 58] (fun a i wr => ∃ j : Nat, j ≤ es.length ∧ i = .int .i64 (j : Int) ∧ a = .string ⟨(cntB c ++ (es.take j).flatMap entB).toArray⟩ ∧ Two w.heap.size wr (.string ⟨l.toArray⟩) (.int .i64 S) (.int .i64 R) (.string ⟨#[]⟩) (.int .i64 0) (.int .i64 0) ∧ StrRow wr (.slice pv es.length cv) es ∧ Below w.heap.size w wr) (fun _ i _ => es.length - (intOf i).toNat)
        case atStart => exact ⟨0, by omega, rfl, (by rw [List.take_zero, List.flatMap_nil, List.append_nil, hcB.out]), TL, RL, BL⟩
        case round =>
          obtain ⟨j, hj, rfl, rfl, hT, hR, hB⟩ := hrel
          clear TL RL BL
          by_cases hlt : j < es.length
          · have hlti : (j : Int) < (es.length : Int) := by omega
            have hji : (j : Int) ≤ 500000 := by have := HES.out; omega
            obtain ⟨e, he⟩ : ∃ e, es[j] = e := ⟨_, rfl⟩
            have HR := Lib.hid hR
            rcases hR with ⟨_, _, _, h0⟩ | ⟨b0, o0, cap0, hv, h2, h3⟩
            · rw [h0] at hlt; simp at hlt
            · injection hv with e1 e2 e3
              subst e1
              subst e3
              have hcell : wr.cell? ⟨b0, o0 + j, none⟩ = some (.string ⟨e.toArray⟩) := by rw [← he, ← h3 j hlt]
              have HT := Lib.hid (take_flat es j hlt he)
              have k1 := fun w => refEntry_any e w
              have k2 := fun w => refBytes_any (entR e).1 w
              have hE : Hid (entB e = (bytesR (entR e).1).1) := Lib.hid rfl
              have hEl := bytesR_length (entR e).1
              have hfl := flatB_length (es.take j)
              rw [List.length_take] at hfl
              have hcl := cntB_length c
              generalize bytesR (entR e).1 = y2 at *
              generalize entR e = x2 at *
              have hacc : ((cntB c ++ (es.take j).flatMap entB).length : Int) ≤ 4200000000 := by
                have := HES.out
                rw [List.length_append]; omega
              have hy2 : (y2.1.length : Int) ≤ 8207 := by omega
              have happ := ba_app (cntB c ++ (es.take j).flatMap entB) y2.1
              have HJ := Lib.hid (And.intro hj hlt)
              have HTT := Lib.hid hT
              have HB := Lib.hid hB
              obtain ⟨X, hX⟩ : ∃ X, cntB c ++ (es.take j).flatMap entB = X := ⟨_, rfl⟩
              have HX := Lib.hid hX
              rw [hX] at hacc happ ⊢
              clear hEl hfl hcl h3 he hj hlt hT hB hX
              go_wp2_with fail
              refine (k1 _).mono ?_
              rintro e' w3 ⟨rfl, hb⟩
              have T3 := HTT.out.below hb
              have R3 := HR.out.below rfl hb
              have B3 := HB.out.trans (hb.mono HB.out.size)
              clear k1 hb HTT HR HB
              go_wp2_with fail
              refine (k2 _).mono ?_
              rintro e' w4 ⟨rfl, hb⟩
              have T4 := Lib.hid (T3.below hb)
              have R4 := Lib.hid (R3.below rfl hb)
              have B4 := Lib.hid (B3.trans (hb.mono B3.size))
              clear k2 hb T3 R3 B3
              go_wp2_with fail
              all_goals go_roundw
              case rel => exact ⟨j + 1, by have := HJ.out; omega, by go_num, by rw [HT.out, hE.out, ← List.append_assoc, HX.out], T4.out, R4.out, B4.out⟩
              case measure => have := HJ.out; simp [intOf]; omega
          · have hj' : j = es.length := by omega
            subst hj'
            have hal : ((anewL es c).length : Int) ≤ 4200000000 := by
              have h1 := flatB_length es
              have h2 := cntB_length c
              have := HES.out
              rw [anewL, List.length_append]; omega
            have hx : cntB c ++ (es.take es.length).flatMap entB = anewL es c := by rw [List.take_length]; rfl
            rw [hx]
            clear hx hR
            obtain ⟨hz, a0, a1, a2, b0, b1, b2, fa0, fa1, fa2, fb0, fb1, fb2⟩ := hT
            go_wp2_with fail
            exact bodyPost_ret (v := .tuple #[.agg #[.string ⟨(anewL es c).toArray⟩, .int .i64 ((anewL es c).length : Int), .int .i64 R], .int .i64 0]) (by simp [results, Try.results49, go_sem, *]) rfl ⟨rfl, by repeat' (first | (with_reducible exact hB) | (with_reducible refine Below.setCell ?_ ?_ _) | (with_reducible refine Below.alloc ?_ ?_ _) | (with_reducible refine Below.drew ?_) | (simp; done) | (simp; omega) | omega)⟩
      · have h0i : ¬ (0 : Int) < (c : Int) := by omega
        go_enter Try.func49, Try.ntmps49
        go_wp2_with fail
        refine (c1 _).mono ?_
        rintro e w1 ⟨rfl, hb⟩
        have T := (Two.made w _ _ _ _ _ _ _ _).below hb
        have B : Below w.heap.size w w1 := (((Below.refl _ _).alloc (Nat.le_refl _) _).alloc (by simp) _).trans (hb.mono (by simp <;> omega))
        have TT := T
        obtain ⟨hz, a0, a1, a2, b0, b1, b2, fa0, fa1, fa2, fb0, fb1, fb2⟩ := T
        have TA := TT.below (low_al w1 (.cells #[.string m.d, .int .i64 m.s, .int .i64 m.r] 47))
        obtain ⟨pz, p0, p1, p2, p3, p4, p5, r0, r1, r2, r3, r4, r5⟩ := TA
        clear hb c1
        go_wp2_with fail
        refine (c2 _).mono ?_
        rintro e w2 ⟨v, rfl, o, hb⟩
        clear pz p0 p1 p2 p3 p4 p5 r0 r1 r2 r3 r4 r5
        have hbb := (low_al w1 (.cells #[.string m.d, .int .i64 m.s, .int .i64 m.r] 47)).trans (hb.mono (by simp))
        have T := TT.below hbb
        replace B := B.trans (hbb.mono B.size)
        obtain ⟨pv, cv, rfl⟩ := own_of o
        have RV := o.row
        clear hz a0 a1 a2 b0 b1 b2 fa0 fa1 fa2 fb0 fb1 fb2 hb hbb TT c2 o
        have hA := low_al w2 (.cells #[.slice pv es.length cv, .int .i64 (c : Int)] 61)
        have T2 := T.below hA
        have TT2 := Lib.hid T2
        have RV2 := Lib.hid (RV.below rfl hA)
        have B2 := Lib.hid (B.trans (hA.mono B.size))
        obtain ⟨hz, a0, a1, a2, b0, b1, b2, fa0, fa1, fa2, fb0, fb1, fb2⟩ := T
        obtain ⟨yz, c0, c1, c2, d0, d1, d2, ga0, ga1, ga2, gb0, gb1, gb2⟩ := T2
        have hBz := B.size
        clear RV hA
        have TL := TT2.out
        have RL := RV2.out
        have BL := B2.out
        go_wp2_with fail
        clear TT2 RV2 B2 hz a0 a1 a2 b0 b1 b2 fa0 fa1 fa2 fb0 fb1 fb2 yz c0 c1 c2 d0 d1 d2 ga0 ga1 ga2 gb0 gb1 gb2
        go_loopw [8, 58] (fun a i wr => ∃ j : Nat, j ≤ es.length ∧ i = .int .i64 (j : Int) ∧ a = .string ⟨(cntB c ++ (es.take j).flatMap entB).toArray⟩ ∧ Two w.heap.size wr (.string ⟨l.toArray⟩) (.int .i64 S) (.int .i64 R) (.string ⟨#[]⟩) (.int .i64 0) (.int .i64 0) ∧ StrRow wr (.slice pv es.length cv) es ∧ Below w.heap.size w wr) (fun _ i _ => es.length - (intOf i).toNat)
        case atStart => exact ⟨0, by omega, rfl, (by rw [List.take_zero, List.flatMap_nil, List.append_nil, cntB, if_neg h0]), TL, RL, BL⟩
        case round =>
          obtain ⟨j, hj, rfl, rfl, hT, hR, hB⟩ := hrel
          clear TL RL BL
          by_cases hlt : j < es.length
          · have hlti : (j : Int) < (es.length : Int) := by omega
            have hji : (j : Int) ≤ 500000 := by have := HES.out; omega
            obtain ⟨e, he⟩ : ∃ e, es[j] = e := ⟨_, rfl⟩
            have HR := Lib.hid hR
            rcases hR with ⟨_, _, _, h0⟩ | ⟨b0, o0, cap0, hv, h2, h3⟩
            · rw [h0] at hlt; simp at hlt
            · injection hv with e1 e2 e3
              subst e1
              subst e3
              have hcell : wr.cell? ⟨b0, o0 + j, none⟩ = some (.string ⟨e.toArray⟩) := by rw [← he, ← h3 j hlt]
              have HT := Lib.hid (take_flat es j hlt he)
              have k1 := fun w => refEntry_any e w
              have k2 := fun w => refBytes_any (entR e).1 w
              have hE : Hid (entB e = (bytesR (entR e).1).1) := Lib.hid rfl
              have hEl := bytesR_length (entR e).1
              have hfl := flatB_length (es.take j)
              rw [List.length_take] at hfl
              have hcl := cntB_length c
              generalize bytesR (entR e).1 = y2 at *
              generalize entR e = x2 at *
              have hacc : ((cntB c ++ (es.take j).flatMap entB).length : Int) ≤ 4200000000 := by
                have := HES.out
                rw [List.length_append]; omega
              have hy2 : (y2.1.length : Int) ≤ 8207 := by omega
              have happ := ba_app (cntB c ++ (es.take j).flatMap entB) y2.1
              have HJ := Lib.hid (And.intro hj hlt)
              have HTT := Lib.hid hT
              have HB := Lib.hid hB
              obtain ⟨X, hX⟩ : ∃ X, cntB c ++ (es.take j).flatMap entB = X := ⟨_, rfl⟩
              have HX := Lib.hid hX
              rw [hX] at hacc happ ⊢
              clear hEl hfl hcl h3 he hj hlt hT hB hX
              go_wp2_with fail
              refine (k1 _).mono ?_
              rintro e' w3 ⟨rfl, hb⟩
              have T3 := HTT.out.below hb
              have R3 := HR.out.below rfl hb
              have B3 := HB.out.trans (hb.mono HB.out.size)
              clear k1 hb HTT HR HB
              go_wp2_with fail
              refine (k2 _).mono ?_
              rintro e' w4 ⟨rfl, hb⟩
              have T4 := Lib.hid (T3.below hb)
              have R4 := Lib.hid (R3.below rfl hb)
              have B4 := Lib.hid (B3.trans (hb.mono B3.size))
              clear k2 hb T3 R3 B3
              go_wp2_with fail
              all_goals go_roundw
              case rel => exact ⟨j + 1, by have := HJ.out; omega, by go_num, by rw [HT.out, hE.out, ← List.append_assoc, HX.out], T4.out, R4.out, B4.out⟩
              case measure => have := HJ.out; simp [intOf]; omega
          · have hj' : j = es.length := by omega
            subst hj'
            have hal : ((anewL es c).length : Int) ≤ 4200000000 := by
              have h1 := flatB_length es
              have h2 := cntB_length c
              have := HES.out
              rw [anewL, List.length_append]; omega
            have hx : cntB c ++ (es.take es.length).flatMap entB = anewL es c := by rw [List.take_length]; rfl
            rw [hx]
            clear hx hR
            obtain ⟨hz, a0, a1, a2, b0, b1, b2, fa0, fa1, fa2, fb0, fb1, fb2⟩ := hT
            go_wp2_with fail
            exact bodyPost_ret (v := .tuple #[.agg #[.string ⟨(anewL es c).toArray⟩, .int .i64 ((anewL es c).length : Int), .int .i64 R], .int .i64 0]) (by simp [results, Try.results49, go_sem, *]) rfl ⟨rfl, by repeat' (first | (with_reducible exact hB) | (with_reducible refine Below.setCell ?_ ?_ _) | (with_reducible refine Below.alloc ?_ ?_ _) | (with_reducible refine Below.drew ?_) | (simp; done) | (simp; omega) | omega)⟩
    · rw [hce he]
      have hei : ¬ (er : Int) = 0 := by omega
      clear hl hll hD hln hes hr hm hco hce hsp hme he
      go_enter Try.func49, Try.ntmps49
      go_wp2_with fail
      refine (c1 _).mono ?_
      rintro e w1 ⟨rfl, hb⟩
      have T := (Two.made w _ _ _ _ _ _ _ _).below hb
      have B : Below w.heap.size w w1 := (((Below.refl _ _).alloc (Nat.le_refl _) _).alloc (by simp) _).trans (hb.mono (by simp <;> omega))
      have TT := T
      obtain ⟨hz, a0, a1, a2, b0, b1, b2, fa0, fa1, fa2, fb0, fb1, fb2⟩ := T
      have TA := TT.below (low_al w1 (.cells #[.string m.d, .int .i64 m.s, .int .i64 m.r] 47))
      obtain ⟨pz, p0, p1, p2, p3, p4, p5, r0, r1, r2, r3, r4, r5⟩ := TA
      clear hb c1
      go_wp2_with fail
      refine (c2 _).mono ?_
      rintro e w2 ⟨v, rfl, o, hb⟩
      clear pz p0 p1 p2 p3 p4 p5 r0 r1 r2 r3 r4 r5
      have hbb := (low_al w1 (.cells #[.string m.d, .int .i64 m.s, .int .i64 m.r] 47)).trans (hb.mono (by simp))
      have T := TT.below hbb
      replace B := B.trans (hbb.mono B.size)
      obtain ⟨pv, cv, rfl⟩ := own_of o
      have RV := o.row
      clear hz a0 a1 a2 b0 b1 b2 fa0 fa1 fa2 fb0 fb1 fb2 hb hbb TT c2 o
      have hA := low_al w2 (.cells #[.slice pv es.length cv, .int .i64 (c : Int)] 61)
      have T2 := T.below hA
      have TT2 := Lib.hid T2
      have RV2 := Lib.hid (RV.below rfl hA)
      have B2 := Lib.hid (B.trans (hA.mono B.size))
      obtain ⟨hz, a0, a1, a2, b0, b1, b2, fa0, fa1, fa2, fb0, fb1, fb2⟩ := T
      obtain ⟨yz, c0, c1, c2, d0, d1, d2, ga0, ga1, ga2, gb0, gb1, gb2⟩ := T2
      have hBz := B.size
      clear RV hA
      go_wp2_with fail
      exact bodyPost_ret (v := .tuple #[.agg #[.string ⟨l.toArray⟩, .int .i64 S, .int .i64 R], .int .i64 (er : Int)]) (by simp [results, Try.results49, go_sem, *]) rfl ⟨rfl, by repeat' (first | (with_reducible exact B) | (with_reducible refine Below.setCell ?_ ?_ _) | (with_reducible refine Below.alloc ?_ ?_ _) | (with_reducible refine Below.drew ?_) | (simp; done) | (simp; omega) | omega)⟩
  · rw [compR, if_neg hr]
    rw [mendR, if_neg hr] at c1
    simp only [Disk.zero] at c1 ⊢
    clear hD hr
    go_enter Try.func49, Try.ntmps49
    go_wp2_with fail
    refine (c1 _).mono ?_
    rintro e w1 ⟨rfl, hb⟩
    have T := (Two.made w _ _ _ _ _ _ _ _).below hb
    have B : Below w.heap.size w w1 := (((Below.refl _ _).alloc (Nat.le_refl _) _).alloc (by simp) _).trans (hb.mono (by simp <;> omega))
    obtain ⟨hz, a0, a1, a2, b0, b1, b2, fa0, fa1, fa2, fb0, fb1, fb2⟩ := T
    have hBz := B.size
    clear hb c1
    go_wp2_with fail
    exact bodyPost_ret (v := .tuple #[.agg #[.string ⟨#[]⟩, .int .i64 0, .int .i64 0], .int .i64 2]) (by simp [results, Try.results49, go_sem, *]) rfl ⟨rfl, by repeat' (first | (with_reducible exact B) | (with_reducible refine Below.setCell ?_ ?_ _) | (with_reducible refine Below.alloc ?_ ?_ _) | (with_reducible refine Below.drew ?_) | (simp; done) | (simp; omega) | omega)⟩
end Sto
end Go.Proofs.Ytjfibmlpjcncmaa
