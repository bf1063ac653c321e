/- The walk of TopKept. -/
import Derived.Test.YtjfibmlpjcncmaaTopKeptPlain
import Derived.Test.YtjfibmlpjcncmaaStoKeeps
import Derived.Test.YtjfibmlpjcncmaaTopBegins
import Derived.Deep.RegionHeld3
import Derived.Deep.DeepCutAuto
import Derived.Deep.CutBlock
import Derived.Deep.LoopGhost
import Derived.Deep.AppendLies
import Derived.Outline
namespace Go.Proofs.Ytjfibmlpjcncmaa
open Go.RowKit
set_option linter.unusedVariables false
set_option linter.unusedSimpArgs false
set_option maxRecDepth 100000
namespace Top
open Oct Crc Disk Jrn Sto

/-- what holds at each round's head -/
structure KeepT (n5 : Nat) (w wr : World) (v mo : Value) (rs es : List (List UInt8)) (m : Nat) : Prop where
  one : One n5 wr (.string ⟨(recsB rs).toArray⟩) (.int .i64 0) (.int .i64 1048576)
  row : wr.ownsRow (n5 + 1) 9 1 v es.length (strsV es)
  mst : mo = .int .i64 (m : Int)
  told : Sto.Told rs 0 es m 0 0
  fits : ((recsB rs).length : Int) ≤ 1048576
  low : Below w.heap.size w wr

/-- a slice that came in, element by element -/
def InStr (w : World) (p : Option Addr) (E : List (List UInt8)) : Prop := ∀ j (h : j < E.length), ∃ b o, p = some ⟨b, o, none⟩ ∧ b < w.heap.size ∧ w.cell? ⟨b, o + j, none⟩ = some (.string ⟨(E[j]).toArray⟩)
def InInt (w : World) (p : Option Addr) (C : List Int) : Prop := ∀ j (h : j < C.length), ∃ b o, p = some ⟨b, o, none⟩ ∧ b < w.heap.size ∧ w.cell? ⟨b, o + j, none⟩ = some (.int .i64 C[j])

theorem far3 {w : World} {n b o : Nat} {v x y z : Value} (h : w.cell? ⟨b, o, none⟩ = some v) (hne : b ≠ n) : (((w.setCell ⟨n, 0, none⟩ x).setCell ⟨n, 1, none⟩ y).setCell ⟨n, 2, none⟩ z).cell? ⟨b, o, none⟩ = some v := by
  have k : ∀ (w : World) (i : Nat) (u : Value), (w.setCell ⟨n, i, none⟩ u).cell? ⟨b, o, none⟩ = w.cell? ⟨b, o, none⟩ := fun w i u => World.cell?_setCell_other _ _ _ _ (by intro e; injection e with e1; exact hne e1.symm)
  rw [k, k, k]; exact h

theorem alloc_low {w : World} {o o' : Obj} {b i : Nat} {v : Value} (h : (w.alloc o).cell? ⟨b, i, none⟩ = some v) (hb : b < w.heap.size) : (w.alloc o').cell? ⟨b, i, none⟩ = some v := by
  rw [World.cell?_alloc_lt _ _ _ hb] at h ⊢; exact h

theorem one_news {W : World} {H : Nat} {v : Value} (h : W.cell? ⟨H, 0, none⟩ = some v) : ∀ j u, [v][j]? = some u → W.cell? ((⟨H, 0, none⟩ : Addr).add j) = some u := by
  intro j u hj
  match j, hj with
  | 0, hj => simp at hj; subst hj; simpa [Addr.add] using h
  | j + 1, hj => simp at hj

set_option maxHeartbeats 16000000 in
theorem topkept_walk (p q : Option Addr) (ce cc : Nat) (E : List (List UInt8)) (C : List Int) (T : List UInt8) (keep : Int) (bits : UInt8) (hE : E.length ≤ 20) (hC : C.length ≤ 20) (hT : (T.length : Int) ≤ 16384) (w : World) (hEr : InStr w p E) (hCr : InInt w q C) :
    Calls Try.prog 14 #[.slice p E.length ce, .slice q C.length cc, .string ⟨T.toArray⟩, .int .i64 keep, .int .u8 (bits.toNat : Int)] w fun e w' => e = .returned (.bool true) ∧ Below w.heap.size w w' := by
  obtain ⟨i0, hi, hz0, hz1, hz2⟩ := info_parts info_str
  have hEi : (E.length : Int) ≤ 20 := by omega
  have hCi : (C.length : Int) ≤ 20 := by omega
  have HT := Lib.hid hT
  have hd1 : decide ((20 : Int) < (E.length : Int)) = false := by simp; omega
  have hd2 : decide ((20 : Int) < (C.length : Int)) = false := by simp; omega
  have hd3 : decide ((16384 : Int) < (T.length : Int)) = false := by simp; omega
  have HE := Lib.hid hEr
  have HC := Lib.hid hCr
  clear hEr hCr hT
  go_enter Try.func14, Try.ntmps14
  go_wp2_with fail
  refine (begins_any _).mono ?_
  rintro e w1 ⟨rfl, B⟩
  go_wp2_with fail
  refine (new_ok 1048576 ⟨by omega, by omega⟩ _).mono ?_
  rintro e w2 ⟨rfl, hb⟩
  have T2 := One.made w2 (.string ⟨#[]⟩) (.int .i64 0) (.int .i64 1048576) 47
  have B2 : Below w.heap.size w (w2.alloc (.cells #[.string ⟨#[]⟩, .int .i64 0, .int .i64 1048576] 47)) := (B.trans (hb.mono B.size)).alloc (by have := B.size; have := hb.size; omega) _
  have hz2' : w.heap.size ≤ w2.heap.size := by have := B.size; have := hb.size; omega
  clear hb B
  go_wp2_with fail
  obtain ⟨n5, hn⟩ : ∃ x, x = w2.heap.size := ⟨_, rfl⟩
  rw [← hn] at T2 ⊢
  have hz5 : w.heap.size ≤ n5 := by omega
  clear hn hz2'
  generalize w2.alloc (.cells #[.string ⟨#[]⟩, .int .i64 0, .int .i64 1048576] 47) = w3 at *
  go_loopg [13, 14, 62] (max E.length C.length) (fun g v mo i wr => ∃ (j : Nat) (rs es : List (List UInt8)) (m : Nat), j ≤ max E.length C.length ∧ g = max E.length C.length - j ∧ i = .int .i64 (j : Int) ∧ KeepT n5 w wr v mo rs es m)
  case atStart => exact ⟨0, [], [], 0, by omega, by omega, rfl, ⟨T2, World.ownsRow_nil _ _ _ _, rfl, Told.nil, by simp [recsB], B2⟩⟩
  case round =>
    obtain ⟨j, rs, es, m, hj, hg, rfl, hK⟩ := hrel
    clear T2 B2
    by_cases hlt : j < max E.length C.length
    · have hlti : (j : Int) < max (E.length : Int) (C.length : Int) := by omega
      obtain ⟨T5, hrow, rfl, htold, hfit, hlow⟩ := hK
      obtain ⟨pv, cv, rfl⟩ := own_of_row hrow
      have hcnt := recsB_count rs
      have hsz := htold.size
      have hll : (es.length : Int) ≤ 300000 := by omega
      have hn5w := T5.size
      have T5' := Lib.hid T5
      have HR := Lib.hid hrow
      have TD := Lib.hid htold
      have HF := Lib.hid hfit
      have HL := Lib.hid hlow
      clear hrow htold hfit hlow hcnt hsz
      obtain ⟨kz, ka, kb, kc, kf, kg, kh⟩ := T5
      go_upto_if 68 with fail
      go_cut [13, 62] (fun v i wx => ∃ (rs' es' : List (List UInt8)), i = .int .i64 (j : Int) ∧ KeepT n5 w wx v (.int .i64 (m : Int)) rs' es' m)
      case first =>
        by_cases hje : j < E.length
        · obtain ⟨b, o, rfl, hbw, hc⟩ := HE.out j hje
          have x0 := (HL.out.cell (p := ⟨b, o + j, none⟩) hbw).trans hc
          have hbr : b < wr.heap.size := Nat.lt_of_lt_of_le hbw HL.out.size
          have hje' : decide (j < E.length) = true := by simpa using hje
          have hj0 : (0 : Int) ≤ (j : Int) := by omega
          have hj1 : (j : Int) < (E.length : Int) := by omega
          generalize hEj : E[j] = t at *
          have cA := fun w => putEntry_any ⟨(recsB rs).toArray⟩ 0 1048576 t w
          have HW := Lib.hid (ent_ways (recsB rs) 0 1048576 ((right_iff _ _ _).2 (right_of (recsB rs) 0 1048576 (Nat.zero_le _) HF.out (by omega))) t)
          generalize recR ⟨(recsB rs).toArray⟩ 0 1048576 (entR t) = r0 at *
          have hn1 : ¬ n5 = wr.heap.size := by omega
          have hn2 : ¬ wr.heap.size = n5 := by omega
          have hn3 : ¬ b = wr.heap.size := by omega
          have hn4 : ¬ wr.heap.size = b := by omega
          clear hc hEj hje
          go_upto_region 14 with fail
          go_cut [16, 17, 62] (fun s16 s17 i wx => ∃ n16 : Nat, i = .int .i64 (j : Int) ∧ s16 = .pointer (some ⟨n16, 0, none⟩) ∧ s17 = .int .i64 r0.e ∧ n5 < n16 ∧ One n16 wx (.string r0.d) (.int .i64 r0.s) (.int .i64 r0.r) ∧ Below wr.heap.size wr wx ∧ wr.heap.size ≤ n16)
          case first =>
            as_aux_lemma =>
              go_region_held3 (fun w' => w'.cell? ⟨n5, 0, none⟩ = some (.string ⟨(recsB rs).toArray⟩) ∧ w'.cell? ⟨n5, 1, none⟩ = some (.int .i64 0) ∧ w'.cell? ⟨n5, 2, none⟩ = some (.int .i64 1048576) ∧ w'.cell? ⟨b, o + j, none⟩ = some (.string ⟨t.toArray⟩))
                ((go_split_ands; refine ⟨?_, ?_, ?_, ?_⟩ <;> (first | assumption | ((with_reducible refine far3 ?_ (by omega)); assumption) | ((with_reducible refine alloc_low (o := .cells #[.string ⟨#[]⟩, .int .i64 0, .int .i64 0] 47) ?_ ?_); assumption; (have hbz := hb.size; simp at hbz ⊢; omega)) | (rw [hb.cell (by simp <;> omega)]; assumption) | (go_keep; done))))
                ((go_at_call 44; refine (cA _).mono ?_; rintro e w' ⟨rfl, hb⟩; (try (have Z := (One.drew' (One.made wr (.string ⟨#[]⟩) (.int .i64 0) (.int .i64 0) 47)).below' hb; obtain ⟨z0, z1, z2, z3, z4, z5, z6⟩ := Z))))
              all_goals (go_wp2_with fail; go_meet)
              · have B1 : Below wr.heap.size wr w' := (Below.drew (Below.refl _ _)).trans (hb.mono (by simp))
                exact ⟨w'.heap.size, rfl, rfl, rfl, by have := B1.size; omega, One.made w' _ _ _ _, B1.alloc B1.size _, B1.size⟩
              · have B1 : Below wr.heap.size wr w' := ((low_al wr (.cells #[.string ⟨#[]⟩, .int .i64 0, .int .i64 0] 47)).drew).trans (hb.mono (by simp))
                exact ⟨wr.heap.size, rfl, rfl, rfl, by omega, One.stored ⟨z0, z1, z2, z3, z4, z5, z6⟩ _ _ _, ((B1.setCell (p := ⟨wr.heap.size, 0, none⟩) (Nat.le_refl _) _).setCell (p := ⟨wr.heap.size, 1, none⟩) (Nat.le_refl _) _).setCell (p := ⟨wr.heap.size, 2, none⟩) (Nat.le_refl _) _, Nat.le_refl _⟩
          case rest =>
            obtain ⟨n16, rfl, rfl, rfl, hn16, U6, hlow, hn16'⟩ := hcut
            have U5 := T5'.out.below' hlow
            have R4 := Lib.hid (own_kept HR.out hlow)
            have L4 : Hid (Below w.heap.size w wc) := HL.out.trans (hlow.mono HL.out.size)
            have L4s : w.heap.size ≤ wc.heap.size := L4.out.size
            have xc := (hlow.cell (p := ⟨b, o + j, none⟩) hbr).trans x0
            have ne6 : some n16 ≠ (Value.slice pv es.length cv).ownBlock := fun e => by have := (HR.out.lt _ e.symm).2; omega
            have n6h := Lib.hid ne6
            clear x0 kz ka kb kc kf kg kh hlow T5' HR HL ne6 cA hn1 hn2 hn3 hn4
            have U5' := Lib.hid U5
            have U6' := Lib.hid U6
            have hne2 : ¬ n16 = n5 := by omega
            have hne3 : ¬ n5 = n16 := by omega
            have hbn : ¬ b = n5 := by omega
            have hbn' : ¬ n5 = b := by omega
            obtain ⟨kz, ka, kb, kc, kf, kg, kh⟩ := U5
            obtain ⟨lz, la, lb, lc, lf, lg, lh⟩ := U6
            rcases HW.out with ⟨hok, hfit', rfl⟩ | hbad
            · obtain ⟨hk1, hk2⟩ := hok
              have TD' := Lib.hid (TD.out.entry t ⟨hk1, hk2⟩)
              have hfi : ((recsB (rs ++ [(entR t).1])).length : Int) ≤ 1048576 := by rw [recsB_append, List.length_append]; omega
              have FI := Lib.hid hfi
              dsimp only at U6' la lb lc ⊢
              rw [← recsB_append] at U6' la
              generalize (entR t).1 = x at *
              clear hfi hfit' hk1 hk2 HW
              go_wp2_with fail
              as_aux_lemma =>
                have nb : (Value.slice pv es.length cv).ownBlock ≠ some b := fun e => by have := (R4.out.lt _ e).1; omega
                have n16' : (Value.slice pv es.length cv).ownBlock ≠ some n16 := n6h.out.symm
                go_region_held3 (fun w' => w'.cell? ⟨n16, 0, none⟩ = some (.string ⟨(recsB (rs ++ [x])).toArray⟩) ∧ w'.cell? ⟨n16, 1, none⟩ = some (.int .i64 0) ∧ w'.cell? ⟨n16, 2, none⟩ = some (.int .i64 1048576) ∧ w'.cell? ⟨b, o + j, none⟩ = some (.string ⟨t.toArray⟩))
                  ((go_split_ands; refine ⟨?_, ?_, ?_, ?_⟩ <;> (first | assumption | ((with_reducible refine far3 ?_ (by omega)); assumption) | (go_keep; done) | (rw [hgrow.cell_far _ (by simp [World.setCell]; omega) (Ne.symm n16')]; assumption) | (rw [hgrow.cell_far _ (by simp [World.setCell]; omega) (Ne.symm nb)]; assumption))))
                  (first | (refine step_append_lies _ (by rfl) _ _ _ (by rfl) (n5 + 1) 9 i0 (.string ⟨#[]⟩) 1 16 Try.underlying32 hi hz0 hz1 hz2 rfl (by decide) (.slice pv es.length cv) es.length (strsV es) (by rfl) ((R4.out.drew).alloc _) ⟨wc.heap.size, 0, none⟩ 1 1 [.string ⟨t.toArray⟩] (by rfl) (by rfl) (one_news (by simp)) (by simp [Value.oneCell']) (by decide) (by unfold maxLen; omega) (by omega) (by simp [World.setCell]; omega) _ rfl ?_; intro gg cap w6 hown1 hgrow hat hlt; have Z := ((One.drew' U5'.out).below' (low_al _ _)).grown hgrow (low_ne_row R4.out (by omega)); have Z' := Lib.hid Z; obtain ⟨q0, q1, q2, q3, q4, q5, q6⟩ := Z) | (refine step_append_lies _ (by rfl) _ _ _ (by rfl) (n5 + 1) 9 i0 (.string ⟨#[]⟩) 1 16 Try.underlying32 hi hz0 hz1 hz2 rfl (by decide) (.slice pv es.length cv) es.length (strsV es) (by rfl) (((((R4.out.drew).alloc _).kept (grownBy_setC _ n5 0 _) (.inr (low_ne_row R4.out (by omega)).symm)).kept (grownBy_setC _ n5 1 _) (.inr (low_ne_row R4.out (by omega)).symm)).kept (grownBy_setC _ n5 2 _) (.inr (low_ne_row R4.out (by omega)).symm)) ⟨wc.heap.size, 0, none⟩ 1 1 [.string ⟨t.toArray⟩] (by rfl) (by rfl) (one_news (by simp)) (by simp [Value.oneCell']) (by decide) (by unfold maxLen; omega) (by omega) (by simp [World.setCell]; omega) _ rfl ?_; intro gg cap w6 hown1 hgrow hat hlt) | (refine step_append_lies _ (by rfl) _ _ _ (by rfl) (n5 + 1) 9 i0 (.string ⟨#[]⟩) 1 16 Try.underlying32 hi hz0 hz1 hz2 rfl (by decide) (.slice pv es.length cv) es.length (strsV es) (by rfl) (((((R4.out.drew).kept (grownBy_setC _ n5 0 _) (.inr (low_ne_row R4.out (by omega)).symm)).kept (grownBy_setC _ n5 1 _) (.inr (low_ne_row R4.out (by omega)).symm)).kept (grownBy_setC _ n5 2 _) (.inr (low_ne_row R4.out (by omega)).symm)).alloc _) ⟨wc.heap.size, 0, none⟩ 1 1 [.string ⟨t.toArray⟩] (by rfl) (by rfl) (one_news (by simp [World.setCell])) (by simp [Value.oneCell']) (by decide) (by unfold maxLen; omega) (by omega) (by simp [World.setCell]; omega) _ rfl ?_; intro gg cap w6 hown1 hgrow hat hlt))
                go_wp2_with fail
                go_meet
                have BW : Below w.heap.size w (wc.drew.alloc (.cells #[.string ⟨t.toArray⟩] 9)) := (L4.out.drew).alloc (by simpa using L4s) _
                have W6 := BW.grown hgrow BW.size (fun q hq => by have := (R4.out.lt q hq).1; omega)
                have O6 : w6.ownsRow (n5 + 1) 9 1 (.slice (some ⟨gg, 0, none⟩) (es ++ [t]).length cap) (es ++ [t]).length (strsV (es ++ [t])) := by rw [strsV_append, List.length_append]; exact hown1
                have O7 := ((O6.kept (grownBy_setC _ n5 0 (.string ⟨(recsB (rs ++ [x])).toArray⟩)) (.inr (low_ne_row O6 (by omega)).symm)).kept (grownBy_setC _ n5 1 (.int .i64 0)) (.inr (low_ne_row O6 (by omega)).symm)).kept (grownBy_setC _ n5 2 (.int .i64 1048576)) (.inr (low_ne_row O6 (by omega)).symm)
                rw [show (es ++ [t]).length = es.length + 1 by simp] at O7
                exact ⟨rs ++ [x], es ++ [t], rfl, ⟨One.stored Z'.out _ _ _, (by rw [show (es ++ [t]).length = es.length + 1 by simp]; exact O7), rfl, TD'.out, FI.out, ((W6.setCell (p := ⟨n5, 0, none⟩) hz5 _).setCell (p := ⟨n5, 1, none⟩) hz5 _).setCell (p := ⟨n5, 2, none⟩) hz5 _⟩⟩
            · have U5 := U5'.out
              have hR := R4.out
              have hL := L4.out
              rcases hbad with rfl | rfl
              all_goals (go_wp2_with fail; go_meet; exact ⟨rs, es, rfl, ⟨U5, hR, rfl, TD.out, HF.out, hL⟩⟩)
        · have hje' : decide (j < E.length) = false := by simpa using hje
          go_wp2_with fail
          go_meet
          exact ⟨rs, es, rfl, ⟨T5'.out, HR.out, rfl, TD.out, HF.out, HL.out⟩⟩
      case rest =>
        obtain ⟨rs', es', rfl, hK⟩ := hcut
        clear T5' HR TD HF HL kz ka kb kc kf kg kh hn5w hll
        obtain ⟨T5, hrow, -, htold, hfit, hlow⟩ := hK
        obtain ⟨pv', cv', rfl⟩ := own_of_row hrow
        have hsz := htold.size
        have hmm : (m : Int) ≤ 1048576 := by omega
        have hn5w := T5.size
        have T5' := Lib.hid T5
        have HR := Lib.hid hrow
        have TD := Lib.hid htold
        have HF := Lib.hid hfit
        have HL := Lib.hid hlow
        clear hrow htold hfit hlow hsz
        obtain ⟨kz, ka, kb, kc, kf, kg, kh⟩ := T5
        by_cases hjc : j < C.length
        · obtain ⟨b, o, rfl, hbw, hc⟩ := HC.out j hjc
          have x0 := (HL.out.cell (p := ⟨b, o + j, none⟩) hbw).trans hc
          have hbr : b < wc.heap.size := Nat.lt_of_lt_of_le hbw HL.out.size
          have hjc' : decide (j < C.length) = true := by simpa using hjc
          have hj0 : (0 : Int) ≤ (j : Int) := by omega
          have hj1 : (j : Int) < (C.length : Int) := by omega
          generalize hCj : C[j] = n at *
          have cA := fun w => putCount_any ⟨(recsB rs').toArray⟩ 0 1048576 n w
          have HW := Lib.hid (rec_ways (recsB rs') 0 1048576 ((right_iff _ _ _).2 (right_of (recsB rs') 0 1048576 (Nat.zero_le _) HF.out (by omega))) (cntR n))
          generalize recR ⟨(recsB rs').toArray⟩ 0 1048576 (cntR n) = r0 at *
          have hn1 : ¬ n5 = wc.heap.size := by omega
          have hn2 : ¬ wc.heap.size = n5 := by omega
          have hn3 : ¬ b = wc.heap.size := by omega
          have hn4 : ¬ wc.heap.size = b := by omega
          clear hc hCj hjc
          go_upto_region 18 with fail
          go_cut [18, 19, 62] (fun s18 s19 i wx => ∃ n18 : Nat, i = .int .i64 (j : Int) ∧ s18 = .pointer (some ⟨n18, 0, none⟩) ∧ s19 = .int .i64 r0.e ∧ n5 < n18 ∧ One n18 wx (.string r0.d) (.int .i64 r0.s) (.int .i64 r0.r) ∧ Below wc.heap.size wc wx ∧ wc.heap.size ≤ n18)
          case first =>
            as_aux_lemma =>
              go_region_held3 (fun w' => w'.cell? ⟨n5, 0, none⟩ = some (.string ⟨(recsB rs').toArray⟩) ∧ w'.cell? ⟨n5, 1, none⟩ = some (.int .i64 0) ∧ w'.cell? ⟨n5, 2, none⟩ = some (.int .i64 1048576) ∧ w'.cell? ⟨b, o + j, none⟩ = some (.int .i64 n))
                ((go_split_ands; refine ⟨?_, ?_, ?_, ?_⟩ <;> (first | assumption | ((with_reducible refine far3 ?_ (by omega)); assumption) | ((with_reducible refine alloc_low (o := .cells #[.string ⟨#[]⟩, .int .i64 0, .int .i64 0] 47) ?_ ?_); assumption; (have hbz := hb.size; simp at hbz ⊢; omega)) | (rw [hb.cell (by simp <;> omega)]; assumption) | (go_keep; done))))
                ((go_at_call 46; refine (cA _).mono ?_; rintro e w' ⟨rfl, hb⟩; (try (have Z := (One.drew' (One.made wc (.string ⟨#[]⟩) (.int .i64 0) (.int .i64 0) 47)).below' hb; obtain ⟨z0, z1, z2, z3, z4, z5, z6⟩ := Z))))
              all_goals (go_wp2_with fail; go_meet)
              · have B1 : Below wc.heap.size wc w' := (Below.drew (Below.refl _ _)).trans (hb.mono (by simp))
                exact ⟨w'.heap.size, rfl, rfl, rfl, by have := B1.size; omega, One.made w' _ _ _ _, B1.alloc B1.size _, B1.size⟩
              · have B1 : Below wc.heap.size wc w' := ((low_al wc (.cells #[.string ⟨#[]⟩, .int .i64 0, .int .i64 0] 47)).drew).trans (hb.mono (by simp))
                exact ⟨wc.heap.size, rfl, rfl, rfl, by omega, One.stored ⟨z0, z1, z2, z3, z4, z5, z6⟩ _ _ _, ((B1.setCell (p := ⟨wc.heap.size, 0, none⟩) (Nat.le_refl _) _).setCell (p := ⟨wc.heap.size, 1, none⟩) (Nat.le_refl _) _).setCell (p := ⟨wc.heap.size, 2, none⟩) (Nat.le_refl _) _, Nat.le_refl _⟩
          case rest =>
            obtain ⟨n18, rfl, rfl, rfl, hn18, U6, hlow, hn18'⟩ := hcut
            have U5 := T5'.out.below' hlow
            have R4 := Lib.hid (own_kept HR.out hlow)
            have L4 : Hid (Below w.heap.size w wc) := HL.out.trans (hlow.mono HL.out.size)
            have xc := (hlow.cell (p := ⟨b, o + j, none⟩) hbr).trans x0
            clear x0 kz ka kb kc kf kg kh hlow T5' HR HL cA hn1 hn2 hn3 hn4
            have U5' := Lib.hid U5
            have hne2 : ¬ n18 = n5 := by omega
            have hne3 : ¬ n5 = n18 := by omega
            have hbn : ¬ b = n5 := by omega
            have hbn' : ¬ n5 = b := by omega
            have U6' := Lib.hid U6
            obtain ⟨kz, ka, kb, kc, kf, kg, kh⟩ := U5
            obtain ⟨lz, la, lb, lc, lf, lg, lh⟩ := U6
            rcases HW.out with ⟨hk2, hk3, hfit', rfl⟩ | ⟨er, her, rfl⟩
            · obtain ⟨q', rfl, hq⟩ := cnt_range n hk2
              have TD' := Lib.hid (TD.out.count q' hq)
              have hfi : ((recsB (rs' ++ [(cntR (q' : Int)).1])).length : Int) ≤ 1048576 := by rw [recsB_append, List.length_append]; omega
              have FI := Lib.hid hfi
              have HMX := Lib.hid (show ((max m q' : Nat) : Int) = max (m : Int) (q' : Int) by omega)
              dsimp only at U6' la lb lc ⊢
              rw [← recsB_append] at U6' la
              generalize (cntR (q' : Int)).1 = x at *
              clear hfi hfit' hk2 hk3 HW
              go_wp2_with fail
              have hmo : Try.prog.follows .mixedOrders = true := by kernel_rfl
              go_region
              all_goals (
                go_wp2_with fail
                go_roundg (max E.length C.length - (j + 1)))
              case measure => omega
              case rel => exact ⟨j + 1, rs' ++ [x], es', max m q', by omega, rfl, by go_num, ⟨One.drew' (One.stored U5'.out _ _ _), World.ownsRow.drew (((R4.out.kept (grownBy_setC _ n5 0 _) (.inr (low_ne_row R4.out (by omega)).symm)).kept (grownBy_setC _ n5 1 _) (.inr (low_ne_row R4.out (by omega)).symm)).kept (grownBy_setC _ n5 2 _) (.inr (low_ne_row R4.out (by omega)).symm)), by rw [HMX.out], TD'.out, FI.out, Below.drew (((L4.out.setCell (p := ⟨n5, 0, none⟩) hz5 _).setCell (p := ⟨n5, 1, none⟩) hz5 _).setCell (p := ⟨n5, 2, none⟩) hz5 _)⟩⟩
            · have hei : ¬ (er = 0) := her
              have heb : (er == 0) = false := by simpa using her
              have U5 := U5'.out
              dsimp only
              go_wp2_with fail
              go_roundg (max E.length C.length - (j + 1))
              case measure => omega
              case rel => exact ⟨j + 1, rs', es', m, by omega, rfl, by go_num, ⟨U5'.out, R4.out, rfl, TD.out, HF.out, L4.out⟩⟩
        · have hjc' : decide (j < C.length) = false := by simpa using hjc
          go_wp2_with fail
          go_roundg (max E.length C.length - (j + 1))
          case measure => omega
          case rel => exact ⟨j + 1, rs', es', m, by omega, rfl, by go_num, ⟨T5'.out, HR.out, rfl, TD.out, HF.out, HL.out⟩⟩
    · skip
      as_aux_lemma =>
        have hji : ¬ ((j : Int) < max (E.length : Int) (C.length : Int)) := by omega
        obtain ⟨T5, hrow, rfl, htold, hfit, hlow⟩ := hK
        obtain ⟨pv, cv, rfl⟩ := own_of_row hrow
        have cA := fun w => sync_ok ⟨(recsB rs).toArray⟩ 0 1048576 (right_of (recsB rs) 0 1048576 (Nat.zero_le _) hfit (by omega)) w
        rw [show (⟨(recsB rs).toArray⟩ : ByteArray).size = (recsB rs).length by simp [ByteArray.size]] at cA
        have cB := fun w => putEntry_any ⟨(recsB rs).toArray⟩ ((recsB rs).length : Int) 1048576 T w
        obtain ⟨rs2, es2, er, hr, her, htold2, hes2, hfit2⟩ := tail_ways rs 0 es m 0 0 htold 1048576 hfit (by omega) T ((right_iff _ _ _).2 (right_of (recsB rs) (recsB rs).length 1048576 (Nat.le_refl _) hfit (by omega)))
        rw [hr] at cB
        dsimp only at cB
        obtain ⟨F, qs, es', m', b1, b2, b3, b4, b5, b6, b7, b8, b9, cC⟩ := rest_torn rs2 rs.length es2 m es.length m htold2 1048576 keep bits hfit2 (by omega) (right_of _ _ _ (recs_take_le rs2 rs.length) hfit2 (by omega))
        have cD := fun w => restart_any ⟨F.toArray⟩ (F.length : Int) 1048576 (by simp [ByteArray.size]; omega) w
        rw [b9] at cD
        dsimp only at cD
        obtain ⟨k1, k2⟩ := kept_at hes2 b4 b2 b3
        have hmm : m' = m := by omega
        subst hmm
        have hqr : ((recsB qs).length : Int) ≤ 1048576 := by omega
        have hqc := recsB_count qs
        have hqs := b1.size
        have hes' : (es'.length : Int) ≤ 300000 := by omega
        have hm'1 : (m' : Int) ≤ 1048576 := by omega
        have cE := fun w => compact_any ⟨(recsB qs).toArray⟩ ((recsB qs).length : Int) 1048576 (by simp [ByteArray.size]; omega) w
        rw [comp_ok (recsB qs) ((recsB qs).length : Int) 1048576 ((right_iff _ _ _).2 (right_of (recsB qs) (recsB qs).length 1048576 (Nat.le_refl _) hqr (by omega))) es' m' b1.spec] at cE
        obtain ⟨d1, d2, d3⟩ := b1.anew
        have hnl := anewT_length es' m'
        rw [d2] at cE
        dsimp only at cE
        generalize anewT es' m' = ns at *
        have cF := fun w => load_any (recsB ns) (by omega) w
        rw [d1.spec] at cF
        dsimp only at cF
        have cG := fun w => read_any (recsB ns) (by omega) w
        rw [read_recs ns d1.short] at cG
        dsimp only at cG
        have HER := Lib.hid her
        have HNL := Lib.hid hnl
        have HK2 := Lib.hid k2
        have hel : (es.length : Int) ≤ (es'.length : Int) := by omega
        have hel2 : (es'.length : Int) ≤ (es.length : Int) + 1 := by omega
        have T5' := Lib.hid T5
        have HR := Lib.hid hrow
        have HL := Lib.hid hlow
        have CB := Lib.hid cB
        have CC := Lib.hid cC
        have CD := Lib.hid cD
        have CE := Lib.hid cE
        have CF := Lib.hid cF
        have CG := Lib.hid cG
        clear hrow hlow htold hfit hr her htold2 hes2 hfit2 b1 b2 b3 b4 b5 b6 b7 b8 b9 k1 k2 hqr hqc hqs d1 d2 d3 hnl cB cC cD cE cF cG HE HC hlt hj hg hE hC
        obtain ⟨kz, ka, kb, kc, kf, kg, kh⟩ := T5
        go_wp2_with fail
        refine (cA _).mono ?_
        rintro e1 w4 ⟨rfl, hb⟩
        have U5 := T5'.out.below' hb
        have U5' := Lib.hid U5
        have R4 := Lib.hid (own_kept HR.out hb)
        have L4 : Hid (Below w.heap.size w w4) := HL.out.trans (hb.mono HL.out.size)
        clear kz ka kb kc kf kg kh hb T5' HR HL cA
        obtain ⟨kz, ka, kb, kc, kf, kg, kh⟩ := U5
        have BX := ((L4.out.setCell (p := ⟨n5, 0, none⟩) hz5 (.string ⟨(recsB rs).toArray⟩)).setCell (p := ⟨n5, 1, none⟩) hz5 (.int .i64 ((recsB rs).length : Int))).setCell (p := ⟨n5, 2, none⟩) hz5 (.int .i64 1048576)
        have hX := ((R4.out.kept (grownBy_setC _ n5 0 (.string ⟨(recsB rs).toArray⟩)) (.inr (low_ne_row R4.out (by omega)).symm)).kept (grownBy_setC _ n5 1 (.int .i64 ((recsB rs).length : Int))) (.inr (low_ne_row R4.out (by omega)).symm)).kept (grownBy_setC _ n5 2 (.int .i64 1048576)) (.inr (low_ne_row R4.out (by omega)).symm)
        have RX := Lib.hid (row_str hX)
        have BX' := Lib.hid BX
        clear BX hX R4 L4 U5'
        go_wp2_with fail
        refine (CB.out _).mono ?_
        rintro e2 w5 ⟨rfl, hb⟩
        have R5 := Lib.hid (RX.out.below rfl hb)
        have B5 := Lib.hid (BX'.out.trans (hb.mono BX'.out.size))
        clear kz ka kb kc kf kg kh hb RX BX' CB
        go_wp2_with fail
        refine (CC.out _).mono ?_
        rintro e3 w6 ⟨rfl, hb⟩
        have hA := (low_al w5 (.cells #[.string ⟨(recsB rs2).toArray⟩, .int .i64 ((recsB (rs2.take rs.length)).length : Int), .int .i64 1048576] 47)).trans (hb.mono (by simp))
        have R6 := Lib.hid (R5.out.below rfl hA)
        have B6 := Lib.hid (B5.out.trans (hA.mono B5.out.size))
        clear hb hA R5 B5 CC
        go_wp2_with fail
        refine (CD.out _).mono ?_
        rintro e4 w7 ⟨vv, rfl, oo, hb⟩
        have hA := (low_al w6 (.cells #[.string ⟨F.toArray⟩, .int .i64 (F.length : Int), .int .i64 1048576] 47)).trans (hb.mono (by simp))
        have R7 := R6.out.below rfl hA
        have B7 := B6.out.trans (hA.mono B6.out.size)
        obtain ⟨pf, cf, rfl⟩ := own_of oo
        have S7 := oo.row
        have A1 := low_al w7 (.cells #[.string ⟨(recsB qs).toArray⟩, .int .i64 ((recsB qs).length : Int), .int .i64 1048576] 47)
        have A2 := A1.trans ((low_al (w7.alloc (.cells #[.string ⟨(recsB qs).toArray⟩, .int .i64 ((recsB qs).length : Int), .int .i64 1048576] 47)) (.cells #[.slice pf es'.length cf, .int .i64 (m' : Int)] 61)).mono (by simp))
        have G7 := (One.made w7 (.string ⟨(recsB qs).toArray⟩) (.int .i64 ((recsB qs).length : Int)) (.int .i64 1048576) 47).below' (low_al (w7.alloc (.cells #[.string ⟨(recsB qs).toArray⟩, .int .i64 ((recsB qs).length : Int), .int .i64 1048576] 47)) (.cells #[.slice pf es'.length cf, .int .i64 (m' : Int)] 61))
        have G8 := Pair.made (w7.alloc (.cells #[.string ⟨(recsB qs).toArray⟩, .int .i64 ((recsB qs).length : Int), .int .i64 1048576] 47)) (.slice pf es'.length cf) (.int .i64 (m' : Int)) 61
        rw [World.size_alloc] at G8
        have R8 := Lib.hid (R7.below rfl A2)
        have S8 := Lib.hid (S7.below rfl A2)
        have B8 := Lib.hid (B7.trans (A2.mono B7.size))
        obtain ⟨n7, hn7⟩ : ∃ x, x = w7.heap.size := ⟨_, rfl⟩
        have G7' := Lib.hid G7
        have G8' := Lib.hid G8
        clear hb hA R6 B6 R7 B7 CD oo S7 A1 A2
        go_upto_region 26 with fail
        rw [← hn7] at G7 G8 G7' G8' ⊢
        generalize (w7.alloc (.cells #[.string ⟨(recsB qs).toArray⟩, .int .i64 ((recsB qs).length : Int), .int .i64 1048576] 47)).alloc (.cells #[.slice pf es'.length cf, .int .i64 (m' : Int)] 61) = W at *
        clear hn7
        obtain ⟨gz, ga, gb, gc, gf, gg, gh⟩ := G7
        obtain ⟨sz, sa, sb, sf, sg⟩ := G8
        have hq1 : decide (es'.length < es.length) = false := by simp; omega
        have hq2 : decide ((es.length : Int) + 1 < (es'.length : Int)) = false := by simp; omega
        go_cut [179] (fun c wx => c = .bool false ∧ W = wx)
        case first =>
          rcases HER.out with rfl | rfl | rfl
          all_goals (go_wp2_with fail; go_meet; exact ⟨rfl, rfl⟩)
        case rest =>
          obtain ⟨rfl, rfl⟩ := hcut
          go_wp2_with fail
          go_loop [183] (fun i => ∃ k : Nat, k ≤ es'.length ∧ i = .int .i64 (k : Int)) (fun i => es'.length - (intOf i).toNat)
          case atStart => exact ⟨0, Nat.zero_le _, rfl⟩
          case round =>
            obtain ⟨k, hk, rfl⟩ := hrel
            by_cases hkl : k < es'.length
            · obtain ⟨kk1, kk2⟩ := HK2.out k hkl
              have hk0 : (0 : Int) ≤ (k : Int) := by omega
              have hk1 : (k : Int) < (es'.length : Int) := by omega
              rcases S8.out with ⟨_, _, h1, h2⟩ | ⟨b, o, cap, h1, hb, hcell⟩
              · rw [h2] at hkl; simp at hkl
              · injection h1 with e1 e2 e3
                subst e1 e3
                have y0 := hcell k hkl
                clear hcell e2
                by_cases hke : k < es.length
                · have hk2 : (k : Int) < (es.length : Int) := by omega
                  have hk3 : decide (k < es.length) = true := by simpa using hke
                  have hk4 : ¬ k = es.length := by omega
                  have hk5 : ((k : Int) == (es.length : Int)) = false := by simp; omega
                  rcases R8.out with ⟨_, _, h1, h2⟩ | ⟨b2, o2, cap2, h1, hb2, hcell2⟩
                  · rw [h2] at hke; simp at hke
                  · injection h1 with e1 e2 e3
                    subst e1 e3
                    have y1 := hcell2 k hke
                    rw [← kk1 hke] at y1
                    clear hcell2 e2 kk1 kk2
                    generalize es'[k] = x at *
                    go_wp2_with fail
                    go_round
                    case rel => exact ⟨k + 1, by omega, by go_num⟩
                    case measure => simp [intOf]; omega
                · have hke2 : k = es.length := by omega
                  have hk3 : decide (k < es.length) = false := by simpa using hke
                  have hk5 : ((k : Int) == (es.length : Int)) = true := by simp; omega
                  rw [kk2 hke2] at y0
                  clear kk1 kk2 hke2
                  go_wp2_with fail
                  go_round
                  case rel => exact ⟨k + 1, by omega, by go_num⟩
                  case measure => simp [intOf]; omega
            · have hk1 : ¬ (k : Int) < (es'.length : Int) := by omega
              clear hk
              go_wp2_with fail
              refine (CE.out _).mono ?_
              rintro e5 w8 ⟨rfl, hb⟩
              have S9 := G8'.out.below' hb
              have B9 := Lib.hid (B8.out.trans (hb.mono B8.out.size))
              have A1 := low_al w8 (.cells #[.string ⟨(recsB ns).toArray⟩, .int .i64 ((recsB ns).length : Int), .int .i64 1048576] 47)
              have S9' := Lib.hid (S9.below' A1)
              have C9 := One.made w8 (.string ⟨(recsB ns).toArray⟩) (.int .i64 ((recsB ns).length : Int)) (.int .i64 1048576) 47
              have C9' := Lib.hid C9
              clear hb gz ga gb gc gf gg gh sz sa sb sf sg G7' G8' S9 R8 S8 B8 CE
              obtain ⟨cz, ca, cb, ccc, cf1, cg, ch⟩ := C9
              go_wp2_with fail
              refine (CF.out _).mono ?_
              rintro e6 w9 ⟨vt, rfl, ot, hb⟩
              obtain ⟨pt, ct, rfl⟩ := own_of ot
              have S10 := S9'.out.below' hb
              have C10 := C9'.out.below' hb
              have B10 := Lib.hid ((B9.out.trans (A1.mono B9.out.size)).trans (hb.mono (by have := B9.out.size; simp; omega)))
              have A2 := low_al w9 (.cells #[.slice pt es'.length ct, .int .i64 (m' : Int)] 61)
              have S11 := Lib.hid (S10.below' A2)
              have C11 := Lib.hid (C10.below' A2)
              have T11 := Pair.made w9 (.slice pt es'.length ct) (.int .i64 (m' : Int)) 61
              have T11' := Lib.hid T11
              clear hb cz ca cb ccc cf1 cg ch S9' C9' B9 S10 CF ot A1
              obtain ⟨tz, ta, tb, tf, tg⟩ := T11
              have C12 := C11.out
              obtain ⟨cz, ca, cb, ccc, cf1, cg, ch⟩ := C12
              go_wp2_with fail
              refine (CG.out _).mono ?_
              rintro e7 w10 ⟨vl, rfl, ol, hb⟩
              obtain ⟨pl, cl, rfl⟩ := own_of ol
              have S12 := S11.out.below' hb
              have C12 := C11.out.below' hb
              have T12 := T11'.out.below' hb
              have B12 := Lib.hid ((B10.out.trans (A2.mono B10.out.size)).trans (hb.mono (by have := B10.out.size; simp; omega)))
              clear hb tz ta tb tf tg cz ca cb ccc cf1 cg ch S11 C11 T11' B10 CG ol A2
              obtain ⟨tz, ta, tb, tf, tg⟩ := T12
              obtain ⟨cz, ca, cb, ccc, cf1, cg, ch⟩ := C12
              obtain ⟨sz, sa, sb, sf, sg⟩ := S12
              have hmn0 : (0 : Int) ≤ min (m' : Int) 1 := by omega
              have hmn1 : min (m' : Int) 1 ≤ 1 := by omega
              have hnl := HNL.out
              have hnlb : ((ns.length : Int) == (es'.length : Int) + min (m' : Int) 1) = true := by simpa using hnl
              clear hnl
              go_wp2_with fail
              go_ret
              exact ⟨rfl, B12.out⟩
end Top
end Go.Proofs.Ytjfibmlpjcncmaa
