/- The walks of journal.Bytes and of the document's Bytes and Read. -/
import Derived.Test.YtjfibmlpjcncmaaJrnRead
namespace Go.Proofs.Ytjfibmlpjcncmaa
open Go.RowKit
set_option linter.unusedVariables false
set_option linter.unusedSimpArgs false
set_option maxRecDepth 4000
namespace Jrn
open Oct Crc

theorem recB_le (t : List UInt8) (h : t.length ≤ 8192) : (recB t).length ≤ 8207 := by
  rw [recB_length]; have := textL_length t; omega

set_option maxHeartbeats 1000000 in
theorem bytes_any (t : List UInt8) (w : World) :
    Calls Try.prog 34 #[.string ⟨t.toArray⟩] w fun e w' => e = .returned (.tuple #[.string ⟨(bytesR t).1.toArray⟩, .int .i64 ((bytesR t).2 : Int)]) ∧ Below w.heap.size w w' := by
  by_cases ht : t.length ≤ 8192
  · have hc := fun w => text_ok t ht w
    have hl : ((textL t).length : Int) ≤ 8203 := by have := textL_length t; omega
    have hb := fun w => Crc.bytes_any ⟨(textL t).toArray⟩ w (by simp [ByteArray.size]; omega)
    have ha := ba_app (textL t) (top4 (crc (textL t)))
    have h4 : (top4 (crc (textL t))).length = 4 := by simp [top4]
    have hR : bytesR t = (textL t ++ top4 (crc (textL t)), 0) := by rw [bytesR, if_pos ht]; rfl
    rw [hR]
    dsimp only at hb
    generalize textL t = x at *
    generalize top4 (crc x) = y at *
    have HH := Lib.hid hR
    have h4i : (y.length : Int) ≤ 4 := by omega
    clear ht hR h4
    go_enter Try.func34, Try.ntmps34
    go_wp2_with fail
    refine (hc _).mono ?_
    rintro e w1 ⟨rfl, B⟩
    go_wp2_with fail
    refine (hb _).mono ?_
    rintro e w2 ⟨rfl, hbb⟩
    replace B := B.trans (hbb.mono B.size)
    clear hbb hb hc
    go_wp2
    go_ret2
    exact ⟨rfl, B⟩
  · have hc := fun w => text_bad t (by omega) w
    have hR : bytesR t = ([], 7) := by rw [bytesR, if_neg ht]
    rw [hR]
    clear hR ht
    go_enter Try.func34, Try.ntmps34
    go_wp2_with fail
    refine (hc _).mono ?_
    rintro e w1 ⟨rfl, rfl⟩
    go_wp2
    go_ret2
    exact ⟨rfl, Below.refl _ _⟩

set_option maxHeartbeats 1000000 in
theorem refBytes_any (t : List UInt8) (w : World) :
    Calls Try.prog 35 #[.string ⟨t.toArray⟩] w fun e w' => e = .returned (.tuple #[.string ⟨(bytesR t).1.toArray⟩, .int .i64 ((bytesR t).2 : Int)]) ∧ Below w.heap.size w w' := by
  by_cases ht : t.length ≤ 8192
  · have hc := fun w => refText_ok t ht w
    have hl : ((textL t).length : Int) ≤ 8203 := by have := textL_length t; omega
    have hb := fun w => Crc.refbytes_any ⟨(textL t).toArray⟩ w (by simp [ByteArray.size]; omega)
    have ha := ba_app (textL t) (top4 (crc (textL t)))
    have h4 : (top4 (crc (textL t))).length = 4 := by simp [top4]
    have hR : bytesR t = (textL t ++ top4 (crc (textL t)), 0) := by rw [bytesR, if_pos ht]; rfl
    rw [hR]
    dsimp only at hb
    generalize textL t = x at *
    generalize top4 (crc x) = y at *
    have HH := Lib.hid hR
    have h4i : (y.length : Int) ≤ 4 := by omega
    clear ht hR h4
    go_enter Try.func35, Try.ntmps35
    go_wp2_with fail
    refine (hc _).mono ?_
    rintro e w1 ⟨rfl, B⟩
    go_wp2_with fail
    refine (hb _).mono ?_
    rintro e w2 ⟨rfl, hbb⟩
    replace B := B.trans (hbb.mono B.size)
    clear hbb hb hc
    go_wp2
    go_ret2
    exact ⟨rfl, B⟩
  · have hc := fun w => refText_bad t (by omega) w
    have hR : bytesR t = ([], 7) := by rw [bytesR, if_neg ht]
    rw [hR]
    clear hR ht
    go_enter Try.func35, Try.ntmps35
    go_wp2_with fail
    refine (hc _).mono ?_
    rintro e w1 ⟨rfl, rfl⟩
    go_wp2
    go_ret2
    exact ⟨rfl, Below.refl _ _⟩

theorem step_cases (m t : List UInt8) (u : Nat) (h : getText m = (t, u, 0)) (hu : u ≤ m.length) (ht : t.length ≤ 8192) :
    u + 4 = (recB t).length ∧ ((recB t).length ≤ m.length → m.take (recB t).length = recB t → step m = some (t, (recB t).length)) ∧ (¬ ((recB t).length ≤ m.length ∧ m.take (recB t).length = recB t) → step m = none) := by
  have hp := (put_getText m t u h).2
  have hl : (textL t).length = u := by rw [hp, List.length_take]; omega
  refine ⟨by rw [recB_length, hl], fun h1 h2 => ?_, fun h1 => ?_⟩
  · exact (step_some m t _).2 ⟨ht, rfl, m.drop (recB t).length, by rw [← h2, List.length_take, Nat.min_eq_left h1, List.take_append_drop]⟩
  · cases hs : step m with
    | none => rfl
    | some x =>
      obtain ⟨t', k⟩ := x
      obtain ⟨ht', rfl, m', rfl⟩ := (step_some _ _ _).1 hs
      have hg := getText_put t' ht' (top4 (crc (textL t')) ++ m')
      rw [← List.append_assoc] at hg
      rw [show recB t' ++ m' = textL t' ++ top4 (crc (textL t')) ++ m' from rfl, hg] at h
      simp only [Prod.mk.injEq, and_true] at h
      obtain ⟨rfl, -⟩ := h
      exact absurd ⟨by simp, List.take_left⟩ h1

set_option maxHeartbeats 2000000 in
theorem refRead_any (l : List UInt8) (hl : (l.length : Int) ≤ 2097152) (w : World) :
    Calls Try.prog 33 #[.string ⟨l.toArray⟩] w fun e w' => ∃ v, e = .returned (.tuple #[v, .int .i64 ((readR l).2 : Int)]) ∧ OwnS w.heap.size w' v (readR l).1 ∧ Below w.heap.size w w' := by
  obtain ⟨i0, hi, hz0, hz1, hz2⟩ := info_parts info_str
  go_enter Try.func33, Try.ntmps33
  go_wp2
  go_loopw [4, 5] (fun v a wr => ∃ (at_ : Nat) (ls : List (List UInt8)), at_ ≤ l.length ∧ 5 * ls.length ≤ at_ ∧ a = .int .i64 (at_ : Int) ∧ Hid (OwnS w.heap.size wr v ls) ∧ Hid (ls ++ (recs (l.length + 1) at_ l).map (·.2) = (readR l).1 ∧ lastAt at_ (recs (l.length + 1) at_ l) = (readR l).2) ∧ Below w.heap.size w wr)
    (fun _ a _ => l.length - (intOf a).toNat)
  case atStart => exact ⟨0, [], by omega, by simp, rfl, Lib.hid (OwnS.nil _ _), Lib.hid ⟨rfl, rfl⟩, Below.refl _ _⟩
  case round =>
    obtain ⟨at_, ls, hat, hla, rfl, HO, HG, hbr⟩ := hrel
    have hsz := hbr.size
    have hati : (at_ : Int) ≤ (l.length : Int) := by omega
    obtain ⟨t, u, e, hgt, h3, h4, h5⟩ := getText_spec (l.drop at_)
    have hx := ext_drop l at_
    have HS : Hid (step (l.drop at_) = if e ≠ 0 then none else if (l.drop at_).length < u + 4 then none else if good ((l.drop at_).take (u + 4)) = true then some (t, u + 4) else none) := Lib.hid (by rw [step, hgt])
    have HR := Lib.hid (recs_step at_ l hat)
    have hct := fun w => refGetText_any (l.drop at_) w
    rw [hgt] at hct
    have HT := Lib.hid hgt
    have H3 := Lib.hid h3
    clear hgt h3 h4
    go_wp2_with fail
    refine (hct _).mono ?_
    rintro e1 w2 ⟨rfl, hb2⟩
    clear hct
    have B := hbr.trans (hb2.mono hsz)
    have hO := HO.out
    unfold OwnS at hO
    have hown := own_kept hO hb2
    clear hb2 hO
    by_cases he : e = 0
    · subst he
      obtain ⟨hu, ht, hu0, hu8⟩ := H3.out rfl
      obtain ⟨hul, hyes, hno⟩ := step_cases (l.drop at_) t u HT.out hu ht
      have hcb := fun w => refBytes_any t w
      rw [show bytesR t = (recB t, 0) by rw [bytesR, if_pos ht]] at hcb
      have hle := recB_le t ht
      generalize hrb : recB t = r at *
      have huli : (u : Int) + 4 = (r.length : Int) := by omega
      have hui : (u : Int) = (r.length : Int) - 4 := by omega
      have hlei : (r.length : Int) ≤ 8207 := by omega
      rw [List.length_drop] at hyes hno hu
      have hxt : (⟨l.toArray⟩ : ByteArray).extract at_ (at_ + r.length) = ⟨((l.drop at_).take r.length).toArray⟩ := ext_take l at_ r.length
      have hs1 : (0 : Int) ≤ (at_ : Int) := by omega
      have hs2 : (at_ : Int) ≤ (at_ : Int) + (r.length : Int) := by omega
      have H0 := Lib.hid (And.intro hu0 (And.intro hul (And.intro hyes hno)))
      clear hu hu0 hu8 hul hyes hno HS hrb huli
      go_wp2_with fail
      refine (hcb _).mono ?_
      rintro e2 w3 ⟨rfl, hb3⟩
      clear hcb
      have hown3 := own_kept hown hb3
      have B3 := B.trans (hb3.mono B.size)
      have hsz3 := B3.size
      clear hown B hb3 hsz hbr HO
      by_cases hA : at_ + r.length ≤ l.length
      · have hAi : (at_ : Int) + (r.length : Int) ≤ (l.length : Int) := by omega
        by_cases hB : (l.drop at_).take r.length = r
        · have hBb : ((l.drop at_).take r.length == r) = true := by simpa using hB
          have hst := H0.out.2.2.1 (by omega) hB
          have hr := HR.out
          rw [hst] at hr
          have hg := HG.out
          rw [hr] at hg
          simp only [List.map_cons, lastAt] at hg
          have HG2 := Lib.hid hg
          have h5r : 5 ≤ r.length := by have := H0.out.1; have := H0.out.2.1; omega
          clear hst hr hg HG HR hB H0
          go_wp2_with (at_builtin; go_must (refine wpList_append_own _ rfl _ _ _ rfl w.heap.size 9 i0 (.string ⟨#[]⟩) 1 16 Try.underlying32 hi hz0 hz1 hz2 rfl (by decide) _ _ _ rfl (hown3.alloc _) ⟨w3.heap.size, 0, none⟩ 1 1 [.string ⟨t.toArray⟩] rfl rfl (cell_one_new _ _ _) (by simp [Value.oneCell']) (by unfold maxLen; omega) (by omega) (by simp; omega) ?_; intro v' w4 hown' hgrow _))
          have hO3 : OwnS w.heap.size w4 v' (ls ++ [t]) := by
            unfold OwnS
            rw [strsV_append, List.length_append]
            exact hown'
          exact ⟨⟨at_ + r.length, ls ++ [t], by omega, by simp; omega, by go_num, Lib.hid hO3, Lib.hid ⟨by rw [← HG2.out.1]; simp, HG2.out.2⟩, (B3.alloc B3.size _).grown hgrow (by simp <;> omega) (fun k hk => (hown3.lt k hk).1)⟩, by simp [intOf]; omega⟩
        · have hBb : ((l.drop at_).take r.length == r) = false := by simpa using hB
          have hst := H0.out.2.2.2 (fun h => hB h.2)
          have hr := HR.out
          rw [hst] at hr
          have hg := HG.out
          rw [hr] at hg
          simp only [List.map_nil, List.append_nil, lastAt] at hg
          have HG2 := Lib.hid hg
          have HO2 := Lib.hid hown3
          clear hst hr hg HG HR H0 hown3 hB
          go_wp2
          go_ret2
          rw [← HG2.out.1, ← HG2.out.2]
          exact ⟨_, rfl, HO2.out, B3⟩
      · have hAi : (l.length : Int) < (at_ : Int) + (r.length : Int) := by omega
        have hst := H0.out.2.2.2 (fun h => hA (by omega))
        have hr := HR.out
        rw [hst] at hr
        have hg := HG.out
        rw [hr] at hg
        simp only [List.map_nil, List.append_nil, lastAt] at hg
        have HG2 := Lib.hid hg
        have HO2 := Lib.hid hown3
        clear hst hr hg HG HR H0 hown3 hA
        go_wp2
        go_ret2
        rw [← HG2.out.1, ← HG2.out.2]
        exact ⟨_, rfl, HO2.out, B3⟩
    · have hr := HR.out
      have hs := HS.out
      rw [if_pos he] at hs
      rw [hs] at hr
      have hg := HG.out
      rw [hr] at hg
      have HG2 := Lib.hid hg
      have hei : ¬ (e : Int) = 0 := by omega
      have HO2 := Lib.hid hown
      clear hs hr hg HS HR HG hown
      go_wp2
      go_ret2
      have hg := HG2.out
      simp only [List.map_nil, List.append_nil, lastAt] at hg
      rw [← hg.1, ← hg.2]
      exact ⟨_, rfl, HO2.out, B⟩
end Jrn
end Go.Proofs.Ytjfibmlpjcncmaa
