/- ident.Parse, of, User, Room. -/
import Derived.Test.YtbgjoefpnjgdkaaDoorIdentText
import Derived.Lib.ParseIntBCases
namespace Go.Proofs.YtbgjoefpnjgdkaaDoor
open Go.RowKit
set_option linter.unusedVariables false
set_option linter.unusedSimpArgs false
set_option maxRecDepth 100000
namespace Named
theorem drop_one (c : UInt8) (r : List UInt8) : (⟨(c :: r).toArray⟩ : ByteArray).extract 1 (c :: r).length = ⟨r.toArray⟩ := by
  refine ByteArray.ext ?_; rw [← Array.toList_inj]; simp

theorem cutL_le (s : List UInt8) : (cutL s).1.length ≤ s.length ∧ (cutL s).2.length ≤ s.length := by
  rw [cutL]; split
  · exact ⟨by simp; omega, by simp⟩
  · exact ⟨Nat.le_refl _, by simp⟩

set_option maxHeartbeats 1000000 in
theorem parse_none (t : List UInt8) (h : kindL t = 0) (w : World) (hV : Vars w) :
    Calls Tryd.prog 25 #[.string ⟨t.toArray⟩] w fun e w' => e = .returned (.tuple #[identV 0 [] 0, .int .i64 6]) ∧ Below w.heap.size w w' := by
  have HK := Lib.hid (fun w hV => kind_any t w hV)
  rw [h] at HK
  clear h
  unfold identV
  have A0 := Blk.new w #[.int .u8 0, .string ⟨#[]⟩, .int .i64 0] 62
  have B0 := (Below.refl w.heap.size w).alloc (Nat.le_refl _) (.cells #[.int .u8 0, .string ⟨#[]⟩, .int .i64 0] 62)
  have HV0 := Lib.hid (hV.alloc (.cells #[.int .u8 0, .string ⟨#[]⟩, .int .i64 0] 62))
  clear hV
  go_enter Tryd.func25, Tryd.ntmps25
  go_wp2_with fail
  generalize w.alloc (.cells #[.int .u8 0, .string ⟨#[]⟩, .int .i64 0] 62) = w1 at *
  refine (HK.out _ HV0.out).mono ?_
  rintro e w' ⟨rfl, rfl⟩
  have c0 := A0.cell 0 rfl
  have c1 := A0.cell 1 rfl
  have c2 := A0.cell 2 rfl
  have f0 := A0.froz 0 (by simp)
  have f1 := A0.froz 1 (by simp)
  have f2 := A0.froz 2 (by simp)
  have hz := A0.size
  go_wp2_with fail
  have A9 := ((A0.set 0 (by simp) (.int .u8 0)).set 1 (by simp) (.string ⟨#[]⟩)).set 2 (by simp) (.int .i64 0)
  have B9 := ((B0.setCell (p := ⟨w.heap.size, 0, none⟩) (Nat.le_refl _) (.int .u8 0)).setCell (p := ⟨w.heap.size, 1, none⟩) (Nat.le_refl _) (.string ⟨#[]⟩)).setCell (p := ⟨w.heap.size, 2, none⟩) (Nat.le_refl _) (.int .i64 0)
  generalize (((w'.setCell ⟨w.heap.size, 0, none⟩ (.int .u8 0)).setCell ⟨w.heap.size, 1, none⟩ (.string ⟨#[]⟩)).setCell ⟨w.heap.size, 2, none⟩ (.int .i64 0)) = w9 at *
  have d0 := A9.cell 0 rfl
  have d1 := A9.cell 1 rfl
  have d2 := A9.cell 2 rfl
  clear c0 c1 c2 f0 f1 f2
  refine bodyPost_ret (v := .tuple #[.agg #[.int .u8 0, .string ⟨#[]⟩, .int .i64 0], .int .i64 6]) (by simp [results, Tryd.f25, go_sem, d0, d1, d2]) rfl ?_
  exact ⟨rfl, B9⟩

theorem uintV_le (B : Nat) (l : List UInt8) : (uintV B l).1 ≤ 2 ^ B - 1 := by
  rw [uintV]
  split
  · rename_i n h; exact Lib.parseUintB_le h
  · exact Nat.le_refl _
  · exact Nat.zero_le _

set_option maxHeartbeats 2000000 in
theorem parse_some (c : UInt8) (r : List UInt8) (k : Nat) (nm tl tx : List UInt8) (n er : Nat) (ok : Bool) (hl : (c :: r).length ≤ 281474976710656)
    (hk : kindL (c :: r) = k) (hk0 : 0 < k) (hc : cutL r = (nm, tl)) (hu : uintV 6 tl = (n, ok)) (ht : textI k nm (n : Int) = (tx, er)) (res : Value) (hres : (if ok = true ∧ er = 0 ∧ tx = c :: r then Value.tuple #[identV k nm (n : Int), .int .i64 0] else .tuple #[identV 0 [] 0, .int .i64 6]) = res) (w : World) (hV : Vars w) :
    Calls Tryd.prog 25 #[.string ⟨(c :: r).toArray⟩] w fun e w' => e = .returned res ∧ Below w.heap.size w w' := by
  have hlr : r.length ≤ maxLen := by unfold maxLen; simp at hl; omega
  have hlr8 : r.length ≤ 281474976710656 := by simp at hl; omega
  have hcl : nm.length ≤ r.length ∧ tl.length ≤ r.length := by have h := cutL_le r; rw [hc] at h; exact h
  have hn : n ≤ 63 := by have h := uintV_le 6 tl; rw [hu] at h; exact h
  have HK := Lib.hid (fun w hV => kind_any (c :: r) w hV)
  have HC := Lib.hid (fun w => cut_any r hlr w)
  have HU := Lib.hid (fun w hV => uint_6 tl (by have := hcl.2; omega) w hV)
  have HT := Lib.hid (fun w hV => itext_any k nm (n : Int) (by have := hcl.1; unfold maxLen at *; omega) w hV)
  rw [hk] at HK
  rw [hc] at HC
  rw [hu] at HU
  rw [ht] at HT
  have HX := Lib.hid (drop_one c r)
  have HR := Lib.hid hres
  clear hres
  have hsz : (ByteArray.mk (c :: r).toArray).size = (c :: r).length := by simp [ByteArray.size]
  have hl1 : (1 : Int) ≤ ((c :: r).length : Int) := by simp; omega
  have hlm : ((c :: r).length : Int) ≤ 281474976710656 := by omega
  generalize hts : c :: r = t at *
  have hki : ¬ ((k : Int) = 0) := by omega
  have hkd : decide ((k : Int) = 0) = false := decide_eq_false hki
  have hn63 : (n : Int) ≤ 63 := by omega
  have hn0 : (0 : Int) ≤ (n : Int) := by omega
  clear hc hu ht hk hcl hlr hlr8 hl hn hts hk0
  unfold identV at *
  have A0 := Blk.new w #[.int .u8 0, .string ⟨#[]⟩, .int .i64 0] 62
  have B0 := (Below.refl w.heap.size w).alloc (Nat.le_refl _) (.cells #[.int .u8 0, .string ⟨#[]⟩, .int .i64 0] 62)
  have HV := Lib.hid hV
  clear hV
  go_enter Tryd.func25, Tryd.ntmps25
  go_wp2_with fail
  generalize w.alloc (.cells #[.int .u8 0, .string ⟨#[]⟩, .int .i64 0] 62) = w1 at *
  refine (HK.out _ (HV.out.low B0)).mono ?_
  rintro e w' ⟨rfl, rfl⟩
  go_wp2_with fail
  rw [HX.out]
  refine (HC.out _).mono ?_
  rintro e w2 ⟨⟨b, rfl⟩, hb2⟩
  have A2 := A0.low hb2
  have B2 := B0.trans (hb2.mono B0.size)
  go_wp2_with fail
  refine (HU.out _ (HV.out.low B2)).mono ?_
  rintro e w3 ⟨ev, rfl, hev, hb3⟩
  have A3 := A2.low hb3
  have B3 := B2.trans (hb3.mono B2.size)
  have HE := Lib.hid hev
  have hz3 := A3.size
  clear hev hb2 hb3 A2 B2 A0 B0
  go_wp2_with fail
  have X3 := Blk.new w3 #[.int .u8 (k : Int), .string ⟨nm.toArray⟩, .int .i64 (n : Int)] 62
  have A4 := A3.alloc (.cells #[.int .u8 (k : Int), .string ⟨nm.toArray⟩, .int .i64 (n : Int)] 62)
  have B4 := B3.alloc B3.size (.cells #[.int .u8 (k : Int), .string ⟨nm.toArray⟩, .int .i64 (n : Int)] 62)
  generalize w3.alloc (.cells #[.int .u8 (k : Int), .string ⟨nm.toArray⟩, .int .i64 (n : Int)] 62) = w4 at *
  refine (HT.out _ (HV.out.low B4)).mono ?_
  rintro e w5 ⟨rfl, hb5⟩
  have A5 := A4.low hb5
  have B5 := B4.trans (hb5.mono B4.size)
  have X5 := X3.low hb5
  clear A3 B3 A4 B4 X3 hb5
  have c0 := A5.cell 0 rfl
  have c1 := A5.cell 1 rfl
  have c2 := A5.cell 2 rfl
  have f0 := A5.froz 0 (by simp)
  have f1 := A5.froz 1 (by simp)
  have f2 := A5.froz 2 (by simp)
  have x0 := X5.cell 0 rfl
  have x1 := X5.cell 1 rfl
  have x2 := X5.cell 2 rfl
  have hz := A5.size
  have hz' := X5.size
  have HEo := HE.out
  clear HE
  rcases HEo with ⟨rfl, rfl⟩ | ⟨rfl, et, ep, rfl⟩
  · by_cases her : er = 0
    · subst her
      by_cases htx : tx = t
      · subst htx
        go_wp2_with fail
        have A9 := ((A5.set 0 (by simp) (.int .u8 (k : Int))).set 1 (by simp) (.string ⟨nm.toArray⟩)).set 2 (by simp) (.int .i64 (n : Int))
        have B9 := ((B5.setCell (p := ⟨w.heap.size, 0, none⟩) (Nat.le_refl _) (.int .u8 (k : Int))).setCell (p := ⟨w.heap.size, 1, none⟩) (Nat.le_refl _) (.string ⟨nm.toArray⟩)).setCell (p := ⟨w.heap.size, 2, none⟩) (Nat.le_refl _) (.int .i64 (n : Int))
        generalize (((w5.setCell ⟨w.heap.size, 0, none⟩ (.int .u8 (k : Int))).setCell ⟨w.heap.size, 1, none⟩ (.string ⟨nm.toArray⟩)).setCell ⟨w.heap.size, 2, none⟩ (.int .i64 (n : Int))) = w9 at *
        have d0 := A9.cell 0 rfl
        have d1 := A9.cell 1 rfl
        have d2 := A9.cell 2 rfl
        clear c0 c1 c2 f0 f1 f2
        refine bodyPost_ret (v := .tuple #[.agg #[.int .u8 (k : Int), .string ⟨nm.toArray⟩, .int .i64 (n : Int)], .int .i64 0]) (by simp [results, Tryd.f25, go_sem, d0, d1, d2]) rfl ?_
        exact ⟨by rw [← HR.out, if_pos (by simp)], B9⟩
      · have HTX := Lib.hid htx
        have htd : (tx == t) = false := by simpa using htx
        clear htx
        go_wp2_with fail
        have A9 := ((A5.set 0 (by simp) (.int .u8 0)).set 1 (by simp) (.string ⟨#[]⟩)).set 2 (by simp) (.int .i64 0)
        have B9 := ((B5.setCell (p := ⟨w.heap.size, 0, none⟩) (Nat.le_refl _) (.int .u8 0)).setCell (p := ⟨w.heap.size, 1, none⟩) (Nat.le_refl _) (.string ⟨#[]⟩)).setCell (p := ⟨w.heap.size, 2, none⟩) (Nat.le_refl _) (.int .i64 0)
        generalize (((w5.setCell ⟨w.heap.size, 0, none⟩ (.int .u8 0)).setCell ⟨w.heap.size, 1, none⟩ (.string ⟨#[]⟩)).setCell ⟨w.heap.size, 2, none⟩ (.int .i64 0)) = w9 at *
        have d0 := A9.cell 0 rfl
        have d1 := A9.cell 1 rfl
        have d2 := A9.cell 2 rfl
        clear c0 c1 c2 f0 f1 f2
        refine bodyPost_ret (v := .tuple #[.agg #[.int .u8 0, .string ⟨#[]⟩, .int .i64 0], .int .i64 6]) (by simp [results, Tryd.f25, go_sem, d0, d1, d2]) rfl ?_
        exact ⟨by rw [← HR.out, if_neg (fun h => HTX.out h.2.2)]; rfl, B9⟩
    · have HER := Lib.hid her
      have heri : ¬ ((er : Int) = 0) := by omega
      have herd : ((er : Int) == 0) = false := by simpa using heri
      clear her
      go_wp2_with fail
      have A9 := ((A5.set 0 (by simp) (.int .u8 0)).set 1 (by simp) (.string ⟨#[]⟩)).set 2 (by simp) (.int .i64 0)
      have B9 := ((B5.setCell (p := ⟨w.heap.size, 0, none⟩) (Nat.le_refl _) (.int .u8 0)).setCell (p := ⟨w.heap.size, 1, none⟩) (Nat.le_refl _) (.string ⟨#[]⟩)).setCell (p := ⟨w.heap.size, 2, none⟩) (Nat.le_refl _) (.int .i64 0)
      generalize (((w5.setCell ⟨w.heap.size, 0, none⟩ (.int .u8 0)).setCell ⟨w.heap.size, 1, none⟩ (.string ⟨#[]⟩)).setCell ⟨w.heap.size, 2, none⟩ (.int .i64 0)) = w9 at *
      have d0 := A9.cell 0 rfl
      have d1 := A9.cell 1 rfl
      have d2 := A9.cell 2 rfl
      clear c0 c1 c2 f0 f1 f2
      refine bodyPost_ret (v := .tuple #[.agg #[.int .u8 0, .string ⟨#[]⟩, .int .i64 0], .int .i64 6]) (by simp [results, Tryd.f25, go_sem, d0, d1, d2]) rfl ?_
      exact ⟨by rw [← HR.out, if_neg (fun h => HER.out h.2.1)]; rfl, B9⟩
  · go_wp2_with fail
    have A9 := ((A5.set 0 (by simp) (.int .u8 0)).set 1 (by simp) (.string ⟨#[]⟩)).set 2 (by simp) (.int .i64 0)
    have B9 := ((B5.setCell (p := ⟨w.heap.size, 0, none⟩) (Nat.le_refl _) (.int .u8 0)).setCell (p := ⟨w.heap.size, 1, none⟩) (Nat.le_refl _) (.string ⟨#[]⟩)).setCell (p := ⟨w.heap.size, 2, none⟩) (Nat.le_refl _) (.int .i64 0)
    generalize (((w5.setCell ⟨w.heap.size, 0, none⟩ (.int .u8 0)).setCell ⟨w.heap.size, 1, none⟩ (.string ⟨#[]⟩)).setCell ⟨w.heap.size, 2, none⟩ (.int .i64 0)) = w9 at *
    have d0 := A9.cell 0 rfl
    have d1 := A9.cell 1 rfl
    have d2 := A9.cell 2 rfl
    clear c0 c1 c2 f0 f1 f2
    refine bodyPost_ret (v := .tuple #[.agg #[.int .u8 0, .string ⟨#[]⟩, .int .i64 0], .int .i64 6]) (by simp [results, Tryd.f25, go_sem, d0, d1, d2]) rfl ?_
    exact ⟨by rw [← HR.out, if_neg (fun h => by cases h.1)]; rfl, B9⟩

theorem parse_any (t : List UInt8) (ht : t.length ≤ 281474976710656) (w : World) (hV : Vars w) :
    Calls Tryd.prog 25 #[.string ⟨t.toArray⟩] w fun e w' => e = .returned (.tuple #[identV (parseI t).1.1 (parseI t).1.2.1 ((parseI t).1.2.2 : Int), .int .i64 ((parseI t).2 : Int)]) ∧ Below w.heap.size w w' := by
  by_cases hk : kindL t = 0
  · rw [parseI, if_pos hk]
    exact parse_none t hk w hV
  · cases t with
    | nil => exact absurd rfl hk
    | cons c r =>
      obtain ⟨nm, tl, hc⟩ : ∃ a b, cutL r = (a, b) := ⟨_, _, rfl⟩
      obtain ⟨n, ok, hu⟩ : ∃ a b, uintV 6 tl = (a, b) := ⟨_, _, rfl⟩
      obtain ⟨tx, er, htx⟩ : ∃ a b, textI (kindL (c :: r)) nm (n : Int) = (a, b) := ⟨_, _, rfl⟩
      refine (parse_some c r _ nm tl tx n er ok ht rfl (by omega) hc hu htx _ rfl w hV).mono ?_
      rintro e w' ⟨rfl, hb⟩
      refine ⟨congrArg _ ?_, hb⟩
      rw [parseI, if_neg hk, show (c :: r).drop 1 = r from rfl, hc]
      simp only [hu, htx, Prod.mk.injEq]
      by_cases h : ok = true ∧ er = 0 ∧ tx = c :: r
      · rw [if_pos h, if_pos ⟨h.1, h.2.2, h.2.1⟩]; rfl
      · rw [if_neg h, if_neg (fun h2 => h ⟨h2.1, h2.2.2, h2.2.1⟩)]; rfl
end Named
end Go.Proofs.YtbgjoefpnjgdkaaDoor
