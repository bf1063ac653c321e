/- The walks of chapter 10's laws StorePuts and StoreLoads. -/
import Derived.Test.YtjfibmlpjcncmaaStoLives
namespace Go.Proofs.Ytjfibmlpjcncmaa
open Go.RowKit
set_option linter.unusedVariables false
set_option linter.unusedSimpArgs false
set_option maxRecDepth 4000
namespace Sto
open Oct Crc Disk Jrn

theorem puts_long (D : ByteArray) (S R : Int) (r : ByteArray) (n : Int) (hs : (262144 : Int) < (D.size : Int)) (w : World) :
    Calls Try.prog 11 #[.agg #[.string D, .int .i64 S, .int .i64 R], .string r, .int .i64 n] w fun e w' => e = .returned (.bool true) ∧ Below w.heap.size w w' := by
  go_enter Try.func11, Try.ntmps11
  go_wp2_with fail
  refine (sto_lives _).mono ?_
  rintro e w1 ⟨rfl, hb⟩
  go_wp2_with fail
  go_ret
  exact ⟨rfl, (low_al _ _).trans (hb.mono (by simp))⟩

set_option maxHeartbeats 4000000 in
theorem puts_walk (D : ByteArray) (S R : Int) (t : List UInt8) (n : Int) (hs : (D.size : Int) ≤ 262144) (w : World) :
    Calls Try.prog 11 #[.agg #[.string D, .int .i64 S, .int .i64 R], .string ⟨t.toArray⟩, .int .i64 n] w fun e w' => e = .returned (.bool true) ∧ Below w.heap.size w w' := by
  have c1 := fun w => putEntry_any D S R t w
  have c2 := fun w => refPutEntry_any D S R t w
  generalize recR D S R (entR t) = r at c1 c2
  have c3 := fun w => putCount_any D S R n w
  have c4 := fun w => refPutCount_any D S R n w
  generalize recR D S R (cntR n) = q at c3 c4
  have c5 := fun w => compact_any D S R (by omega) w
  have c6 := fun w => refCompact_any D S R (by omega) w
  generalize compR D S R = u at c5 c6
  go_enter Try.func11, Try.ntmps11
  have B := Below.refl w.heap.size w
  have A0 := low_al w (.cells #[.string D, .int .i64 S, .int .i64 R] 47)
  have hA := A0
  have K := One.made w (.string D) (.int .i64 S) (.int .i64 R) 47
  have Kh := Lib.hid K
  obtain ⟨zK, aK0, aK1, aK2, fK0, fK1, fK2⟩ := K
  go_wp2_with fail
  refine (c1 _).mono ?_
  rintro e w1 ⟨rfl, hb⟩
  have hB := hA.trans (hb.mono hA.size)
  replace B := B.trans (hB.mono B.size)
  have K := Kh.out.below' hb
  clear hb hA hB A0 Kh zK aK0 fK0 aK1 fK1 aK2 fK2
  have A0 := low_al w1 (.cells #[.string r.d, .int .i64 r.s, .int .i64 r.r] 47)
  have hA := A0
  have Kh := Lib.hid K
  have Kp := K.below' hA
  obtain ⟨yK, bK0, bK1, bK2, gK0, gK1, gK2⟩ := K
  obtain ⟨zK, aK0, aK1, aK2, fK0, fK1, fK2⟩ := Kp
  have X0 := One.made w1 (.string r.d) (.int .i64 r.s) (.int .i64 r.r) 47
  have X0h := Lib.hid X0
  obtain ⟨zX0, aX00, aX01, aX02, fX00, fX01, fX02⟩ := X0
  go_wp2_with fail
  refine (c2 _).mono ?_
  rintro e w2 ⟨rfl, hb⟩
  have hB := hA.trans (hb.mono hA.size)
  replace B := B.trans (hB.mono B.size)
  have K := Kh.out.below' hB
  have X0 := X0h.out.below' hb
  clear hb hA hB A0 yK bK0 gK0 bK1 gK1 bK2 gK2 Kh zK aK0 fK0 aK1 fK1 aK2 fK2 X0h zX0 aX00 fX00 aX01 fX01 aX02 fX02
  clear c1
  have A0 := low_al w2 (.cells #[.string r.d, .int .i64 r.s, .int .i64 r.r] 47)
  have hA := A0
  have Kh := Lib.hid K
  have Kp := K.below' hA
  obtain ⟨yK, bK0, bK1, bK2, gK0, gK1, gK2⟩ := K
  obtain ⟨zK, aK0, aK1, aK2, fK0, fK1, fK2⟩ := Kp
  have X0h := Lib.hid X0
  have X0p := X0.below' hA
  obtain ⟨yX0, bX00, bX01, bX02, gX00, gX01, gX02⟩ := X0
  obtain ⟨zX0, aX00, aX01, aX02, fX00, fX01, fX02⟩ := X0p
  have X1 := One.made w2 (.string r.d) (.int .i64 r.s) (.int .i64 r.r) 47
  have X1h := Lib.hid X1
  obtain ⟨zX1, aX10, aX11, aX12, fX10, fX11, fX12⟩ := X1
  go_wp2_with fail
  refine (c3 _).mono ?_
  rintro e w3 ⟨rfl, hb⟩
  have hB := hA.trans (hb.mono hA.size)
  replace B := B.trans (hB.mono B.size)
  have K := Kh.out.below' hB
  have X0 := X0h.out.below' hB
  have X1 := X1h.out.below' hb
  clear hb hA hB A0 yK bK0 gK0 bK1 gK1 bK2 gK2 Kh zK aK0 fK0 aK1 fK1 aK2 fK2 yX0 bX00 gX00 bX01 gX01 bX02 gX02 X0h zX0 aX00 fX00 aX01 fX01 aX02 fX02 X1h zX1 aX10 fX10 aX11 fX11 aX12 fX12
  clear c2
  have A0 := low_al w3 (.cells #[.string q.d, .int .i64 q.s, .int .i64 q.r] 47)
  have hA := A0
  have Kh := Lib.hid K
  have Kp := K.below' hA
  obtain ⟨yK, bK0, bK1, bK2, gK0, gK1, gK2⟩ := K
  obtain ⟨zK, aK0, aK1, aK2, fK0, fK1, fK2⟩ := Kp
  have X0h := Lib.hid X0
  have X0p := X0.below' hA
  obtain ⟨yX0, bX00, bX01, bX02, gX00, gX01, gX02⟩ := X0
  obtain ⟨zX0, aX00, aX01, aX02, fX00, fX01, fX02⟩ := X0p
  have X1h := Lib.hid X1
  have X1p := X1.below' hA
  obtain ⟨yX1, bX10, bX11, bX12, gX10, gX11, gX12⟩ := X1
  obtain ⟨zX1, aX10, aX11, aX12, fX10, fX11, fX12⟩ := X1p
  have X2 := One.made w3 (.string q.d) (.int .i64 q.s) (.int .i64 q.r) 47
  have X2h := Lib.hid X2
  obtain ⟨zX2, aX20, aX21, aX22, fX20, fX21, fX22⟩ := X2
  go_wp2_with fail
  refine (c4 _).mono ?_
  rintro e w4 ⟨rfl, hb⟩
  have hB := hA.trans (hb.mono hA.size)
  replace B := B.trans (hB.mono B.size)
  have K := Kh.out.below' hB
  have X0 := X0h.out.below' hB
  have X1 := X1h.out.below' hB
  have X2 := X2h.out.below' hb
  clear hb hA hB A0 yK bK0 gK0 bK1 gK1 bK2 gK2 Kh zK aK0 fK0 aK1 fK1 aK2 fK2 yX0 bX00 gX00 bX01 gX01 bX02 gX02 X0h zX0 aX00 fX00 aX01 fX01 aX02 fX02 yX1 bX10 gX10 bX11 gX11 bX12 gX12 X1h zX1 aX10 fX10 aX11 fX11 aX12 fX12 X2h zX2 aX20 fX20 aX21 fX21 aX22 fX22
  clear c3
  have A0 := low_al w4 (.cells #[.string q.d, .int .i64 q.s, .int .i64 q.r] 47)
  have hA := A0
  have Kh := Lib.hid K
  have Kp := K.below' hA
  obtain ⟨yK, bK0, bK1, bK2, gK0, gK1, gK2⟩ := K
  obtain ⟨zK, aK0, aK1, aK2, fK0, fK1, fK2⟩ := Kp
  have X0h := Lib.hid X0
  have X0p := X0.below' hA
  obtain ⟨yX0, bX00, bX01, bX02, gX00, gX01, gX02⟩ := X0
  obtain ⟨zX0, aX00, aX01, aX02, fX00, fX01, fX02⟩ := X0p
  have X1h := Lib.hid X1
  have X1p := X1.below' hA
  obtain ⟨yX1, bX10, bX11, bX12, gX10, gX11, gX12⟩ := X1
  obtain ⟨zX1, aX10, aX11, aX12, fX10, fX11, fX12⟩ := X1p
  have X2h := Lib.hid X2
  have X2p := X2.below' hA
  obtain ⟨yX2, bX20, bX21, bX22, gX20, gX21, gX22⟩ := X2
  obtain ⟨zX2, aX20, aX21, aX22, fX20, fX21, fX22⟩ := X2p
  have X3 := One.made w4 (.string q.d) (.int .i64 q.s) (.int .i64 q.r) 47
  have X3h := Lib.hid X3
  obtain ⟨zX3, aX30, aX31, aX32, fX30, fX31, fX32⟩ := X3
  go_wp2_with fail
  refine (c5 _).mono ?_
  rintro e w5 ⟨rfl, hb⟩
  have hB := hA.trans (hb.mono hA.size)
  replace B := B.trans (hB.mono B.size)
  have K := Kh.out.below' hB
  have X0 := X0h.out.below' hB
  have X1 := X1h.out.below' hB
  have X2 := X2h.out.below' hB
  have X3 := X3h.out.below' hb
  clear hb hA hB A0 yK bK0 gK0 bK1 gK1 bK2 gK2 Kh zK aK0 fK0 aK1 fK1 aK2 fK2 yX0 bX00 gX00 bX01 gX01 bX02 gX02 X0h zX0 aX00 fX00 aX01 fX01 aX02 fX02 yX1 bX10 gX10 bX11 gX11 bX12 gX12 X1h zX1 aX10 fX10 aX11 fX11 aX12 fX12 yX2 bX20 gX20 bX21 gX21 bX22 gX22 X2h zX2 aX20 fX20 aX21 fX21 aX22 fX22 X3h zX3 aX30 fX30 aX31 fX31 aX32 fX32
  clear c4
  have A0 := low_al w5 (.cells #[.string u.d, .int .i64 u.s, .int .i64 u.r] 47)
  have hA := A0
  have Kh := Lib.hid K
  have Kp := K.below' hA
  obtain ⟨yK, bK0, bK1, bK2, gK0, gK1, gK2⟩ := K
  obtain ⟨zK, aK0, aK1, aK2, fK0, fK1, fK2⟩ := Kp
  have X0h := Lib.hid X0
  have X0p := X0.below' hA
  obtain ⟨yX0, bX00, bX01, bX02, gX00, gX01, gX02⟩ := X0
  obtain ⟨zX0, aX00, aX01, aX02, fX00, fX01, fX02⟩ := X0p
  have X1h := Lib.hid X1
  have X1p := X1.below' hA
  obtain ⟨yX1, bX10, bX11, bX12, gX10, gX11, gX12⟩ := X1
  obtain ⟨zX1, aX10, aX11, aX12, fX10, fX11, fX12⟩ := X1p
  have X2h := Lib.hid X2
  have X2p := X2.below' hA
  obtain ⟨yX2, bX20, bX21, bX22, gX20, gX21, gX22⟩ := X2
  obtain ⟨zX2, aX20, aX21, aX22, fX20, fX21, fX22⟩ := X2p
  have X3h := Lib.hid X3
  have X3p := X3.below' hA
  obtain ⟨yX3, bX30, bX31, bX32, gX30, gX31, gX32⟩ := X3
  obtain ⟨zX3, aX30, aX31, aX32, fX30, fX31, fX32⟩ := X3p
  have X4 := One.made w5 (.string u.d) (.int .i64 u.s) (.int .i64 u.r) 47
  have X4h := Lib.hid X4
  obtain ⟨zX4, aX40, aX41, aX42, fX40, fX41, fX42⟩ := X4
  go_wp2_with fail
  refine (c6 _).mono ?_
  rintro e w6 ⟨rfl, hb⟩
  have hB := hA.trans (hb.mono hA.size)
  replace B := B.trans (hB.mono B.size)
  have K := Kh.out.below' hB
  have X0 := X0h.out.below' hB
  have X1 := X1h.out.below' hB
  have X2 := X2h.out.below' hB
  have X3 := X3h.out.below' hB
  have X4 := X4h.out.below' hb
  clear hb hA hB A0 yK bK0 gK0 bK1 gK1 bK2 gK2 Kh zK aK0 fK0 aK1 fK1 aK2 fK2 yX0 bX00 gX00 bX01 gX01 bX02 gX02 X0h zX0 aX00 fX00 aX01 fX01 aX02 fX02 yX1 bX10 gX10 bX11 gX11 bX12 gX12 X1h zX1 aX10 fX10 aX11 fX11 aX12 fX12 yX2 bX20 gX20 bX21 gX21 bX22 gX22 X2h zX2 aX20 fX20 aX21 fX21 aX22 fX22 yX3 bX30 gX30 bX31 gX31 bX32 gX32 X3h zX3 aX30 fX30 aX31 fX31 aX32 fX32 X4h zX4 aX40 fX40 aX41 fX41 aX42 fX42
  clear c5
  have A0 := low_al w6 (.cells #[.string u.d, .int .i64 u.s, .int .i64 u.r] 47)
  have hA := A0
  have Kh := Lib.hid K
  have Kp := K.below' hA
  obtain ⟨yK, bK0, bK1, bK2, gK0, gK1, gK2⟩ := K
  obtain ⟨zK, aK0, aK1, aK2, fK0, fK1, fK2⟩ := Kp
  have X0h := Lib.hid X0
  have X0p := X0.below' hA
  obtain ⟨yX0, bX00, bX01, bX02, gX00, gX01, gX02⟩ := X0
  obtain ⟨zX0, aX00, aX01, aX02, fX00, fX01, fX02⟩ := X0p
  have X1h := Lib.hid X1
  have X1p := X1.below' hA
  obtain ⟨yX1, bX10, bX11, bX12, gX10, gX11, gX12⟩ := X1
  obtain ⟨zX1, aX10, aX11, aX12, fX10, fX11, fX12⟩ := X1p
  have X2h := Lib.hid X2
  have X2p := X2.below' hA
  obtain ⟨yX2, bX20, bX21, bX22, gX20, gX21, gX22⟩ := X2
  obtain ⟨zX2, aX20, aX21, aX22, fX20, fX21, fX22⟩ := X2p
  have X3h := Lib.hid X3
  have X3p := X3.below' hA
  obtain ⟨yX3, bX30, bX31, bX32, gX30, gX31, gX32⟩ := X3
  obtain ⟨zX3, aX30, aX31, aX32, fX30, fX31, fX32⟩ := X3p
  have X4h := Lib.hid X4
  have X4p := X4.below' hA
  obtain ⟨yX4, bX40, bX41, bX42, gX40, gX41, gX42⟩ := X4
  obtain ⟨zX4, aX40, aX41, aX42, fX40, fX41, fX42⟩ := X4p
  have X5 := One.made w6 (.string u.d) (.int .i64 u.s) (.int .i64 u.r) 47
  have X5h := Lib.hid X5
  obtain ⟨zX5, aX50, aX51, aX52, fX50, fX51, fX52⟩ := X5
  go_wp2_with fail
  refine (sto_lives _).mono ?_
  rintro e w7 ⟨rfl, hb⟩
  have hB := hA.trans (hb.mono hA.size)
  replace B := B.trans (hB.mono B.size)
  have K := Kh.out.below' hB
  have X0 := X0h.out.below' hB
  have X1 := X1h.out.below' hB
  have X2 := X2h.out.below' hB
  have X3 := X3h.out.below' hB
  have X4 := X4h.out.below' hB
  have X5 := X5h.out.below' hb
  clear hb hA hB A0 yK bK0 gK0 bK1 gK1 bK2 gK2 Kh zK aK0 fK0 aK1 fK1 aK2 fK2 yX0 bX00 gX00 bX01 gX01 bX02 gX02 X0h zX0 aX00 fX00 aX01 fX01 aX02 fX02 yX1 bX10 gX10 bX11 gX11 bX12 gX12 X1h zX1 aX10 fX10 aX11 fX11 aX12 fX12 yX2 bX20 gX20 bX21 gX21 bX22 gX22 X2h zX2 aX20 fX20 aX21 fX21 aX22 fX22 yX3 bX30 gX30 bX31 gX31 bX32 gX32 X3h zX3 aX30 fX30 aX31 fX31 aX32 fX32 yX4 bX40 gX40 bX41 gX41 bX42 gX42 X4h zX4 aX40 fX40 aX41 fX41 aX42 fX42 X5h zX5 aX50 fX50 aX51 fX51 aX52 fX52
  obtain ⟨zK, aK0, aK1, aK2, fK0, fK1, fK2⟩ := K
  obtain ⟨zX0, aX00, aX01, aX02, fX00, fX01, fX02⟩ := X0
  obtain ⟨zX1, aX10, aX11, aX12, fX10, fX11, fX12⟩ := X1
  obtain ⟨zX2, aX20, aX21, aX22, fX20, fX21, fX22⟩ := X2
  obtain ⟨zX3, aX30, aX31, aX32, fX30, fX31, fX32⟩ := X3
  obtain ⟨zX4, aX40, aX41, aX42, fX40, fX41, fX42⟩ := X4
  obtain ⟨zX5, aX50, aX51, aX52, fX50, fX51, fX52⟩ := X5
  go_wp2_with fail
  go_ret
  exact ⟨rfl, B⟩

theorem puts_top (D : ByteArray) (S R : Int) (wD : D.size ≤ maxLen) (wS : (Lit.int .i64 S).wf = true) (wR : (Lit.int .i64 R).wf = true) (r : ByteArray) (wr : r.size ≤ maxLen) (n : Int) (wn : (Lit.int .i64 n).wf = true) (w : World) :
    Calls Try.prog 11 #[.agg #[.string D, .int .i64 S, .int .i64 R], .string r, .int .i64 n] w fun e w' => e = .returned (.bool true) ∧ Below w.heap.size w w' := by
  by_cases h : (262144 : Int) < (D.size : Int)
  · exact puts_long D S R r n h w
  · obtain ⟨t, rfl, -⟩ := Jrn.bytes_of r
    exact puts_walk D S R t n (by omega) w

theorem loads_long (s : ByteArray) (D : ByteArray) (S R : Int) (hs : (262144 : Int) < (s.size : Int) ∨ (262144 : Int) < (D.size : Int)) (w : World) :
    Calls Try.prog 12 #[.string s, .agg #[.string D, .int .i64 S, .int .i64 R]] w fun e w' => e = .returned (.bool true) ∧ Below w.heap.size w w' := by
  go_enter Try.func12, Try.ntmps12
  by_cases h1 : (262144 : Int) < (s.size : Int)
  · go_wp2_with fail
    refine (sto_lives _).mono ?_
    rintro e w1 ⟨rfl, hb⟩
    go_wp2_with fail
    go_ret
    exact ⟨rfl, (low_al _ _).trans (hb.mono (by simp))⟩
  · have h2 : (262144 : Int) < (D.size : Int) := hs.resolve_left h1
    go_wp2_with fail
    refine (sto_lives _).mono ?_
    rintro e w1 ⟨rfl, hb⟩
    go_wp2_with fail
    go_ret
    exact ⟨rfl, (low_al _ _).trans (hb.mono (by simp))⟩

theorem rest_small (D : ByteArray) (S R : Int) (hD : (D.size : Int) ≤ 262144) : ((restR D S R).2.1.length : Int) ≤ 2097152 := by
  have hm := mend_d D S R (by omega)
  have hl := loadR_length (mendR D S R).d.data.toList
  unfold restR
  split
  · simp
  · split
    · simp
    · dsimp only
      omega

theorem same10_refl (va vb : Value) (l : List (List UInt8)) (a : Int) (w : World) (ha : StrRow w va l) (hb : StrRow w vb l) (h : (l.length : Int) ≤ 2097152) :
    Calls Try.prog 54 #[.agg #[va, .int .i64 a], .agg #[vb, .int .i64 a]] w fun e w' => e = .returned (.bool true) ∧ Below w.heap.size w w' := by
  have k := same10_any va vb l l a a w ha hb h
  rwa [show (decide (a = a) && decide (l = l)) = true by simp] at k

set_option maxHeartbeats 8000000 in
theorem loads_walk (l : List UInt8) (D : ByteArray) (S R : Int) (hl : (l.length : Int) ≤ 262144) (hs : (D.size : Int) ≤ 262144) (w : World) :
    Calls Try.prog 12 #[.string ⟨l.toArray⟩, .agg #[.string D, .int .i64 S, .int .i64 R]] w fun e w' => e = .returned (.bool true) ∧ Below w.heap.size w w' := by
  have c1 := fun w => load_any l (by omega) w
  have c2 := fun w => refLoad_any l (by omega) w
  have hg := loadR_length l
  generalize loadR l = g at c1 c2 hg
  have HG := Lib.hid (show (g.1.length : Int) ≤ 2097152 by omega)
  have c3 := fun w => restart_any D S R (by omega) w
  have c4 := fun w => refRestart_any D S R (by omega) w
  have hr := rest_small D S R hs
  generalize restR D S R = q at c3 c4 hr
  have HR := Lib.hid hr
  obtain ⟨ge, gc, gr⟩ := g
  obtain ⟨qd, qe, qc⟩ := q
  dsimp only at c1 c2 c3 c4
  clear hg hr
  go_enter Try.func12, Try.ntmps12
  have B := Below.refl w.heap.size w
  have A0 := low_al w (.cells #[.string D, .int .i64 S, .int .i64 R] 47)
  have hA := A0
  have K := One.made w (.string D) (.int .i64 S) (.int .i64 R) 47
  have Kh := Lib.hid K
  obtain ⟨zK, aK0, aK1, aK2, fK0, fK1, fK2⟩ := K
  go_wp2_with fail
  refine (c1 _).mono ?_
  rintro e w1 ⟨v, rfl, o, hb⟩
  have hB := hA.trans (hb.mono hA.size)
  replace B := B.trans (hB.mono B.size)
  have K := Kh.out.below' hb
  clear hb hA hB A0 Kh zK aK0 fK0 aK1 fK1 aK2 fK2
  obtain ⟨p1, v1, rfl⟩ := own_of o
  have R1 := o.row
  clear o c1
  have A0 := low_al w1 (.cells #[.slice p1 ge.length v1, .int .i64 (gc : Int)] 61)
  have hA := A0
  have Kh := Lib.hid K
  have Kp := K.below' hA
  obtain ⟨yK, bK0, bK1, bK2, gK0, gK1, gK2⟩ := K
  obtain ⟨zK, aK0, aK1, aK2, fK0, fK1, fK2⟩ := Kp
  have X1 := Pair.made w1 (.slice p1 ge.length v1) (.int .i64 (gc : Int)) 61
  have X1h := Lib.hid X1
  obtain ⟨zX1, aX10, aX11, fX10, fX11⟩ := X1
  go_wp2_with fail
  refine (c2 _).mono ?_
  rintro e w2 ⟨v, rfl, o, hb⟩
  have hB := hA.trans (hb.mono hA.size)
  replace B := B.trans (hB.mono B.size)
  have K := Kh.out.below' hB
  have X1 := X1h.out.below' hb
  replace R1 := R1.below rfl hB
  clear hb hA hB A0 yK bK0 gK0 bK1 gK1 bK2 gK2 Kh zK aK0 fK0 aK1 fK1 aK2 fK2 X1h zX1 aX10 fX10 aX11 fX11
  obtain ⟨p2, v2, rfl⟩ := own_of o
  have R2 := o.row
  clear o c2
  have A0 := low_al w2 (.cells #[.slice p2 ge.length v2, .int .i64 (gc : Int)] 61)
  have hA := A0
  have Kh := Lib.hid K
  have Kp := K.below' hA
  obtain ⟨yK, bK0, bK1, bK2, gK0, gK1, gK2⟩ := K
  obtain ⟨zK, aK0, aK1, aK2, fK0, fK1, fK2⟩ := Kp
  have X1h := Lib.hid X1
  have X1p := X1.below' hA
  obtain ⟨yX1, bX10, bX11, gX10, gX11⟩ := X1
  obtain ⟨zX1, aX10, aX11, fX10, fX11⟩ := X1p
  have X2 := Pair.made w2 (.slice p2 ge.length v2) (.int .i64 (gc : Int)) 61
  have X2h := Lib.hid X2
  obtain ⟨zX2, aX20, aX21, fX20, fX21⟩ := X2
  go_wp2_with fail
  refine (c3 _).mono ?_
  rintro e w3 ⟨v, rfl, o, hb⟩
  have hB := hA.trans (hb.mono hA.size)
  replace B := B.trans (hB.mono B.size)
  have K := Kh.out.below' hB
  have X1 := X1h.out.below' hB
  have X2 := X2h.out.below' hb
  replace R1 := R1.below rfl hB
  replace R2 := R2.below rfl hB
  clear hb hA hB A0 yK bK0 gK0 bK1 gK1 bK2 gK2 Kh zK aK0 fK0 aK1 fK1 aK2 fK2 yX1 bX10 gX10 bX11 gX11 X1h zX1 aX10 fX10 aX11 fX11 X2h zX2 aX20 fX20 aX21 fX21
  obtain ⟨p3, v3, rfl⟩ := own_of o
  have R3 := o.row
  clear o c3
  have A0 := low_al w3 (.cells #[.string qd.d, .int .i64 qd.s, .int .i64 qd.r] 47)
  have A1 := low_al (w3.alloc (.cells #[.string qd.d, .int .i64 qd.s, .int .i64 qd.r] 47)) (.cells #[.slice p3 qe.length v3, .int .i64 (qc : Int)] 61)
  have hA := A0
  replace hA := hA.trans (A1.mono (by simp; try omega))
  have Kh := Lib.hid K
  have Kp := K.below' hA
  obtain ⟨yK, bK0, bK1, bK2, gK0, gK1, gK2⟩ := K
  obtain ⟨zK, aK0, aK1, aK2, fK0, fK1, fK2⟩ := Kp
  have X1h := Lib.hid X1
  have X1p := X1.below' hA
  obtain ⟨yX1, bX10, bX11, gX10, gX11⟩ := X1
  obtain ⟨zX1, aX10, aX11, fX10, fX11⟩ := X1p
  have X2h := Lib.hid X2
  have X2p := X2.below' hA
  obtain ⟨yX2, bX20, bX21, gX20, gX21⟩ := X2
  obtain ⟨zX2, aX20, aX21, fX20, fX21⟩ := X2p
  have E3 := One.made w3 (.string qd.d) (.int .i64 qd.s) (.int .i64 qd.r) 47
  replace E3 := E3.below' A1
  have E3h := Lib.hid E3
  obtain ⟨zE3, aE30, aE31, aE32, fE30, fE31, fE32⟩ := E3
  have X3 := Pair.made (w3.alloc (.cells #[.string qd.d, .int .i64 qd.s, .int .i64 qd.r] 47)) (.slice p3 qe.length v3) (.int .i64 (qc : Int)) 61
  rw [show (w3.alloc (.cells #[.string qd.d, .int .i64 qd.s, .int .i64 qd.r] 47)).heap.size = w3.heap.size + 1 by simp] at X3
  have X3h := Lib.hid X3
  obtain ⟨zX3, aX30, aX31, fX30, fX31⟩ := X3
  go_wp2_with fail
  refine (c4 _).mono ?_
  rintro e w4 ⟨v, rfl, o, hb⟩
  have hB := hA.trans (hb.mono hA.size)
  replace B := B.trans (hB.mono B.size)
  have K := Kh.out.below' hB
  have X1 := X1h.out.below' hB
  have X2 := X2h.out.below' hB
  have E3 := E3h.out.below' hb
  have X3 := X3h.out.below' hb
  replace R1 := R1.below rfl hB
  replace R2 := R2.below rfl hB
  replace R3 := R3.below rfl hB
  clear hb hA hB A0 A1 yK bK0 gK0 bK1 gK1 bK2 gK2 Kh zK aK0 fK0 aK1 fK1 aK2 fK2 yX1 bX10 gX10 bX11 gX11 X1h zX1 aX10 fX10 aX11 fX11 yX2 bX20 gX20 bX21 gX21 X2h zX2 aX20 fX20 aX21 fX21 E3h zE3 aE30 fE30 aE31 fE31 aE32 fE32 X3h zX3 aX30 fX30 aX31 fX31
  obtain ⟨p4, v4, rfl⟩ := own_of o
  have R4 := o.row
  clear o c4
  have A0 := low_al w4 (.cells #[.string qd.d, .int .i64 qd.s, .int .i64 qd.r] 47)
  have A1 := low_al (w4.alloc (.cells #[.string qd.d, .int .i64 qd.s, .int .i64 qd.r] 47)) (.cells #[.slice p4 qe.length v4, .int .i64 (qc : Int)] 61)
  have hA := A0
  replace hA := hA.trans (A1.mono (by simp; try omega))
  have Kh := Lib.hid K
  have Kp := K.below' hA
  obtain ⟨yK, bK0, bK1, bK2, gK0, gK1, gK2⟩ := K
  obtain ⟨zK, aK0, aK1, aK2, fK0, fK1, fK2⟩ := Kp
  have X1h := Lib.hid X1
  have X1p := X1.below' hA
  obtain ⟨yX1, bX10, bX11, gX10, gX11⟩ := X1
  obtain ⟨zX1, aX10, aX11, fX10, fX11⟩ := X1p
  have X2h := Lib.hid X2
  have X2p := X2.below' hA
  obtain ⟨yX2, bX20, bX21, gX20, gX21⟩ := X2
  obtain ⟨zX2, aX20, aX21, fX20, fX21⟩ := X2p
  have E3h := Lib.hid E3
  have E3p := E3.below' hA
  obtain ⟨yE3, bE30, bE31, bE32, gE30, gE31, gE32⟩ := E3
  obtain ⟨zE3, aE30, aE31, aE32, fE30, fE31, fE32⟩ := E3p
  have X3h := Lib.hid X3
  have X3p := X3.below' hA
  obtain ⟨yX3, bX30, bX31, gX30, gX31⟩ := X3
  obtain ⟨zX3, aX30, aX31, fX30, fX31⟩ := X3p
  have E4 := One.made w4 (.string qd.d) (.int .i64 qd.s) (.int .i64 qd.r) 47
  replace E4 := E4.below' A1
  have E4h := Lib.hid E4
  obtain ⟨zE4, aE40, aE41, aE42, fE40, fE41, fE42⟩ := E4
  have X4 := Pair.made (w4.alloc (.cells #[.string qd.d, .int .i64 qd.s, .int .i64 qd.r] 47)) (.slice p4 qe.length v4) (.int .i64 (qc : Int)) 61
  rw [show (w4.alloc (.cells #[.string qd.d, .int .i64 qd.s, .int .i64 qd.r] 47)).heap.size = w4.heap.size + 1 by simp] at X4
  have X4h := Lib.hid X4
  obtain ⟨zX4, aX40, aX41, fX40, fX41⟩ := X4
  go_wp2_with fail
  refine (sto_lives _).mono ?_
  rintro e w5 ⟨rfl, hb⟩
  have hB := hA.trans (hb.mono hA.size)
  replace B := B.trans (hB.mono B.size)
  have K := Kh.out.below' hB
  have X1 := X1h.out.below' hB
  have X2 := X2h.out.below' hB
  have E3 := E3h.out.below' hB
  have X3 := X3h.out.below' hB
  have E4 := E4h.out.below' hb
  have X4 := X4h.out.below' hb
  replace R1 := R1.below rfl hB
  replace R2 := R2.below rfl hB
  replace R3 := R3.below rfl hB
  replace R4 := R4.below rfl hB
  clear hb hA hB A0 A1 yK bK0 gK0 bK1 gK1 bK2 gK2 Kh zK aK0 fK0 aK1 fK1 aK2 fK2 yX1 bX10 gX10 bX11 gX11 X1h zX1 aX10 fX10 aX11 fX11 yX2 bX20 gX20 bX21 gX21 X2h zX2 aX20 fX20 aX21 fX21 yE3 bE30 gE30 bE31 gE31 bE32 gE32 E3h zE3 aE30 fE30 aE31 fE31 aE32 fE32 yX3 bX30 gX30 bX31 gX31 X3h zX3 aX30 fX30 aX31 fX31 E4h zE4 aE40 fE40 aE41 fE41 aE42 fE42 X4h zX4 aX40 fX40 aX41 fX41
  have k := fun w h1 h2 => same10_refl (.slice p1 ge.length v1) (.slice p2 ge.length v2) ge (gc : Int) w h1 h2 HG.out
  have hA : Below w5.heap.size w5 w5 := Below.refl _ _
  have Kh := Lib.hid K
  have Kp := K.below' hA
  obtain ⟨zK, aK0, aK1, aK2, fK0, fK1, fK2⟩ := Kp
  clear K
  have X1h := Lib.hid X1
  have X1p := X1.below' hA
  obtain ⟨zX1, aX10, aX11, fX10, fX11⟩ := X1p
  clear X1
  have X2h := Lib.hid X2
  have X2p := X2.below' hA
  obtain ⟨zX2, aX20, aX21, fX20, fX21⟩ := X2p
  clear X2
  have E3h := Lib.hid E3
  have E3p := E3.below' hA
  obtain ⟨zE3, aE30, aE31, aE32, fE30, fE31, fE32⟩ := E3p
  clear E3
  have X3h := Lib.hid X3
  have X3p := X3.below' hA
  obtain ⟨zX3, aX30, aX31, fX30, fX31⟩ := X3p
  clear X3
  have E4h := Lib.hid E4
  have E4p := E4.below' hA
  obtain ⟨zE4, aE40, aE41, aE42, fE40, fE41, fE42⟩ := E4p
  clear E4
  have X4h := Lib.hid X4
  have X4p := X4.below' hA
  obtain ⟨zX4, aX40, aX41, fX40, fX41⟩ := X4p
  clear X4
  go_wp2_with fail
  refine (k _ R1 R2).mono ?_
  rintro e w6 ⟨rfl, hb⟩
  have hB := hA.trans (hb.mono hA.size)
  replace B := B.trans (hB.mono B.size)
  have K := Kh.out.below' hB
  have X1 := X1h.out.below' hB
  have X2 := X2h.out.below' hB
  have E3 := E3h.out.below' hB
  have X3 := X3h.out.below' hB
  have E4 := E4h.out.below' hB
  have X4 := X4h.out.below' hB
  replace R1 := R1.below rfl hB
  replace R2 := R2.below rfl hB
  replace R3 := R3.below rfl hB
  replace R4 := R4.below rfl hB
  clear hb hA hB Kh zK aK0 fK0 aK1 fK1 aK2 fK2 X1h zX1 aX10 fX10 aX11 fX11 X2h zX2 aX20 fX20 aX21 fX21 E3h zE3 aE30 fE30 aE31 fE31 aE32 fE32 X3h zX3 aX30 fX30 aX31 fX31 E4h zE4 aE40 fE40 aE41 fE41 aE42 fE42 X4h zX4 aX40 fX40 aX41 fX41
  clear k
  have k := fun w h1 h2 => same10_refl (.slice p3 qe.length v3) (.slice p4 qe.length v4) qe (qc : Int) w h1 h2 HR.out
  have hA : Below w6.heap.size w6 w6 := Below.refl _ _
  have Kh := Lib.hid K
  have Kp := K.below' hA
  obtain ⟨zK, aK0, aK1, aK2, fK0, fK1, fK2⟩ := Kp
  clear K
  have X1h := Lib.hid X1
  have X1p := X1.below' hA
  obtain ⟨zX1, aX10, aX11, fX10, fX11⟩ := X1p
  clear X1
  have X2h := Lib.hid X2
  have X2p := X2.below' hA
  obtain ⟨zX2, aX20, aX21, fX20, fX21⟩ := X2p
  clear X2
  have E3h := Lib.hid E3
  have E3p := E3.below' hA
  obtain ⟨zE3, aE30, aE31, aE32, fE30, fE31, fE32⟩ := E3p
  clear E3
  have X3h := Lib.hid X3
  have X3p := X3.below' hA
  obtain ⟨zX3, aX30, aX31, fX30, fX31⟩ := X3p
  clear X3
  have E4h := Lib.hid E4
  have E4p := E4.below' hA
  obtain ⟨zE4, aE40, aE41, aE42, fE40, fE41, fE42⟩ := E4p
  clear E4
  have X4h := Lib.hid X4
  have X4p := X4.below' hA
  obtain ⟨zX4, aX40, aX41, fX40, fX41⟩ := X4p
  clear X4
  go_wp2_with fail
  refine (k _ R3 R4).mono ?_
  rintro e w7 ⟨rfl, hb⟩
  have hB := hA.trans (hb.mono hA.size)
  replace B := B.trans (hB.mono B.size)
  have K := Kh.out.below' hB
  have X1 := X1h.out.below' hB
  have X2 := X2h.out.below' hB
  have E3 := E3h.out.below' hB
  have X3 := X3h.out.below' hB
  have E4 := E4h.out.below' hB
  have X4 := X4h.out.below' hB
  replace R1 := R1.below rfl hB
  replace R2 := R2.below rfl hB
  replace R3 := R3.below rfl hB
  replace R4 := R4.below rfl hB
  clear hb hA hB Kh zK aK0 fK0 aK1 fK1 aK2 fK2 X1h zX1 aX10 fX10 aX11 fX11 X2h zX2 aX20 fX20 aX21 fX21 E3h zE3 aE30 fE30 aE31 fE31 aE32 fE32 X3h zX3 aX30 fX30 aX31 fX31 E4h zE4 aE40 fE40 aE41 fE41 aE42 fE42 X4h zX4 aX40 fX40 aX41 fX41
  clear k
  obtain ⟨zK, aK0, aK1, aK2, fK0, fK1, fK2⟩ := K
  obtain ⟨zX1, aX10, aX11, fX10, fX11⟩ := X1
  obtain ⟨zX2, aX20, aX21, fX20, fX21⟩ := X2
  obtain ⟨zE3, aE30, aE31, aE32, fE30, fE31, fE32⟩ := E3
  obtain ⟨zX3, aX30, aX31, fX30, fX31⟩ := X3
  obtain ⟨zE4, aE40, aE41, aE42, fE40, fE41, fE42⟩ := E4
  obtain ⟨zX4, aX40, aX41, fX40, fX41⟩ := X4
  go_wp2_with fail
  go_ret
  exact ⟨rfl, B⟩

theorem loads_top (s : ByteArray) (ws : s.size ≤ maxLen) (D : ByteArray) (S R : Int) (wD : D.size ≤ maxLen) (wS : (Lit.int .i64 S).wf = true) (wR : (Lit.int .i64 R).wf = true) (w : World) :
    Calls Try.prog 12 #[.string s, .agg #[.string D, .int .i64 S, .int .i64 R]] w fun e w' => e = .returned (.bool true) ∧ Below w.heap.size w w' := by
  by_cases h : (262144 : Int) < (s.size : Int) ∨ (262144 : Int) < (D.size : Int)
  · exact loads_long s D S R h w
  · obtain ⟨t, rfl, ht⟩ := Jrn.bytes_of s
    exact loads_walk t D S R (by omega) (by omega) w
end Sto
end Go.Proofs.Ytjfibmlpjcncmaa
