/- The walks of disk.Fail and of its reference's, by contracts. -/
import Derived.Test.YtjfibmlpjcncmaaDiskWalks
namespace Go.Proofs.Ytjfibmlpjcncmaa
open Go.RowKit
set_option linter.unusedVariables false
set_option maxRecDepth 4000
namespace Disk

/-- the last of some bytes is turned -/
def lastXor (l : List UInt8) (b : UInt8) : List UInt8 := l.set (l.length - 1) (l.getD (l.length - 1) 0 ^^^ b)

theorem lastXor_length (l : List UInt8) (b : UInt8) : (lastXor l b).length = l.length := by simp [lastXor]

theorem xor_u8' (a b : UInt8) : bits .xor .u8 (a.toNat : Int) (b.toNat : Int) = ((a ^^^ b).toNat : Int) := by
  rw [u8_xor_nat _ _ a.toNat_lt b.toNat_lt, UInt8.toNat_xor]

theorem _root_.Go.Proofs.Ytjfibmlpjcncmaa.Bts.take {w : World} {g : Nat} {l : List UInt8} (h : Bts w g l) (n : Nat) : Bts w g (l.take n) := by
  refine ⟨h.1, fun j hj => ?_⟩
  have hj2 : j < l.length := by rw [List.length_take] at hj; omega
  rw [List.getElem_take]
  exact h.2 j hj2

theorem bytesCap_ge (W : World) (s : ByteArray) : s.size ≤ bytesCap W s := grownCap_ge W s.size 0 5

set_option maxHeartbeats 1000000 in
theorem fail_none (D : ByteArray) (p : Nat) (R k : Int) (b : UInt8) (h : Right D (p : Int) R) (w : World)
    (hmx : ∀ W, (Builtin.max_ #[3, 3] 3 #[.int .i64 k, .int .i64 0]).run Try.prog W = .ok (.int .i64 (max k 0)) W)
    (hmn : ∀ W, (Builtin.min_ #[3, 3] 3 #[.int .i64 (max k 0), .int .i64 ((D.size : Int) - (p : Int))]).run Try.prog W = .ok (.int .i64 0) W) :
    Calls Try.prog 42 #[.agg #[.string D, .int .i64 (p : Int), .int .i64 R], .int .i64 k, .int .u8 (b.toNat : Int)] w fun e w' => e = .returned (.tuple #[.agg #[.string ⟨(D.data.toList.take p).toArray⟩, .int .i64 (p : Int), .int .i64 R], .int .i64 0]) ∧ Below w.heap.size w w' := by
  have H := Lib.hid h
  obtain ⟨h1, h2, h3, h4⟩ := h
  go_enter Try.func42, Try.ntmps42
  go_wp2_with fail
  refine (check_ok D p R H.out _).mono ?_
  rintro e w1 ⟨rfl, hb⟩
  have T := (Two.made w _ _ _ _ _ _ _ _).below hb
  have hb1 : Below w.heap.size w w1 := (((Below.refl _ _).alloc (Nat.le_refl _) _).alloc (by simp) _).trans (hb.mono (by simp <;> omega))
  have hcv := bytes_conv D w1
  have hcap := bytesCap_ge w1 D
  have hcap2 : (p : Int) ≤ (bytesCap w1 D : Int) := by omega
  have T2 := T.below (bytesW_below w1 D)
  have hB := ((bytesW_bts w1 D).take p).conv (bytesCap w1 D)
  rw [show (D.data.toList.take p).length = p by simp; omega] at hB
  have hb2 : Below w.heap.size w (bytesW w1 D) := hb1.trans ((bytesW_below w1 D).mono hb1.size)
  have hsz2 := bytesW_size w1 D
  obtain ⟨hz, a0, a1, a2, b0, b1, b2, fa0, fa1, fa2, fb0, fb1, fb2⟩ := T
  have hl := Lib.hid (show (D.data.toList.take p).length = p by simp; omega)
  obtain ⟨kz, c0, c1, c2, d0, d1, d2, ga0, ga1, ga2, gb0, gb1, gb2⟩ := T2
  go_wp2_with fail
  refine (whole_any _ _ _).mono ?_
  rintro e w2 ⟨rfl, hb3⟩
  have T := (Two.mk kz c0 c1 c2 d0 d1 d2 ga0 ga1 ga2 gb0 gb1 gb2).below hb3
  have hb1 : Below w.heap.size w w2 := hb2.trans (hb3.mono hb2.size)
  clear hz a0 a1 a2 b0 b1 b2 fa0 fa1 fa2 fb0 fb1 fb2 hb2 kz c0 c1 c2 d0 d1 d2 ga0 ga1 ga2 gb0 gb1 gb2
  obtain ⟨hz, a0, a1, a2, b0, b1, b2, fa0, fa1, fa2, fb0, fb1, fb2⟩ := T
  go_wp2_with fail
  exact bodyPost_ret (v := .tuple #[.agg #[.string ⟨(D.data.toList.take p).toArray⟩, .int .i64 (p : Int), .int .i64 R], .int .i64 0]) (by simp [results, Try.results42, go_sem, *]; omega) rfl ⟨rfl, (by repeat (first | exact hb1 | refine Below.setCell ?_ (by simp) _))⟩
set_option maxHeartbeats 1000000 in
theorem fail_some (D : ByteArray) (p q : Nat) (R k : Int) (b : UInt8) (h : Right D (p : Int) R) (hq : 0 < q) (hpq : p + q ≤ D.size) (w : World)
    (hmx : ∀ W, (Builtin.max_ #[3, 3] 3 #[.int .i64 k, .int .i64 0]).run Try.prog W = .ok (.int .i64 (max k 0)) W)
    (hmn : ∀ W, (Builtin.min_ #[3, 3] 3 #[.int .i64 (max k 0), .int .i64 ((D.size : Int) - (p : Int))]).run Try.prog W = .ok (.int .i64 (q : Int)) W) :
    Calls Try.prog 42 #[.agg #[.string D, .int .i64 (p : Int), .int .i64 R], .int .i64 k, .int .u8 (b.toNat : Int)] w fun e w' => e = .returned (.tuple #[.agg #[.string ⟨(lastXor (D.data.toList.take (p + q)) b).toArray⟩, .int .i64 ((p : Int) + (q : Int)), .int .i64 R], .int .i64 0]) ∧ Below w.heap.size w w' := by
  have H := Lib.hid h
  obtain ⟨h1, h2, h3, h4⟩ := h
  go_enter Try.func42, Try.ntmps42
  go_wp2_with fail
  refine (check_ok D p R H.out _).mono ?_
  rintro e w1 ⟨rfl, hb⟩
  have T := (Two.made w _ _ _ _ _ _ _ _).below hb
  have hb1 : Below w.heap.size w w1 := (((Below.refl _ _).alloc (Nat.le_refl _) _).alloc (by simp) _).trans (hb.mono (by simp <;> omega))
  have hcv := bytes_conv D w1
  have hcap := bytesCap_ge w1 D
  have hcap2 : (p : Int) + (q : Int) ≤ (bytesCap w1 D : Int) := by omega
  have hpqi : (p : Int) + (q : Int) ≤ (D.size : Int) := by omega
  have hqi : (0 : Int) < (q : Int) := by omega
  have hlen : (D.data.toList.take (p + q)).length = p + q := by simp; omega
  have hB0 := (bytesW_bts w1 D).take (p + q)
  obtain ⟨c, hcl, hcc, hcf⟩ := hB0.byte (p + q - 1) (by omega)
  have hset : lastXor (D.data.toList.take (p + q)) b = (D.data.toList.take (p + q)).set (p + q - 1) (c ^^^ b) := by
    unfold lastXor
    rw [hlen, List.getD, hcl]; rfl
  have hB1 := hB0.set (p + q - 1) (c ^^^ b) (by omega)
  rw [← hset, ← xor_u8'] at hB1
  have hB := hB1.conv (bytesCap w1 D)
  rw [show (lastXor (D.data.toList.take (p + q)) b).length = p + q by rw [lastXor_length, hlen]] at hB
  have hbl : Below w1.heap.size w1 ((bytesW w1 D).setCell ⟨w1.heap.size, p + q - 1, none⟩ (.int .u8 (bits .xor .u8 (c.toNat : Int) (b.toNat : Int)))) := (bytesW_below w1 D).setCell (Nat.le_refl _) _
  have T2 := T.below (bytesW_below w1 D)
  have hb2 : Below w.heap.size w ((bytesW w1 D).setCell ⟨w1.heap.size, p + q - 1, none⟩ (.int .u8 (bits .xor .u8 (c.toNat : Int) (b.toNat : Int)))) := hb1.trans (hbl.mono hb1.size)
  have hsz2 := bytesW_size w1 D
  have T3 := Lib.hid (T.below hbl)
  have hlx : (lastXor (D.data.toList.take (p + q)) b).length = p + q := by rw [lastXor_length, hlen]
  have HLX := Lib.hid hlx
  obtain ⟨hz, a0, a1, a2, b0, b1, b2, fa0, fa1, fa2, fb0, fb1, fb2⟩ := T
  clear hlen hcl hset hlx hB0 hB1
  obtain ⟨kz, c0, c1, c2, d0, d1, d2, ga0, ga1, ga2, gb0, gb1, gb2⟩ := T2
  go_wp2_with fail
  refine (whole_any _ _ _).mono ?_
  rintro e w2 ⟨rfl, hb3⟩
  have T := T3.out.below hb3
  have hb1 : Below w.heap.size w w2 := hb2.trans (hb3.mono hb2.size)
  clear a0 a1 a2 b0 b1 b2 fa0 fa1 fa2 fb0 fb1 fb2
  have hs3 := HLX.out
  clear hz hb2 kz c0 c1 c2 d0 d1 d2 ga0 ga1 ga2 gb0 gb1 gb2
  obtain ⟨hz, a0, a1, a2, b0, b1, b2, fa0, fa1, fa2, fb0, fb1, fb2⟩ := T
  go_wp2_with fail
  exact bodyPost_ret (v := .tuple #[.agg #[.string ⟨(lastXor (D.data.toList.take (p + q)) b).toArray⟩, .int .i64 ((p : Int) + (q : Int)), .int .i64 R], .int .i64 0]) (by simp [results, Try.results42, go_sem, *]) rfl ⟨rfl, (by repeat (first | exact hb1 | refine Below.setCell ?_ (by simp) _))⟩
end Disk
end Go.Proofs.Ytjfibmlpjcncmaa
