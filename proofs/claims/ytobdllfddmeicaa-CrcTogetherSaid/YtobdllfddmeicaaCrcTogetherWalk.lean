/- The walk of the law CrcTogether, by the contracts of what it calls. -/
import Derived.Test.YtobdllfddmeicaaBytes
import Derived.Test.YtobdllfddmeicaaCrcWalks
import Derived.Deep.DrawnRows
namespace Go.Proofs.Ytobdllfddmeicaa
open Go.RowKit
set_option linter.unusedVariables false
attribute [local go_sem ↓] Go.wp_at_zero Go.wp_at_succ
namespace Crc

theorem min3 (s t : ByteArray) : ∃ n : Nat, n ≤ s.size ∧ n ≤ t.size ∧ n ≤ 65536 ∧ ∀ W, (Builtin.min_ #[3, 3, 3] 3 #[.int .i64 (s.size : Int), .int .i64 (t.size : Int), .int .i64 65536]).run Try.prog W = .ok (.int .i64 (n : Int)) W := by
  refine ⟨min (min s.size t.size) 65536, by omega, by omega, by omega, fun W => ?_⟩
  rw [run_min_int3]
  congr 2
  split <;> split at * <;> omega

theorem xor_u8 (a b : UInt8) : bits .xor .u8 (a.toNat : Int) (b.toNat : Int) = ((a ^^^ b).toNat : Int) := by
  rw [u8_xor_nat _ _ a.toNat_lt b.toNat_lt, UInt8.toNat_xor]

def zs (n : Nat) : List UInt8 := List.replicate n 0

theorem together_fin (s t : ByteArray) (n : Nat) (h1 : n ≤ s.size) (h2 : n ≤ t.size) (M : List UInt8) (hM : M = List.zipWith (· ^^^ ·) (s.data.toList.take n) (t.data.toList.take n)) :
    (bits .xor .u32 ((crc (s.data.toList.take n)).toNat : Int) ((crc (t.data.toList.take n)).toNat : Int) == bits .xor .u32 ((crc M).toNat : Int) ((crc (zs n)).toNat : Int)) = true := by
  rw [u32_xor_nat _ _ (crc _).isLt (crc _).isLt, u32_xor_nat _ _ (crc _).isLt (crc _).isLt, ← BitVec.toNat_xor, ← BitVec.toNat_xor]
  have hl : (s.data.toList.take n).length = n := by simp; omega
  have hl2 : (t.data.toList.take n).length = n := by simp; omega
  have := crc_together (s.data.toList.take n) (t.data.toList.take n) (by rw [hl, hl2])
  rw [hl] at this
  rw [this, hM]
  simp [zs]

/-- the first k bytes put together, then zeros -/
def mix (x y : List UInt8) (k : Nat) : List UInt8 := List.zipWith (· ^^^ ·) (x.take k) (y.take k) ++ List.replicate (x.length - k) 0

theorem mix_zero (x y : List UInt8) : mix x y 0 = List.replicate x.length 0 := by simp [mix]
theorem mix_length (x y : List UInt8) (h : x.length = y.length) (k : Nat) (hk : k ≤ x.length) : (mix x y k).length = x.length := by
  simp [mix]; omega
theorem mix_step (x y : List UInt8) (h : x.length = y.length) (k : Nat) (hk : k < x.length) : (mix x y k).set k (x[k] ^^^ y[k]) = mix x y (k + 1) := by
  have h1 : (List.zipWith (· ^^^ ·) (x.take k) (y.take k)).length = k := by simp; omega
  unfold mix
  rw [List.set_append_right _ _ (by omega), h1, Nat.sub_self, show x.length - k = (x.length - (k + 1)) + 1 by omega, List.replicate_succ, List.set_cons_zero]
  rw [List.take_succ_eq_append_getElem hk, List.take_succ_eq_append_getElem (show k < y.length by omega), List.zipWith_append (by simp; omega)]
  simp
theorem mix_all (x y : List UInt8) (h : x.length = y.length) : mix x y x.length = List.zipWith (· ^^^ ·) x y := by
  simp [mix, List.take_of_length_le (show y.length ≤ x.length by omega)]

set_option maxHeartbeats 20000000 in
theorem together_walk (s t : ByteArray) (hs : s.size ≤ maxLen) (ht : t.size ≤ maxLen) (w : World) :
    Calls Try.prog 6 #[.string s, .string t] w fun e w' => e = .returned (.bool true) ∧ Below w.heap.size w w' := by
  unfold maxLen at hs ht
  obtain ⟨n, hn1, hn2, hn3, hmin⟩ := min3 s t
  have hn1i : (n : Int) ≤ (s.size : Int) := by omega
  have hn2i : (n : Int) ≤ (t.size : Int) := by omega
  have hmk := make_bytes n (by omega)
  go_enter Try.func6, Try.ntmps6
  go_wp2_with fail
  refine (lives_any _).mono ?_
  rintro e w1 ⟨rfl, h1⟩
  go_wp2_with fail
  go_quiet (fail)
  have h2 := below_drewN h1 nq
  generalize w1.drewN nq = w2 at *
  clear hmin h1
  go_wp2_with fail
  have hB0 := Bts.made w2 n
  have hb0 : Below w.heap.size w (w2.alloc (.cells (zrow n) 5)) := h2.alloc h2.size _
  obtain ⟨g, hg⟩ : ∃ g, g = w2.heap.size := ⟨_, rfl⟩
  have hgw : w.heap.size ≤ g := by have := h2.size; omega
  obtain ⟨X, hX⟩ : ∃ X, X = s.data.toList.take n := ⟨_, rfl⟩
  obtain ⟨Y, hY⟩ : ∃ Y, Y = t.data.toList.take n := ⟨_, rfl⟩
  have hXl : X.length = n := by rw [hX]; simp; omega
  have hYl : Y.length = n := by rw [hY]; simp; omega
  rw [← hg] at hB0 ⊢
  have HG := Lib.hid hg
  have HX := Lib.hid hX
  have HY := Lib.hid hY
  have HXl := Lib.hid hXl
  have HYl := Lib.hid hYl
  have hm0 : List.replicate n 0 = mix X Y 0 := by rw [mix_zero, hXl]
  rw [hm0] at hB0
  generalize w2.alloc (.cells (zrow n) 5) = w3 at *
  clear hg hX hY hXl hYl hm0 hmk
  go_loopw [9, 27] (fun _ i wr => ∃ k : Nat, k ≤ n ∧ i = .int .i64 k ∧ Bts wr g (mix X Y k) ∧ Below w.heap.size w wr) (fun _ i _ => n - (intOf i).toNat)
  case atStart => exact ⟨0, by omega, rfl, hB0, hb0⟩
  case round =>
    obtain ⟨k, hk, rfl, hB, hb⟩ := hrel
    clear hB0 hb0 h2
    by_cases hlt : k < n
    · have hlti : (k : Int) < (n : Int) := by omega
      have hcf := hB.2 k (by rw [mix_length _ _ (by rw [HXl.out, HYl.out]) k (by rw [HXl.out]; omega), HXl.out]; exact hlt)
      have hc := hcf.1
      have hf := hcf.2
      have HB := Lib.hid hB
      clear hcf hB
      go_wp2
      have hv := Lib.hid (xor_u8 ((s.extract 0 n)[k]'(by simp; omega)) ((t.extract 0 n)[k]'(by simp; omega)))
      go_region
      have hst : Bts (wr.setCell ⟨g, k, none⟩ (.int .u8 (bits .xor .u8 ((s.extract 0 n)[k]'(by simp; omega)).toNat ((t.extract 0 n)[k]'(by simp; omega)).toNat))) g (mix X Y (k + 1)) := by
        rw [hv.out, ← mix_step X Y (by rw [HXl.out, HYl.out]) k (by rw [HXl.out]; exact hlt)]
        have e1 : X[k]'(by rw [HXl.out]; exact hlt) = (s.extract 0 n)[k]'(by simp; omega) := by
          have := HX.out
          subst this
          simp [ByteArray.getElem_eq_getElem_data]
        have e2 : Y[k]'(by rw [HYl.out]; exact hlt) = (t.extract 0 n)[k]'(by simp; omega) := by
          have := HY.out
          subst this
          simp [ByteArray.getElem_eq_getElem_data]
        rw [e1, e2]
        exact HB.out.set k _ (by rw [mix_length _ _ (by rw [HXl.out, HYl.out]) k (by rw [HXl.out]; omega), HXl.out]; exact hlt)
      have HST := Lib.hid hst
      clear hst hc hf
      go_wp2
      go_roundw
      case rel => exact ⟨k + 1, by omega, by go_num, HST.out.drew, (hb.setCell hgw _).drew⟩
      case measure => simp [intOf]; omega
    · have hkn : n = k := by omega
      have HK := Lib.hid hkn
      clear hkn
      obtain ⟨M, hM⟩ : ∃ M, M = mix X Y k := ⟨_, rfl⟩
      rw [← hM] at hB
      have hMl : M.length = n := by rw [hM, mix_length _ _ (by rw [HXl.out, HYl.out]) k (by rw [HXl.out]; omega), HXl.out]
      have hMz : M = List.zipWith (· ^^^ ·) X Y := by
        have := mix_all X Y (by rw [HXl.out, HYl.out])
        rw [HXl.out, HK.out] at this
        rw [hM, this]
      have hZ : Bts (wr.alloc (.cells (zrow n) 5)) wr.heap.size (zs n) := Bts.made wr n
      have hB2 : Bts (wr.alloc (.cells (zrow n) 5)) g M := hB.alloc _
      have hcv1 := hB.drew.conv n
      have hcv2 := hB2.drew.conv n
      have hcv3 := hZ.drew.conv n
      rw [hMl] at hcv1 hcv2
      rw [show (zs n).length = n from by simp [zs]] at hcv3
      have hmk := make_bytes n (by omega)
      have HF := Lib.hid (together_fin s t n hn1 hn2 M (by rw [hMz, HX.out, HY.out]))
      have HML := Lib.hid hMl
      clear hM hMl hMz hZ hB2 hB
      go_wp2_with fail
      go_region_with (go_at_call 12; refine (sum_any _ _ (by first | (simp; omega) | (rw [ByteArray.size_mk', List.size_toArray, HML.out]; omega) | (rw [ByteArray.size_mk', List.size_toArray]; simp [zs]; omega))).mono ?_; rintro e w' ⟨rfl, rfl⟩)
      all_goals go_wp2
      all_goals go_ret
      all_goals exact ⟨congrArg (fun b => Ending.returned (Value.bool b)) HF.out, (hb.alloc hb.size _).drew⟩
end Crc
end Go.Proofs.Ytobdllfddmeicaa
