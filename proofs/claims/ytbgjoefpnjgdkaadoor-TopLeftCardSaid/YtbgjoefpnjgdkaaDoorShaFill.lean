/- sha's last bytes, filled up. -/
import Derived.Test.YtbgjoefpnjgdkaaDoorShaBytes
import Derived.Test.YtbgjoefpnjgdkaaDoorBag
namespace Go.Proofs.YtbgjoefpnjgdkaaDoor
open Go.RowKit
set_option linter.unusedVariables false
set_option linter.unusedSimpArgs false
set_option maxRecDepth 100000
namespace Sha
/-- a byte of the length -/
def lenB (q : Int) (i : Nat) : UInt8 := UInt8.ofNat (q / 2 ^ (56 - 8 * i) % 256).toNat
def lenL (q : Int) (n : Nat) : List UInt8 := (List.range n).map (lenB q)
theorem lenL_length (q : Int) (n : Nat) : (lenL q n).length = n := by simp [lenL]
theorem lenL_succ (q : Int) (n : Nat) : lenL q (n + 1) = lenL q n ++ [lenB q n] := by simp [lenL, List.range_succ]
def padN (m : Nat) : Nat := (119 - m % 64) % 64
def padL (r : List UInt8) : List UInt8 := r ++ [128] ++ List.replicate (padN r.length) 0
def fillL (r : List UInt8) (q : Int) : List UInt8 := padL r ++ lenL q 8
theorem padL_length (r : List UInt8) : (padL r).length = r.length + 1 + padN r.length := by simp [padL]; omega
theorem fillL_length (r : List UInt8) (q : Int) : (fillL r q).length % 64 = 0 := by
  rw [fillL, List.length_append, lenL_length, padL_length, padN]; omega
theorem fillL_short (r : List UInt8) (q : Int) (h : r.length < 64) : (fillL r q).length ≤ 128 := by
  rw [fillL, List.length_append, lenL_length, padL_length, padN]; omega

theorem bag_one {w : World} {x : Int} {c : UInt8} {t : TypeId} {H : Nat} (hH : w.heap.size = H) (hx : x = (c.toNat : Int)) : ∀ j u, (bytesV [c])[j]? = some u → (w.alloc (.cells #[.int .u8 x] t)).cell? ((⟨H, 0, none⟩ : Addr).add j) = some u := by
  subst hx
  subst hH
  exact cell_one_new _ _ _

theorem u8v (x : Int) : x % 256 = ((UInt8.ofNat (x % 256).toNat).toNat : Int) := by
  rw [UInt8.toNat_ofNat']; omega

set_option maxHeartbeats 4000000 in
theorem fill_any (s : ByteArray) (q : Int) (hs : s.size < 64) (n n' : Int) (w : World) (hq : IntKind.u64.wrap (n' * 8) = q) (hn : IntKind.u64.wrap n = n') :
    Calls Tryd.prog 42 #[.string s, .int .i64 n] w fun e w' => ∃ v, e = .returned v ∧ Bag w.heap.size w' v (fillL s.data.toList q) ∧ Below w.heap.size w w' := by
  have hcv := bytes_conv s w
  have HB := Lib.hid (Bag.bytesW w s w.heap.size (Nat.le_refl _))
  have BW := Lib.hid (bytesW_below w s)
  have hsl : s.data.toList.length = s.size := by rw [Array.length_toList]; rfl
  have hbs := bytesW_size w s
  generalize bytesW w s = wb at *
  generalize bytesCap w s = cap at *
  have c128 : (128 : Int) = ((128 : UInt8).toNat : Int) := by decide
  have C128 := Lib.hid c128
  have hbl : w.heap.size ≤ (wb.alloc (Obj.cells #[Value.int IntKind.u8 128] 5)).heap.size := by simp; omega
  have HBL := Lib.hid hbl
  have hfit : s.data.toList.length + [(128 : UInt8)].length ≤ 1099511627776 := by rw [hsl]; simp; omega
  have HFIT := Lib.hid hfit
  clear c128 hbl hfit
  go_enter Tryd.func42, Tryd.ntmps42
  go_wp2_with (at_builtin; refine wpList_append_bag rfl (.tmp 9) (.tmp 10) rfl w.heap.size _ s.data.toList rfl (HB.out.alloc _) HBL.out ⟨w.heap.size + 1, 0, none⟩ 1 1 [128] rfl rfl (bag_one hbs C128.out) HFIT.out ?_; intro v1 w1 hv1 hg1)
  have hbw1 : Below w.heap.size w w1 := ((BW.out.alloc (by omega) _)).grown hg1 (by simp; omega) (fun k hk => by cases hk; exact Nat.le_refl _)
  obtain ⟨g1, c1, rfl, hg1b, hg1s, hg1c⟩ := hv1.form (by simp)
  have hws1 : w.heap.size ≤ w1.heap.size := hbw1.size
  have HV1 := Lib.hid hv1
  have HBW1 := Lib.hid hbw1
  clear hv1 hbw1 hg1 HB BW hcv hbs HBL HFIT C128 hg1b hg1s hg1c
  rw [List.length_append, List.length_singleton, hsl]
  rw [List.length_append, List.length_singleton, hsl] at HV1
  have C0 : Hid ((0 : Int) = ((0 : UInt8).toNat : Int)) := Lib.hid (by decide)
  have HQ := Lib.hid hq
  go_loopw [5] (fun v wr => ∃ (j m g c : Nat), j ≤ padN s.size ∧ Hid (m = s.size + 1 + j) ∧ v = .slice (some ⟨g, 0, none⟩) m c ∧ Hid (Bag w.heap.size wr v (s.data.toList ++ [128] ++ List.replicate j 0)) ∧ Hid (Below w.heap.size w wr) ∧ w.heap.size ≤ wr.heap.size) (fun v _ => padN s.size + 1 + s.size - (match v with | .slice _ m _ => m | _ => 0))
  case atStart => exact ⟨0, _, g1, c1, by omega, rfl, rfl, by simpa using HV1, HBW1, hws1⟩
  case round =>
    obtain ⟨j, m, g, c, hj, HM, rfl, HV, HB, hws⟩ := hrel
    clear HV1 HBW1 hws1
    by_cases hlt : m % 64 = 56
    · have hjp : j = padN s.size := by have := HM.out; unfold padN at hj ⊢; omega
      have hmi : (m : Int) % 64 = 56 := by omega
      have HL : Hid (s.data.toList ++ [128] ++ List.replicate j 0 = padL s.data.toList) := by rw [hjp, padL, hsl]; exact Lib.hid rfl
      have hm2 : m = (padL s.data.toList).length := by rw [padL_length, hsl, HM.out, hjp]
      have hmb : m < 200 := by have := HM.out; unfold padN at hj; omega
      rw [HL.out] at HV
      generalize hL : padL s.data.toList = L at *
      have HLL := Lib.hid hL
      clear hL
      have HM2 := Lib.hid hm2
      clear hm2 HL HM hjp hj hlt
      go_wp2_with fail
      go_loopw [5, 7] (fun v i wr => ∃ (u m g c : Nat), u ≤ 8 ∧ i = .int .i64 (56 - 8 * (u : Int)) ∧ v = .slice (some ⟨g, 0, none⟩) m c ∧ Hid (m = L.length + u) ∧ Hid (Bag w.heap.size wr v (L ++ lenL q u)) ∧ Hid (Below w.heap.size w wr) ∧ w.heap.size ≤ wr.heap.size) (fun _ i _ => (intOf i + 8).toNat)
      case atStart => exact ⟨0, m, g, c, by omega, rfl, rfl, HM2, by simpa [lenL] using HV, HB, hws⟩
      case round =>
        clear HV HB hws hmi
        obtain ⟨u, m', g', c', hu, rfl, rfl, HM', HV', HB', hws'⟩ := hrel
        by_cases hlt : u < 8
        · have hti : (0 : Int) ≤ 56 - 8 * (u : Int) := by omega
          have hmb' : m' < 300 := by have := HM'.out; have := HM2.out; omega
          have HFIT3 : Hid ((L ++ lenL q u).length + [lenB q u].length ≤ 1099511627776) := by
            refine Lib.hid ?_
            have := HM'.out
            have := HM2.out
            rw [List.length_append, lenL_length]; simp; omega
          have HU : Hid (q / 2 ^ (56 - 8 * u) % 256 = ((lenB q u).toNat : Int)) := Lib.hid (u8v _)
          have hti2 : 8 * (u : Int) ≤ 56 := by omega
          go_wp2_with (at_builtin; refine wpList_append_bag rfl (.tmp 26) (.tmp 31) rfl w.heap.size _ (L ++ lenL q u) rfl (HV'.out.alloc _) (by simp; omega) ⟨wr.heap.size, 0, none⟩ 1 1 [lenB q u] rfl rfl (bag_one rfl HU.out) HFIT3.out ?_; intro v2 w2 hv2 hg2)
          have hlen : (L ++ lenL q u ++ [lenB q u]).length = m' + 1 := by
            have := HM'.out
            simp [lenL_length]; omega
          obtain ⟨g2, c2, rfl, hg2b, hg2s, hg2c⟩ := hv2.form (by rw [hlen]; omega)
          have hb2 : Below w.heap.size w w2 := ((HB'.out.alloc hws' _)).grown hg2 (by simp; omega) (fun k hk => (HV'.out.lt k hk).1)
          rw [hlen] at hv2 ⊢
          go_roundw
          case rel => exact ⟨u + 1, m' + 1, g2, c2, by omega, by go_num, rfl, by have := HM'.out; exact Lib.hid (by omega), Lib.hid (by rw [lenL_succ, ← List.append_assoc]; exact hv2), hb2, hb2.size⟩
          case measure => simp [intOf]; omega
        · obtain rfl : u = 8 := by omega
          clear hlt hu
          go_wp2_with fail
          go_ret
          refine ⟨_, rfl, ?_, HB'.out⟩
          rw [fillL, HLL.out]
          exact HV'.out
    · have hmi : ¬ (m : Int) % 64 = 56 := by omega
      have hmb : m < 200 := by have := HM.out; unfold padN at hj; omega
      have hjp : j < padN s.size := by have := HM.out; unfold padN at hj ⊢; omega
      have HFIT2 : Hid ((s.data.toList ++ [128] ++ List.replicate j (0 : UInt8)).length + [(0 : UInt8)].length ≤ 1099511627776) := by
        refine Lib.hid ?_
        have := HM.out
        simp [hsl]; omega
      go_wp2_with (at_builtin; refine wpList_append_bag rfl (.tmp 16) (.tmp 17) rfl w.heap.size _ (s.data.toList ++ [128] ++ List.replicate j 0) rfl (HV.out.alloc _) (by simp; omega) ⟨wr.heap.size, 0, none⟩ 1 1 [0] rfl rfl (bag_one rfl C0.out) HFIT2.out ?_; intro v2 w2 hv2 hg2)
      have hlen : (s.data.toList ++ [128] ++ List.replicate j (0 : UInt8) ++ [0]).length = m + 1 := by
        have := HM.out
        simp [hsl]; omega
      obtain ⟨g2, c2, rfl, hg2b, hg2s, hg2c⟩ := hv2.form (by rw [hlen]; omega)
      have hb2 : Below w.heap.size w w2 := ((HB.out.alloc hws _)).grown hg2 (by simp; omega) (fun k hk => (HV.out.lt k hk).1)
      rw [hlen] at hv2 ⊢
      go_roundw
      case rel => exact ⟨j + 1, m + 1, g2, c2, hjp, by have := HM.out; exact Lib.hid (by omega), rfl, Lib.hid (by rw [List.replicate_succ', ← List.append_assoc]; exact hv2), hb2, hb2.size⟩
      case measure => simp; have := HM.out; omega
end Sha
end Go.Proofs.YtbgjoefpnjgdkaaDoor
