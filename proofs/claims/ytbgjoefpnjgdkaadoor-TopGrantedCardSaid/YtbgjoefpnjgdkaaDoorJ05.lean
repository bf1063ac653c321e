/- Joined of 2 texts: their lemmas, one behind the other; each says below what it holds. -/
import Derived.Test.YtbgjoefpnjgdkaaDoorJ04
import Derived.Test.YtbgjoefpnjgdkaaDoorJ01
/- A sum's bytes. -/
namespace Go.Proofs.YtbgjoefpnjgdkaaDoor
open Go.RowKit
set_option linter.unusedVariables false
set_option linter.unusedSimpArgs false
set_option maxRecDepth 100000
namespace Sha
/-- block n holds N bytes: those of f -/
structure ArrB (n : Nat) (w : World) (f : Nat → UInt8) (N : Nat) : Prop where
  size : n < w.heap.size
  cell : ∀ j, j < N → w.cell? ⟨n, j, none⟩ = some (.int .u8 ((f j).toNat : Int))
  froz : ∀ j, w.frozen? ⟨n, j, none⟩ = false

theorem ArrB.below {n : Nat} {w w' : World} {f : Nat → UInt8} {N : Nat} (h : ArrB n w f N) (hb : Below w.heap.size w w') : ArrB n w' f N :=
  ⟨Nat.lt_of_lt_of_le h.size hb.size, fun j hj => by rw [hb.cell (p := ⟨n, j, none⟩) h.size]; exact h.cell j hj, fun j => by rw [hb.frozen (p := ⟨n, j, none⟩) h.size]; exact h.froz j⟩
theorem ArrB.drew {n : Nat} {w : World} {f : Nat → UInt8} {N : Nat} (h : ArrB n w f N) : ArrB n w.drew f N := ⟨h.size, h.cell, h.froz⟩
theorem ArrB.drewN {n : Nat} {w : World} {f : Nat → UInt8} {N : Nat} (h : ArrB n w f N) (k : Nat) : ArrB n (w.drewN k) f N := ⟨h.size, h.cell, h.froz⟩

theorem ArrB.set {n : Nat} {w : World} {f : Nat → UInt8} {N : Nat} (h : ArrB n w f N) (j : Nat) (hj : j < N) (x : Int) : ArrB n (w.setCell ⟨n, j, none⟩ (.int .u8 (x % 256))) (fun i => if i = j then UInt8.ofNat (x % 256).toNat else f i) N := by
  refine ⟨by simpa [World.setCell] using h.size, fun i hi => ?_, fun i => by rw [World.frozen?_setCell]; exact h.froz i⟩
  by_cases hij : i = j
  · subst hij
    rw [if_pos rfl, World.cell?_setCell_same' _ _ _ (by rw [h.cell i hi]; rfl)]
    rw [UInt8.toNat_ofNat']
    congr 2
    omega
  · rw [if_neg hij, World.cell?_setCell_other _ _ _ _ (by intro e; injection e with _ e2; exact hij e2.symm)]
    exact h.cell i hi

theorem ArrB.far {n m : Nat} {w : World} {f : Nat → UInt8} {N : Nat} (h : ArrB n w f N) (hne : m ≠ n) (i : Nat) (v : Value) : ArrB n (w.setCell ⟨m, i, none⟩ v) f N := by
  refine ⟨by simpa [World.setCell] using h.size, fun j hj => ?_, fun j => by rw [World.frozen?_setCell]; exact h.froz j⟩
  rw [World.cell?_setCell_other _ _ _ _ (by intro e; injection e with e1; exact hne e1)]
  exact h.cell j hj

theorem ArrB.congr {n : Nat} {w : World} {f g : Nat → UInt8} {N : Nat} (h : ArrB n w f N) (hfg : ∀ j, j < N → f j = g j) : ArrB n w g N :=
  ⟨h.size, fun j hj => by rw [← hfg j hj]; exact h.cell j hj, h.froz⟩

theorem ArrB.zeros (w : World) (N : Nat) (C : Array Value) (t : TypeId) (hC : C = Array.replicate N (.int .u8 0)) : ArrB w.heap.size (w.alloc (.cells C t)) (fun _ => 0) N := by
  subst hC
  refine ⟨by simp, fun j hj => ?_, fun j => (World.frozen?_alloc_mark w _ t 0 0 j).trans (by simp)⟩
  have := World.cell?_alloc_mark w (Array.replicate N (.int .u8 0)) t (0, 0) j
  rw [this]
  simp [hj]

/-- a byte of a sum -/
def digB (X : Nat → Int) (j : Nat) : UInt8 :=
  if j % 4 = 0 then UInt8.ofNat (X (j / 4) / 16777216 % 256).toNat else if j % 4 = 1 then UInt8.ofNat (X (j / 4) / 65536 % 256).toNat else if j % 4 = 2 then UInt8.ofNat (X (j / 4) / 256 % 256).toNat else UInt8.ofNat (X (j / 4) % 256).toNat
def dig (X : Nat → Int) : List UInt8 := (List.range 32).map (digB X)
theorem dig_length (X : Nat → Int) : (dig X).length = 32 := by simp [dig]
theorem dig_at (X : Nat → Int) (j : Nat) (hj : j < 32) : (bytesV (dig X))[j]? = some (.int .u8 ((digB X j).toNat : Int)) := by
  rw [bytesV, List.getElem?_map, dig, List.getElem?_map, List.getElem?_range hj]; rfl
theorem bytesV_one (l : List UInt8) : (bytesV l).toArray.all (·.oneCell') = true :=
  all_oneCell_toArray (by unfold bytesV; intro v hv; obtain ⟨j, _, rfl⟩ := List.mem_map.1 hv; rfl)

/-- one step's stores -/
theorem dig_step (X : Nat → Int) (i j : Nat) :
    (if j = 4 * i + 3 then UInt8.ofNat (X i % 256).toNat else if j = 4 * i + 2 then UInt8.ofNat (X i / 256 % 256).toNat else if j = 4 * i + 1 then UInt8.ofNat (X i / 65536 % 256).toNat else if j = 4 * i then UInt8.ofNat (X i / 16777216 % 256).toNat else if j < 4 * i then digB X j else 0) = if j < 4 * (i + 1) then digB X j else 0 := by
  by_cases h3 : j = 4 * i + 3
  · subst h3; rw [if_pos rfl, if_pos (by omega), digB, if_neg (by omega), if_neg (by omega), if_neg (by omega), show (4 * i + 3) / 4 = i by omega]
  rw [if_neg h3]
  by_cases h2 : j = 4 * i + 2
  · subst h2; rw [if_pos rfl, if_pos (by omega), digB, if_neg (by omega), if_neg (by omega), if_pos (by omega), show (4 * i + 2) / 4 = i by omega]
  rw [if_neg h2]
  by_cases h1 : j = 4 * i + 1
  · subst h1; rw [if_pos rfl, if_pos (by omega), digB, if_neg (by omega), if_pos (by omega), show (4 * i + 1) / 4 = i by omega]
  rw [if_neg h1]
  by_cases h0 : j = 4 * i
  · subst h0; rw [if_pos rfl, if_pos (by omega), digB, if_pos (by omega), show (4 * i) / 4 = i by omega]
  rw [if_neg h0]
  by_cases h : j < 4 * i
  · rw [if_pos h, if_pos (by omega)]
  · rw [if_neg h, if_neg (by omega)]

set_option maxHeartbeats 4000000 in
theorem bytes_any (nv : Nat) (X : Nat → Int) (w : World) (hv : Arr nv w X 8) :
    Calls Tryd.prog 43 #[.pointer (some ⟨nv, 0, none⟩)] w fun e w' => e = .returned (.agg (bytesV (dig X)).toArray) ∧ Below w.heap.size w w' := by
  have HV := Lib.hid hv
  have hvs := hv.size
  clear hv
  go_enter Tryd.func43, Tryd.ntmps43
  go_wp2_with fail
  have A2 := ArrB.zeros w 32 _ 30 rfl
  have B3 := (Below.refl w.heap.size w).alloc (Nat.le_refl _) (.cells (Array.replicate 32 (.int .u8 0)) 30)
  have A3 := ArrB.zeros (w.alloc (.cells (Array.replicate 32 (.int .u8 0)) 30)) 32 _ 30 rfl
  have B4 := B3.alloc (by simp) (.cells (Array.replicate 32 (.int .u8 0)) 30)
  have A2' := A2.below ((Below.refl _ _).alloc (Nat.le_refl _) (.cells (Array.replicate 32 (.int .u8 0)) 30))
  rw [World.size_alloc] at A3
  change Code.wp _ _ _ _ ((w.alloc (.cells (Array.replicate 32 (.int .u8 0)) 30)).alloc (.cells (Array.replicate 32 (.int .u8 0)) 30))
  generalize (w.alloc (.cells (Array.replicate 32 (.int .u8 0)) 30)).alloc (.cells (Array.replicate 32 (.int .u8 0)) 30) = w3 at *
  clear A2 B3
  go_loopw [7] (fun i wr => ∃ t : Nat, t ≤ 8 ∧ i = .int .i64 (t : Int) ∧ ArrB w.heap.size wr (fun _ => 0) 32 ∧ ArrB (w.heap.size + 1) wr (fun j => if j < 4 * t then digB X j else 0) 32 ∧ Below w.heap.size w wr) (fun i _ => 8 - (intOf i).toNat)
  case atStart => exact ⟨0, by omega, rfl, A2', A3.congr (fun j _ => by simp), B4⟩
  case round =>
    obtain ⟨t, ht, rfl, R2, R3, BW⟩ := hrel
    clear A2' A3 B4
    by_cases hlt : t < 8
    · have vt := (HV.out.below BW).cell t hlt
      have c0 := R3.cell (4 * t) (by omega)
      have c1 := R3.cell (4 * t + 1) (by omega)
      have c2 := R3.cell (4 * t + 2) (by omega)
      have c3 := R3.cell (4 * t + 3) (by omega)
      have f0 := R3.froz (4 * t)
      have f1 := R3.froz (4 * t + 1)
      have f2 := R3.froz (4 * t + 2)
      have f3 := R3.froz (4 * t + 3)
      have R2' := Lib.hid R2
      have R3' := Lib.hid R3
      have BW' := Lib.hid BW
      have hti : (t : Int) < 8 := by omega
      have ht0 : (0 : Int) ≤ (t : Int) := by omega
      generalize hx : X t = x at *
      have HX := Lib.hid hx
      clear R2 R3 BW hx
      go_wp2_with fail
      have hmo : Tryd.prog.follows .mixedOrders = true := by kernel_rfl
      go_region
      go_wp2_with fail
      go_roundw
      case rel => exact ⟨t + 1, by omega, by go_num, ((((R2'.out.far (by omega) _ _).far (by omega) _ _).far (by omega) _ _).far (by omega) _ _).drew, ((((R3'.out.set (4 * t) (by omega) _).set (4 * t + 1) (by omega) _).set (4 * t + 2) (by omega) _).set (4 * t + 3) (by omega) _).drew.congr (fun j _ => by
        have h := dig_step X t j
        rw [HX.out] at h
        exact h), ((((BW'.out.setCell (p := ⟨w.heap.size + 1, 4 * t, none⟩) (by simp) _).setCell (p := ⟨w.heap.size + 1, 4 * t + 1, none⟩) (by simp) _).setCell (p := ⟨w.heap.size + 1, 4 * t + 2, none⟩) (by simp) _).setCell (p := ⟨w.heap.size + 1, 4 * t + 3, none⟩) (by simp) _).drew⟩
      case measure => simp [intOf]; omega
    · obtain rfl : t = 8 := by omega
      clear hlt ht
      rw [show ((8 : Nat) : Int) = 8 from rfl]
      obtain ⟨cs, hcs⟩ : ∃ cs, cs = bytesV (dig X) := ⟨_, rfl⟩
      have hl : cs.length = 32 := by rw [hcs, bytesV_length]; exact dig_length X
      have hr : wr.rangeAt (w.heap.size + 1) 0 cs := by
        intro j v hv
        rw [hcs] at hv
        by_cases hj : j < 32
        · rw [dig_at X j hj] at hv
          simp at hv
          rw [Nat.zero_add, R3.cell j hj, if_pos (by omega), ← hv]
        · rw [List.getElem?_eq_none (by rw [bytesV_length, dig_length]; omega)] at hv; simp at hv
      have ht : wr.there w.heap.size 0 cs.toArray.size := by
        intro j hj
        rw [List.size_toArray, hl] at hj
        rw [Nat.zero_add, R2.cell j hj]
        exact ⟨rfl, R2.froz j⟩
      have hi : (Tryd.prog.info? 30).map (·.size) = some cs.length := by rw [hl]; kernel_rfl
      have hi' : (Tryd.prog.info? 30).map (·.size) = some cs.toArray.size := by rw [List.size_toArray]; exact hi
      have h1 : cs.toArray.all (·.oneCell') = true := by rw [hcs]; exact bytesV_one _
      have HCS := Lib.hid hcs
      have HR := Lib.hid hr
      have HT := Lib.hid ht
      have HI := Lib.hid hi
      have HI' := Lib.hid hi'
      have H1 := Lib.hid h1
      have HB := Lib.hid BW
      have HS := Lib.hid (World.rangeAt_setCells_same wr w.heap.size 0 cs (by rw [← List.size_toArray]; exact ht))
      clear hr ht hi hi' h1 BW R2 R3 hcs hl
      go_wp2_with (first | (with_reducible refine wpList_load_mid rfl _ _ rfl (w.heap.size + 1) 0 rfl cs _ HR.out Tryd.underlying30 rfl HI.out ?_) | (with_reducible refine wpList_store_mid rfl _ _ _ rfl w.heap.size 0 cs.toArray rfl rfl HT.out HI'.out H1.out ?_))
      refine bodyPost_ret (v := .agg cs.toArray) ?_ rfl ⟨by rw [HCS.out], below_setCells (Nat.le_refl _) _ _ _ HB.out⟩
      exact results_cell Tryd.results43 _ _ _ w.heap.size cs rfl (run_loadVar_mid _ w.heap.size 0 30 cs _ HS.out Tryd.underlying30 rfl HI.out)
end Sha
end Go.Proofs.YtbgjoefpnjgdkaaDoor
/- sha's last bytes, filled up. -/
namespace Go.Proofs.YtbgjoefpnjgdkaaDoor
open Go.RowKit
set_option linter.unusedVariables false
set_option linter.unusedSimpArgs false
set_option maxRecDepth 100000
namespace Sha
/-- a byte of the length -/
def lenB (q : Int) (i : Nat) : UInt8 := UInt8.ofNat (q / 2 ^ (56 - 8 * i) % 256).toNat
def lenL (q : Int) (n : Nat) : List UInt8 := (List.range n).map (lenB q)
theorem lenL_length (q : Int) (n : Nat) : (lenL q n).length = n := by simp [lenL]
theorem lenL_succ (q : Int) (n : Nat) : lenL q (n + 1) = lenL q n ++ [lenB q n] := by simp [lenL, List.range_succ]
def padN (m : Nat) : Nat := (119 - m % 64) % 64
def padL (r : List UInt8) : List UInt8 := r ++ [128] ++ List.replicate (padN r.length) 0
def fillL (r : List UInt8) (q : Int) : List UInt8 := padL r ++ lenL q 8
theorem padL_length (r : List UInt8) : (padL r).length = r.length + 1 + padN r.length := by simp [padL]; omega
theorem fillL_length (r : List UInt8) (q : Int) : (fillL r q).length % 64 = 0 := by
  rw [fillL, List.length_append, lenL_length, padL_length, padN]; omega
theorem fillL_short (r : List UInt8) (q : Int) (h : r.length < 64) : (fillL r q).length ≤ 128 := by
  rw [fillL, List.length_append, lenL_length, padL_length, padN]; omega

theorem bag_one {w : World} {x : Int} {c : UInt8} {t : TypeId} {H : Nat} (hH : w.heap.size = H) (hx : x = (c.toNat : Int)) : ∀ j u, (bytesV [c])[j]? = some u → (w.alloc (.cells #[.int .u8 x] t)).cell? ((⟨H, 0, none⟩ : Addr).add j) = some u := by
  subst hx
  subst hH
  exact cell_one_new _ _ _

theorem u8v (x : Int) : x % 256 = ((UInt8.ofNat (x % 256).toNat).toNat : Int) := by
  rw [UInt8.toNat_ofNat']; omega

set_option maxHeartbeats 4000000 in
theorem fill_any (s : ByteArray) (q : Int) (hs : s.size < 64) (n n' : Int) (w : World) (hq : IntKind.u64.wrap (n' * 8) = q) (hn : IntKind.u64.wrap n = n') :
    Calls Tryd.prog 42 #[.string s, .int .i64 n] w fun e w' => ∃ v, e = .returned v ∧ Bag w.heap.size w' v (fillL s.data.toList q) ∧ Below w.heap.size w w' := by
  have hcv := bytes_conv s w
  have HB := Lib.hid (Bag.bytesW w s w.heap.size (Nat.le_refl _))
  have BW := Lib.hid (bytesW_below w s)
  have hsl : s.data.toList.length = s.size := by rw [Array.length_toList]; rfl
  have hbs := bytesW_size w s
  generalize bytesW w s = wb at *
  generalize bytesCap w s = cap at *
  have c128 : (128 : Int) = ((128 : UInt8).toNat : Int) := by decide
  have C128 := Lib.hid c128
  have hbl : w.heap.size ≤ (wb.alloc (Obj.cells #[Value.int IntKind.u8 128] 5)).heap.size := by simp; omega
  have HBL := Lib.hid hbl
  have hfit : s.data.toList.length + [(128 : UInt8)].length ≤ 1099511627776 := by rw [hsl]; simp; omega
  have HFIT := Lib.hid hfit
  clear c128 hbl hfit
  go_enter Tryd.func42, Tryd.ntmps42
  go_wp2_with (at_builtin; refine wpList_append_bag rfl (.tmp 9) (.tmp 10) rfl w.heap.size _ s.data.toList rfl (HB.out.alloc _) HBL.out ⟨w.heap.size + 1, 0, none⟩ 1 1 [128] rfl rfl (bag_one hbs C128.out) HFIT.out ?_; intro v1 w1 hv1 hg1)
  have hbw1 : Below w.heap.size w w1 := ((BW.out.alloc (by omega) _)).grown hg1 (by simp; omega) (fun k hk => by cases hk; exact Nat.le_refl _)
  obtain ⟨g1, c1, rfl, hg1b, hg1s, hg1c⟩ := hv1.form (by simp)
  have hws1 : w.heap.size ≤ w1.heap.size := hbw1.size
  have HV1 := Lib.hid hv1
  have HBW1 := Lib.hid hbw1
  clear hv1 hbw1 hg1 HB BW hcv hbs HBL HFIT C128 hg1b hg1s hg1c
  rw [List.length_append, List.length_singleton, hsl]
  rw [List.length_append, List.length_singleton, hsl] at HV1
  have C0 : Hid ((0 : Int) = ((0 : UInt8).toNat : Int)) := Lib.hid (by decide)
  have HQ := Lib.hid hq
  go_loopw [5] (fun v wr => ∃ (j m g c : Nat), j ≤ padN s.size ∧ Hid (m = s.size + 1 + j) ∧ v = .slice (some ⟨g, 0, none⟩) m c ∧ Hid (Bag w.heap.size wr v (s.data.toList ++ [128] ++ List.replicate j 0)) ∧ Hid (Below w.heap.size w wr) ∧ w.heap.size ≤ wr.heap.size) (fun v _ => padN s.size + 1 + s.size - (match v with | .slice _ m _ => m | _ => 0))
  case atStart => exact ⟨0, _, g1, c1, by omega, rfl, rfl, by simpa using HV1, HBW1, hws1⟩
  case round =>
    obtain ⟨j, m, g, c, hj, HM, rfl, HV, HB, hws⟩ := hrel
    clear HV1 HBW1 hws1
    by_cases hlt : m % 64 = 56
    · have hjp : j = padN s.size := by have := HM.out; unfold padN at hj ⊢; omega
      have hmi : (m : Int) % 64 = 56 := by omega
      have HL : Hid (s.data.toList ++ [128] ++ List.replicate j 0 = padL s.data.toList) := by rw [hjp, padL, hsl]; exact Lib.hid rfl
      have hm2 : m = (padL s.data.toList).length := by rw [padL_length, hsl, HM.out, hjp]
      have hmb : m < 200 := by have := HM.out; unfold padN at hj; omega
      rw [HL.out] at HV
      generalize hL : padL s.data.toList = L at *
      have HLL := Lib.hid hL
      clear hL
      have HM2 := Lib.hid hm2
      clear hm2 HL HM hjp hj hlt
      go_wp2_with fail
      go_loopw [5, 7] (fun v i wr => ∃ (u m g c : Nat), u ≤ 8 ∧ i = .int .i64 (56 - 8 * (u : Int)) ∧ v = .slice (some ⟨g, 0, none⟩) m c ∧ Hid (m = L.length + u) ∧ Hid (Bag w.heap.size wr v (L ++ lenL q u)) ∧ Hid (Below w.heap.size w wr) ∧ w.heap.size ≤ wr.heap.size) (fun _ i _ => (intOf i + 8).toNat)
      case atStart => exact ⟨0, m, g, c, by omega, rfl, rfl, HM2, by simpa [lenL] using HV, HB, hws⟩
      case round =>
        clear HV HB hws hmi
        obtain ⟨u, m', g', c', hu, rfl, rfl, HM', HV', HB', hws'⟩ := hrel
        by_cases hlt : u < 8
        · have hti : (0 : Int) ≤ 56 - 8 * (u : Int) := by omega
          have hmb' : m' < 300 := by have := HM'.out; have := HM2.out; omega
          have HFIT3 : Hid ((L ++ lenL q u).length + [lenB q u].length ≤ 1099511627776) := by
            refine Lib.hid ?_
            have := HM'.out
            have := HM2.out
            rw [List.length_append, lenL_length]; simp; omega
          have HU : Hid (q / 2 ^ (56 - 8 * u) % 256 = ((lenB q u).toNat : Int)) := Lib.hid (u8v _)
          have hti2 : 8 * (u : Int) ≤ 56 := by omega
          go_wp2_with (at_builtin; refine wpList_append_bag rfl (.tmp 26) (.tmp 31) rfl w.heap.size _ (L ++ lenL q u) rfl (HV'.out.alloc _) (by simp; omega) ⟨wr.heap.size, 0, none⟩ 1 1 [lenB q u] rfl rfl (bag_one rfl HU.out) HFIT3.out ?_; intro v2 w2 hv2 hg2)
          have hlen : (L ++ lenL q u ++ [lenB q u]).length = m' + 1 := by
            have := HM'.out
            simp [lenL_length]; omega
          obtain ⟨g2, c2, rfl, hg2b, hg2s, hg2c⟩ := hv2.form (by rw [hlen]; omega)
          have hb2 : Below w.heap.size w w2 := ((HB'.out.alloc hws' _)).grown hg2 (by simp; omega) (fun k hk => (HV'.out.lt k hk).1)
          rw [hlen] at hv2 ⊢
          go_roundw
          case rel => exact ⟨u + 1, m' + 1, g2, c2, by omega, by go_num, rfl, by have := HM'.out; exact Lib.hid (by omega), Lib.hid (by rw [lenL_succ, ← List.append_assoc]; exact hv2), hb2, hb2.size⟩
          case measure => simp [intOf]; omega
        · obtain rfl : u = 8 := by omega
          clear hlt hu
          go_wp2_with fail
          go_ret
          refine ⟨_, rfl, ?_, HB'.out⟩
          rw [fillL, HLL.out]
          exact HV'.out
    · have hmi : ¬ (m : Int) % 64 = 56 := by omega
      have hmb : m < 200 := by have := HM.out; unfold padN at hj; omega
      have hjp : j < padN s.size := by have := HM.out; unfold padN at hj ⊢; omega
      have HFIT2 : Hid ((s.data.toList ++ [128] ++ List.replicate j (0 : UInt8)).length + [(0 : UInt8)].length ≤ 1099511627776) := by
        refine Lib.hid ?_
        have := HM.out
        simp [hsl]; omega
      go_wp2_with (at_builtin; refine wpList_append_bag rfl (.tmp 16) (.tmp 17) rfl w.heap.size _ (s.data.toList ++ [128] ++ List.replicate j 0) rfl (HV.out.alloc _) (by simp; omega) ⟨wr.heap.size, 0, none⟩ 1 1 [0] rfl rfl (bag_one rfl C0.out) HFIT2.out ?_; intro v2 w2 hv2 hg2)
      have hlen : (s.data.toList ++ [128] ++ List.replicate j (0 : UInt8) ++ [0]).length = m + 1 := by
        have := HM.out
        simp [hsl]; omega
      obtain ⟨g2, c2, rfl, hg2b, hg2s, hg2c⟩ := hv2.form (by rw [hlen]; omega)
      have hb2 : Below w.heap.size w w2 := ((HB.out.alloc hws _)).grown hg2 (by simp; omega) (fun k hk => (HV.out.lt k hk).1)
      rw [hlen] at hv2 ⊢
      go_roundw
      case rel => exact ⟨j + 1, m + 1, g2, c2, hjp, by have := HM.out; exact Lib.hid (by omega), rfl, Lib.hid (by rw [List.replicate_succ', ← List.append_assoc]; exact hv2), hb2, hb2.size⟩
      case measure => simp; have := HM.out; omega
end Sha
end Go.Proofs.YtbgjoefpnjgdkaaDoor
