/- a ring's Sign. -/
import Derived.Test.YtbgjoefpnjgdkaaDoorKKeyRoot
import Derived.Test.YtbgjoefpnjgdkaaDoorJ02
namespace Go.Proofs.YtbgjoefpnjgdkaaDoor
open Go.RowKit
set_option linter.unusedVariables false
set_option linter.unusedSimpArgs false
set_option maxRecDepth 100000
namespace Key
open Sha Tree Go.Proofs.YtbgjoefpnjgdkaaDoor.One
/-- a signature's bytes -/
def ksigL (X kk : Nat → Int) (s : List UInt8) (N k a : Nat) (t : List UInt8) : List UInt8 := [UInt8.ofNat a] ++ signL X kk (seedL X kk s a) t ++ (pathL X kk (pubsL X kk s N) a k).flatten

theorem path_each (X kk : Nat → Int) (ls : List (List UInt8)) (k i : Nat) (hl : ls.length = 2 ^ k) (hi : i < 2 ^ k) (he : ∀ l ∈ ls, l.length = 32) : ∀ l ∈ pathL X kk ls i k, l.length = 32 := by
  intro l hl'
  obtain ⟨j, hj, rfl⟩ := List.mem_map.1 hl'
  have hj' : j < k := List.mem_range.1 hj
  have h1 := upN_length X kk j (k - j) ls (by rw [hl, show j + (k - j) = k by omega])
  have h2 := upN_each X kk j (k - j) ls (by rw [hl, show j + (k - j) = k by omega]) he
  have h3 : i / 2 ^ j < 2 ^ (k - j) := by
    rw [Nat.div_lt_iff_lt_mul (Nat.two_pow_pos _), ← Nat.pow_add, show k - j + j = k by omega]
    exact hi
  have h4 : (i / 2 ^ j) ^^^ 1 < (upN X kk j ls).length := by
    rw [h1]
    exact Nat.xor_lt_two_pow h3 (Nat.lt_of_lt_of_le (by decide : 1 < 2 ^ 1) (Nat.pow_le_pow_right (by omega) (by omega)))
  rw [List.getD_eq_getElem?_getD, List.getElem?_eq_getElem h4]
  exact h2 _ (List.getElem_mem _)
theorem flat_len (ls : List (List UInt8)) (he : ∀ l ∈ ls, l.length = 32) : ls.flatten.length = 32 * ls.length := by
  induction ls with
  | nil => rfl
  | cons x r ih =>
    rw [List.flatten_cons, List.length_append, ih (fun l h => he l (List.mem_cons_of_mem _ h)), he x (List.mem_cons_self ..), List.length_cons]
    omega

set_option maxHeartbeats 4000000 in
theorem ringSign_over (s : List UInt8) (high : Int) (N g : Nat) (v : Value) (R : List UInt8) (t : ByteArray) (hv : ∃ p c, v = .slice p N c) (w : World) (hr : Blk w g (ringC s high (N : Int) v R)) :
    Calls Tryd.prog 52 #[.pointer (some ⟨g, 0, none⟩), .string t] w fun e w' => e = .returned (.tuple #[.string ⟨#[]⟩, .int .i64 10]) ∧ w' = w := by
  obtain ⟨p, c, rfl⟩ := hv
  have k2 := hr.cell 2 rfl
  have k3 := hr.cell 3 rfl
  have l := hr.size
  go_enter Tryd.func52, Tryd.ntmps52
  go_wp2_with fail
  go_ret2
  exact ⟨rfl, rfl⟩

set_option maxHeartbeats 8000000 in
theorem ringSign_ok (X kk : Nat → Int) (s : List UInt8) (k : Nat) (hk : k ≤ 3) (hs0 : 0 < s.length) (hs : s.length ≤ 64) (a N : Nat) (hN : N = 2 ^ k) (ha : a < N) (t : ByteArray) (g base : Nat) (v : Value) (R : List UInt8) (hR : R.length = 32) (w : World) (hr : Blk w g (ringC s (k : Int) (a : Int) v R)) (ho : OwnH base w v (pubsL X kk s N)) (hT : Tabs w X kk) :
    Calls Tryd.prog 52 #[.pointer (some ⟨g, 0, none⟩), .string t] w fun e w' => e = .returned (.tuple #[.string ⟨(ksigL X kk s N k a t.data.toList).toArray⟩, .int .i64 0]) ∧ Blk w' g (ringC s (k : Int) ((a + 1 : Nat) : Int) v R) ∧ Below g w w' := by
  have hlk : (pubsL X kk s N).length = 2 ^ k := (pubsL_length X kk s N).trans hN
  have hle := pubsL_each X kk s N
  have hN8 : N ≤ 8 := by rw [hN]; exact Nat.le_trans (Nat.pow_le_pow_right (by omega) hk) (by decide)
  have hai : a < 2 ^ k := by rw [← hN]; exact ha
  have hrow := OwnH.row ho hle (by rw [pubsL_length]; omega)
  have HPA := Lib.hid (path_any X kk v (pubsL X kk s N) k a hk hlk hai hle w hrow hT hT.k.size hT.x.size)
  have HPE := Lib.hid (path_each X kk (pubsL X kk s N) k a hlk hai hle)
  have HPN := Lib.hid (pathL_length X kk (pubsL X kk s N) a k)
  have HKS : Hid (ksigL X kk s N k a t.data.toList = [UInt8.ofNat a] ++ signL X kk (seedL X kk s a) t.data.toList ++ (pathL X kk (pubsL X kk s N) a k).flatten) := Lib.hid rfl
  have hsg := signL_length X kk (seedL X kk s a) t.data.toList
  have hsd := seedL_length X kk s a
  obtain ⟨p, c, hvf⟩ := Top.ownH_form ho
  rw [pubsL_length] at hvf
  subst hvf
  have HT := Lib.hid hT
  have HK := Lib.hid hk
  have HO := Lib.hid ho
  clear hlk hle hai hrow hT ho hN hk
  generalize pathL X kk (pubsL X kk s N) a k = PL at *
  have hge : ((a : Int) == (N : Int)) = false := by simp; omega
  have k0 := hr.cell 0 rfl
  have k1 := hr.cell 1 rfl
  have k2 := hr.cell 2 rfl
  have k3 := hr.cell 3 rfl
  have l := hr.size
  go_enter Tryd.func52, Tryd.ntmps52
  go_wp2_with fail
  refine HPA.out.mono ?_
  rintro e w1 ⟨v', rfl, hop, hpn, hb1⟩
  have r1 := hr.low hb1
  have HT1 := Lib.hid (HT.out.below rfl hb1)
  clear k0 k1 k2 k3
  have k0 := r1.cell 0 rfl
  have k1 := r1.cell 1 rfl
  have k2 := r1.cell 2 rfl
  have k3 := r1.cell 3 rfl
  have l1 := r1.size
  have ha8 : (a : Int) ≤ 8 := by omega
  have ha0 : (0 : Int) ≤ (a : Int) := by omega
  have bg := Bag.fresh w1 [UInt8.ofNat a] #[.int .u8 (a : Int)] 5 w1.heap.size _ rfl (Nat.le_refl _) (by simp [bytesV]; omega)
  have B2 := (Below.refl w1.heap.size w1).alloc (Nat.le_refl _) (.cells #[.int .u8 (a : Int)] 5)
  have HT2 := Lib.hid (HT1.out.below rfl B2)
  go_wp2_with fail
  refine (seed_any X kk s (k : Int) (a : Int) a (by omega) hs _ HT2.out).mono ?_
  rintro e w3 ⟨rfl, hb3⟩
  have B3 := B2.trans (hb3.mono B2.size)
  have bg3 := bg.below hb3
  have HT3 := Lib.hid (HT1.out.below rfl B3)
  clear bg hb3 k0 k1 k2 k3
  go_wp2_with fail
  refine (sign_any X kk (seedL X kk s a) (by omega) t _ HT3.out).mono ?_
  rintro e w4 ⟨rfl, hb4⟩
  have B4 := B3.trans (hb4.mono B3.size)
  have bg4 := bg3.below hb4
  clear bg3 hb4
  generalize signL X kk (seedL X kk s a) t.data.toList = sg at *
  obtain ⟨p', c', hvf⟩ := Top.ownH_form hop
  rw [HPN.out] at hvf
  subst hvf
  have HOP := Lib.hid hop
  have HPN2 := Lib.hid hpn
  clear hop hpn
  have hbz : w1.heap.size ≤ w4.heap.size := B4.size
  have hsz : (ByteArray.mk sg.toArray).size = 1088 := by simp [ByteArray.size, hsg]
  have HBG := Lib.hid bg4
  clear bg4
  go_wp2_with (at_builtin; go_must (refine wpList_append_bag_string rfl (.tmp 38) (.tmp 46) rfl w1.heap.size _ [UInt8.ofNat a] rfl HBG.out hbz ⟨sg.toArray⟩ rfl (by rw [hsz, List.length_singleton]; omega) ?_; intro vb w5 bg5 hg5))
  have B5 := B4.grown hg5 hbz (fun k e => (HBG.out.lt k e).1)
  clear hg5 HBG hsz hbz
  go_loopw [50, 9] (fun x bv wr => ∃ (j : Nat), j ≤ k ∧ x = .int .i64 (j : Int) ∧ Hid (Bag w1.heap.size wr bv ([UInt8.ofNat a] ++ sg ++ (PL.take j).flatten)) ∧ Hid (Below w1.heap.size w1 wr)) (fun x _ _ => k - (intOf x).toNat)
  case atStart => exact ⟨0, by omega, rfl, Lib.hid (by simpa using bg5), Lib.hid B5⟩
  case round =>
    obtain ⟨j, hj, rfl, HBV, HB⟩ := hrel
    clear bg5 B5 B4 B3 B2
    by_cases hlt : j < k
    · have hji : (j : Int) < (k : Int) := by omega
      have hj0 : (0 : Int) ≤ (j : Int) := by omega
      have hjp : j < PL.length := by rw [HPN.out]; exact hlt
      have hk3 := HK.out
      have hrow := OwnH.row HOP.out HPE.out (by omega)
      obtain ⟨b', o', c2, e, hb', hc2, hrr⟩ := hrow
      rw [HPN.out] at e
      injection e with e1 e2 e3
      subst e1
      have hx := rangeAt_lowB (hrr j hjp) hb' HB.out
      have hx32 := HPE.out _ (List.getElem_mem hjp)
      have HTK : Hid (PL.take (j + 1) = PL.take j ++ [PL[j]]) := Lib.hid (List.take_succ_eq_append_getElem hjp)
      have hfl : (PL.take j).flatten.length = 32 * j := by
        rw [flat_len _ (fun l h => HPE.out l (List.mem_of_mem_take h)), List.length_take]
        omega
      generalize PL[j] = x at *
      rw [Nat.mul_comm] at hx
      have HX := Lib.hid hx
      have hbl : (bytesV x).length = 32 := by rw [bytesV_length, hx32]
      have HIA : Hid ((Tryd.prog.info? 30).map (·.size) = some (bytesV x).toArray.size) := by rw [List.size_toArray, hbl]; exact Lib.hid (by kernel_rfl)
      have HIR : Hid ((Tryd.prog.info? 30).map (·.size) = some (bytesV x).length) := by rw [hbl]; exact Lib.hid (by kernel_rfl)
      have HSZ : Hid ((bytesV x).toArray.size = 32) := by rw [List.size_toArray, hbl]; exact Lib.hid rfl
      have hws := HB.out.size
      have bv2 := HBV.out.alloc (.cells (bytesV x).toArray 30)
      have B2 := HB.out.alloc hws (.cells (bytesV x).toArray 30)
      have hs2 : (wr.alloc (.cells (bytesV x).toArray 30)).heap.size = wr.heap.size + 1 := by simp
      have HAC : Hid (∀ j u, (bytesV x)[j]? = some u → (wr.alloc (.cells (bytesV x).toArray 30)).cell? ((⟨wr.heap.size, 0, none⟩ : Addr).add j) = some u) := Lib.hid (World.news_of_block (World.alloc_heap_new wr _))
      have hll : ([UInt8.ofNat a] ++ sg ++ (PL.take j).flatten).length + x.length ≤ 1099511627776 := by
        rw [List.length_append, List.length_append, hfl, hsg, hx32, List.length_singleton]
        omega
      have HLL := Lib.hid hll
      have HBV2 := Lib.hid bv2
      clear hrr hx hll hfl hc2 bv2
      go_wp2_with (first | (with_reducible refine wpList_load_mid rfl 30 _ rfl b' (o' + j * 32) rfl (bytesV x) _ HX.out Tryd.underlying30 rfl HIR.out ?_) | (refine wpList_store_new (o := ⟨none, .store 30 (.tmp 11) (.tmp 53), _, _, _, _⟩) rfl 30 (.tmp 11) (.tmp 53) rfl _ (bytesV x).toArray ?_ ?_ HIA.out ?_ (bytesV_one _) ?_; rfl; rfl; exact (show _ = 32 from rfl).trans HSZ.out.symm) | (at_builtin; go_must (refine wpList_append_bag rfl (.tmp 54) (.tmp 55) rfl w1.heap.size _ _ rfl HBV2.out (by omega) ⟨wr.heap.size, 0, none⟩ 32 32 x rfl hx32 HAC.out HLL.out ?_; intro vb w5 bg5 hg5)))
      have B5 := B2.grown hg5 B2.size (fun k e => (HBV2.out.lt k e).1)
      have bg6 : Bag w1.heap.size w5 vb (UInt8.ofNat a :: (sg ++ (PL.take (j + 1)).flatten)) := by
        rw [HTK.out, List.flatten_append, List.flatten_singleton]
        simpa using bg5
      exact ⟨⟨vb, _, _, ⟨j + 1, by omega, by go_num, Lib.hid bg6, Lib.hid B5⟩, rfl, rfl, rfl⟩, by simp [intOf]; omega⟩
    · obtain rfl : j = k := by omega
      rw [List.take_of_length_le (by rw [HPN.out]; omega)] at HBV
      clear hlt hj
      have r6 := r1.below HB.out l1
      have k0 := r6.cell 0 rfl
      have k1 := r6.cell 1 rfl
      have k2 := r6.cell 2 rfl
      have f2 := r6.froz 2 (by simp [ringC])
      have l6 := r6.size
      have r7 := r6.set 2 (by simp [ringC]) (.int .i64 ((a + 1 : Nat) : Int))
      have bv7 := HBV.out.kept (grownBy_set wr g 2 (.int .i64 ((a + 1 : Nat) : Int))) (by
        by_cases h0 : u9.ownBlock = none
        · exact .inl h0
        · right
          intro e
          have := (HBV.out.lt _ e).1
          omega)
      have hcv := bv7.conv
      have B7 := ((hb1.trans (HB.out.mono hb1.size)).mono (B' := g) (by omega)).setCell (p := ⟨g, 2, none⟩) (Nat.le_refl _) (.int .i64 ((a + 1 : Nat) : Int))
      rw [show ((a + 1 : Nat) : Int) = (a : Int) + 1 by omega] at hcv r7 B7
      have HKE := HKS.out
      go_wp2_with fail
      refine bodyPost_ret (v := .tuple #[.string ⟨(ksigL X kk s N j a t.data.toList).toArray⟩, .int .i64 0]) (by rw [HKE]; simp [results, Tryd.f52, go_sem]) rfl ⟨rfl, by rw [show ((a + 1 : Nat) : Int) = (a : Int) + 1 by omega]; exact r7, B7⟩
end Key
end Go.Proofs.YtbgjoefpnjgdkaaDoor
