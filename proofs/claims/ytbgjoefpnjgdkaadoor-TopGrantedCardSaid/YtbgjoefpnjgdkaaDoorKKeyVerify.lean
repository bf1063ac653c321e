/- key.Verify of what the key signed. -/
import Derived.Test.YtbgjoefpnjgdkaaDoorKKeySums
import Derived.Test.YtbgjoefpnjgdkaaDoorKKeyPlace
namespace Go.Proofs.YtbgjoefpnjgdkaaDoor
open Go.RowKit
set_option linter.unusedVariables false
set_option linter.unusedSimpArgs false
set_option maxRecDepth 100000
namespace Key
open Sha Tree Go.Proofs.YtbgjoefpnjgdkaaDoor.One
theorem place_ok (k a : Nat) (hk : k ≤ 3) (ha : a < 2 ^ k) (r : List UInt8) (hl : r.length = 1088 + 32 * k) (w : World) : Calls Tryd.prog 108 #[.int .i64 (k : Int), .string ⟨(UInt8.ofNat a :: r).toArray⟩] w fun e w' => e = .returned (.tuple #[.int .i64 (a : Int), .int .i64 0]) ∧ Below w.heap.size w w' := by
  have ha8 : a < 8 := Nat.lt_of_lt_of_le ha (Nat.le_trans (Nat.pow_le_pow_right (by omega) hk) (by decide))
  have hb : (UInt8.ofNat a).toNat = a := by rw [UInt8.toNat_ofNat']; omega
  have hk' : k = 0 ∨ k = 1 ∨ k = 2 ∨ k = 3 := by omega
  rcases hk' with rfl | rfl | rfl | rfl
  · have h := place_ok0 (UInt8.ofNat a) r hl (by rw [hb]; exact ha) w
    rw [hb] at h; exact h
  · have h := place_ok1 (UInt8.ofNat a) r hl (by rw [hb]; exact ha) w
    rw [hb] at h; exact h
  · have h := place_ok2 (UInt8.ofNat a) r hl (by rw [hb]; exact ha) w
    rw [hb] at h; exact h
  · have h := place_ok3 (UInt8.ofNat a) r hl (by rw [hb]; exact ha) w
    rw [hb] at h; exact h

set_option maxHeartbeats 8000000 in
theorem verify_own (X kk : Nat → Int) (s : List UInt8) (k : Nat) (hk : k ≤ 3) (a N : Nat) (hN : N = 2 ^ k) (ha : a < N) (t : ByteArray) (w : World) (hT : Tabs w X kk) :
    Calls Tryd.prog 61 #[.agg (bytesV (rootL X kk k (pubsL X kk s N))).toArray, .int .i64 (k : Int), .string t, .string ⟨(ksigL X kk s N k a t.data.toList).toArray⟩] w fun e w' => e = .returned (.int .i64 0) ∧ Below w.heap.size w w' := by
  have hlk : (pubsL X kk s N).length = 2 ^ k := (pubsL_length X kk s N).trans hN
  have hle := pubsL_each X kk s N
  have hai : a < 2 ^ k := by rw [← hN]; exact ha
  have hr32 := Top.rootL_length X kk k _ hlk hle
  have hpe := path_each X kk (pubsL X kk s N) k a hlk hai hle
  have hpn := pathL_length X kk (pubsL X kk s N) a k
  have hsg := signL_length X kk (seedL X kk s a) t.data.toList
  have hrec := recover_sign X kk (seedL X kk s a) t.data.toList
  have hpub : (pubsL X kk s N).getD a [] = publicL X kk (seedL X kk s a) := by
    rw [List.getD_eq_getElem?_getD, List.getElem?_eq_getElem (by rw [pubsL_length]; exact ha)]
    simp [pubsL]
  have HCL := Lib.hid (fun (base : Nat) (W : World) (v : Value) => Top.climb_path X kk (pubsL X kk s N) k a hk hlk hai hle base W v)
  rw [hpub] at HCL
  have hfl := flat_len _ hpe
  rw [hpn] at hfl
  have hy32 := Top.publicL_length X kk (seedL X kk s a)
  have HKS : ksigL X kk s N k a t.data.toList = UInt8.ofNat a :: (signL X kk (seedL X kk s a) t.data.toList ++ (pathL X kk (pubsL X kk s N) a k).flatten) := by simp [ksigL]
  rw [HKS]
  clear HKS hpub
  generalize rootL X kk k (pubsL X kk s N) = R at *
  generalize pathL X kk (pubsL X kk s N) a k = PL at *
  generalize signL X kk (seedL X kk s a) t.data.toList = sg at *
  have HRC := Lib.hid (fun (W : World) (h : Below w.heap.size w W) => recover_any X kk t sg hsg W (hT.below rfl h))
  rw [hrec] at HRC
  generalize publicL X kk (seedL X kk s a) = y at *
  have HPL := Lib.hid (fun (W : World) => place_ok k a hk hai (sg ++ PL.flatten) (by rw [List.length_append, hsg, hfl]) W)
  have HSM := Lib.hid (fun (W : World) => sums_any PL hpe (by omega) W)
  have HPN := Lib.hid hpn
  have HT := Lib.hid hT
  obtain ⟨sb, hsb⟩ : ∃ sb : ByteArray, sb = ⟨(UInt8.ofNat a :: (sg ++ PL.flatten)).toArray⟩ := ⟨_, rfl⟩
  have hsz : sb.size = 1089 + 32 * k := by rw [hsb]; simp [ByteArray.size, hsg, hfl]; omega
  have hext1 : sb.extract 1 1089 = ⟨sg.toArray⟩ := by
    rw [hsb]
    apply ByteArray.ext
    apply Array.ext'
    simp [ByteArray.data_extract, hsg]
  have hext2 : sb.extract 1089 (1089 + 32 * k) = ⟨PL.flatten.toArray⟩ := by
    rw [hsb]
    apply ByteArray.ext
    apply Array.ext'
    simp [ByteArray.data_extract, hsg, hfl]
    exact List.take_of_length_le (by rw [hfl]; exact Nat.le_refl _)
  rw [← hsb] at HPL ⊢
  obtain ⟨n, hn⟩ : ∃ n : Nat, n = 1089 + 32 * k := ⟨_, rfl⟩
  rw [← hn] at hsz hext2
  have hn1 : (1089 : Int) ≤ (n : Int) := by omega
  have hn2 : 1089 ≤ n := by omega
  have hkz : (k : Int) ≤ 3 := by omega
  clear hn hlk hle hai hsb hpe hpn hsg hrec hfl hN ha hk hT
  have b0 := Blk.made w (bytesV R) 30
  have B0 := (Below.refl w.heap.size w).alloc (Nat.le_refl _) (.cells (bytesV R).toArray 30)
  have hbl : (bytesV R).length = 32 := by rw [bytesV_length, hr32]
  have hyl : (bytesV y).length = 32 := by rw [bytesV_length, hy32]
  have HIA : Hid ((Tryd.prog.info? 30).map (·.size) = some (bytesV R).toArray.size) := by rw [List.size_toArray, hbl]; exact Lib.hid (by kernel_rfl)
  have HIR : Hid ((Tryd.prog.info? 30).map (·.size) = some (bytesV R).length) := by rw [hbl]; exact Lib.hid (by kernel_rfl)
  have HSZ : Hid ((bytesV R).toArray.size = 32) := by rw [List.size_toArray, hbl]; exact Lib.hid rfl
  have HYA : Hid ((Tryd.prog.info? 30).map (·.size) = some (bytesV y).toArray.size) := by rw [List.size_toArray, hyl]; exact Lib.hid (by kernel_rfl)
  have HYR : Hid ((Tryd.prog.info? 30).map (·.size) = some (bytesV y).length) := by rw [hyl]; exact Lib.hid (by kernel_rfl)
  have HYZ : Hid ((bytesV y).toArray.size = 32) := by rw [List.size_toArray, hyl]; exact Lib.hid rfl
  have hneq : ∀ W, (binOp .neq 30 (.agg (bytesV R).toArray) (.agg (bytesV R).toArray)).run Tryd.prog W = .ok (.bool false) W := fun W => by
    rw [hash_neq W _ _ hr32 hr32]; simp [bne]
  go_enter Tryd.func61, Tryd.ntmps61
  go_wp2_with fail
  generalize w.alloc (.cells (bytesV R).toArray 30) = wa at *
  refine (HPL.out _).mono ?_
  rintro e w1 ⟨rfl, hb1⟩
  have b1 := b0.low hb1
  have B1 := B0.trans (hb1.mono B0.size)
  clear b0 B0 hb1
  go_wp2_with fail
  refine (HRC.out _ B1).mono ?_
  rintro e w2 ⟨rfl, hb2⟩
  have b2 := b1.low hb2
  have B2 := B1.trans (hb2.mono B1.size)
  clear b1 B1 hb2
  have y3 := Blk.made w2 (bytesV y) 30
  have b3 := b2.alloc (.cells (bytesV y).toArray 30)
  have B3 := B2.alloc B2.size (.cells (bytesV y).toArray 30)
  have hwb := b2.size
  go_wp2_with (refine wpList_store_new (o := ⟨none, .store 30 (.tmp 11) (.tmp 27), _, _, _, _⟩) rfl 30 (.tmp 11) (.tmp 27) rfl _ (bytesV y).toArray ?_ ?_ HYA.out ?_ (bytesV_one _) ?_; rfl; rfl; exact (show _ = 32 from rfl).trans HYZ.out.symm)
  generalize w2.alloc (.cells (bytesV y).toArray 30) = w3 at *
  have hmo : Tryd.prog.follows .mixedOrders = true := by kernel_rfl
  have S0 : w3.drew.rangeAt w2.heap.size 0 (bytesV y) := y3.drew.at_
  replace b3 := b3.drew
  replace y3 := y3.drew
  replace B3 := B3.drew
  refine wp_region_heldX (fun w' => w'.rangeAt w2.heap.size 0 (bytesV y)) [5, 10, 11] hmo ?_
  generalize w3.drew = wd at *
  refine HeldX.take 0 (v := .agg (bytesV y).toArray) rfl (by kernel_rfl) (by kernel_rfl) (by kernel_rfl) (by kernel_rfl) (fun _ _ _ h => h) S0 (yieldsIf_load_mid (by kernel_rfl) 30 _ rfl w2.heap.size 0 rfl (bytesV y) _ (fun _ h => h) Tryd.underlying30 rfl HYR.out) ?_
  go_simp
  refine HeldX.move 1 (v := .int .i64 (a : Int)) rfl (by kernel_rfl) (by kernel_rfl) (by kernel_rfl) (by kernel_rfl) (fun _ _ _ h => h) S0 (.inl ⟨by kernel_rfl, fun w _ => by go_simp⟩) ?_
  go_simp
  refine HeldX.move 2 (v := .string sb) rfl (by kernel_rfl) (by kernel_rfl) (by kernel_rfl) (by kernel_rfl) (fun _ _ _ h => h) S0 (.inl ⟨by kernel_rfl, fun w _ => by go_simp⟩) ?_
  go_simp
  refine HeldX.move 3 (v := .string ⟨PL.flatten.toArray⟩) rfl (by kernel_rfl) (by kernel_rfl) (by kernel_rfl) (by kernel_rfl) (fun _ _ _ h => h) S0 (.inl ⟨by kernel_rfl, fun w _ => by go_simp⟩) ?_
  go_simp
  refine HeldX.all [4, 9] (by kernel_rfl) (by simp) (HeldXAll.cons rfl (by kernel_rfl) (fun K hK => ?_) (HeldXAll.cons rfl (by kernel_rfl) (fun K hK => ?_) HeldXAll.nil))
  · go_simp
    refine (HSM.out _).mono ?_
    rintro e w4 ⟨pv, rfl, hop, hpn0, hb⟩
    have hpn : k = 0 → pv = .slice none 0 0 := fun h => hpn0 (List.length_eq_zero_iff.1 (HPN.out.trans h))
    have b4 := b3.low hb
    have y4 := y3.low hb
    have B4 := B3.trans (hb.mono B3.size)
    have HCW := Lib.hid (HCL.out _ w4 pv hop hpn (HT.out.below rfl B4))
    have ho4 := hop
    clear hb
    refine hK _ _ y4.at_ ?_
    clear hK K
    refine HeldX.all [5, 9] (by kernel_rfl) (by simp) (HeldXAll.consL rfl (by kernel_rfl) (by kernel_rfl) (fun K hK => ?_) (HeldXAll.cons rfl (by kernel_rfl) (fun K hK => ?_) HeldXAll.nil))
    · go_simp
      refine HCW.out.mono ?_
      rintro e w5 ⟨rfl, hb⟩
      have b5 := b4.low hb
      have y5 := y4.low hb
      have B5 := B4.trans (hb.mono B4.size)
      refine hK _ _ ?_
      clear hK K hb
      refine HeldX.moveL 6 (v := .tuple #[.agg (bytesV R).toArray, .int .i64 0]) rfl (by kernel_rfl) (by kernel_rfl) (by kernel_rfl) (by kernel_rfl) (by kernel_rfl) (fun _ _ _ h => h) (.inl ⟨by kernel_rfl, fun w _ => by go_simp⟩) ?_
      go_simp
      refine HeldX.moveL 7 (v := .agg (bytesV R).toArray) rfl (by kernel_rfl) (by kernel_rfl) (by kernel_rfl) (by kernel_rfl) (by kernel_rfl) (fun _ _ _ h => h) (.inl ⟨by kernel_rfl, fun w _ => by go_simp⟩) ?_
      go_simp
      refine HeldX.moveL 8 (v := .int .i64 0) rfl (by kernel_rfl) (by kernel_rfl) (by kernel_rfl) (by kernel_rfl) (by kernel_rfl) (fun _ _ _ h => h) (.inl ⟨by kernel_rfl, fun w _ => by go_simp⟩) ?_
      go_simp
      refine HeldX.last 9 (by kernel_rfl) (by kernel_rfl) rfl (by kernel_rfl) (fun K hK => ?_)
      go_simp
      have hbA := (Below.refl w5.heap.size w5).alloc (Nat.le_refl _) (.cells #[.int .u8 0, .int .u8 0, .int .u8 0, .int .u8 0, .int .u8 0, .int .u8 0, .int .u8 0, .int .u8 0, .int .u8 0, .int .u8 0, .int .u8 0, .int .u8 0, .int .u8 0, .int .u8 0, .int .u8 0, .int .u8 0, .int .u8 0, .int .u8 0, .int .u8 0, .int .u8 0, .int .u8 0, .int .u8 0, .int .u8 0, .int .u8 0, .int .u8 0, .int .u8 0, .int .u8 0, .int .u8 0, .int .u8 0, .int .u8 0, .int .u8 0, .int .u8 0] 30)
      have z6 : Blk (w5.alloc (.cells #[.int .u8 0, .int .u8 0, .int .u8 0, .int .u8 0, .int .u8 0, .int .u8 0, .int .u8 0, .int .u8 0, .int .u8 0, .int .u8 0, .int .u8 0, .int .u8 0, .int .u8 0, .int .u8 0, .int .u8 0, .int .u8 0, .int .u8 0, .int .u8 0, .int .u8 0, .int .u8 0, .int .u8 0, .int .u8 0, .int .u8 0, .int .u8 0, .int .u8 0, .int .u8 0, .int .u8 0, .int .u8 0, .int .u8 0, .int .u8 0, .int .u8 0, .int .u8 0] 30)) w5.heap.size (bytesV (List.replicate 32 0)) := Blk.new w5 _ _
      have b6 := b5.low hbA
      have y6 := y5.low hbA
      have B6 := B5.trans (hbA.mono B5.size)
      clear hbA
      have hne : w5.heap.size ≠ w.heap.size := by have := b5.size; omega
      have hlo : w.heap.size ≤ w5.heap.size := B5.size
      obtain ⟨gA, hgA⟩ : ∃ gA, gA = w5.heap.size := ⟨_, rfl⟩
      rw [← hgA] at z6 hne hlo
      generalize w5.alloc (.cells #[.int .u8 0, .int .u8 0, .int .u8 0, .int .u8 0, .int .u8 0, .int .u8 0, .int .u8 0, .int .u8 0, .int .u8 0, .int .u8 0, .int .u8 0, .int .u8 0, .int .u8 0, .int .u8 0, .int .u8 0, .int .u8 0, .int .u8 0, .int .u8 0, .int .u8 0, .int .u8 0, .int .u8 0, .int .u8 0, .int .u8 0, .int .u8 0, .int .u8 0, .int .u8 0, .int .u8 0, .int .u8 0, .int .u8 0, .int .u8 0, .int .u8 0, .int .u8 0] 30) = w6 at *
      try rw [← hgA]
      clear hgA
      refine hK _ _ ?_
      clear hK K
      have HTH : Hid (w6.there gA 0 (bytesV R).toArray.size) := by rw [HSZ.out]; exact Lib.hid (z6.partThere 0 32 (by simp [bytesV]))
      refine HeldX.last 10 (by kernel_rfl) (by kernel_rfl) rfl (by kernel_rfl) (fun K hK => ?_)
      refine wp_store_mid 30 (.tmp 12) (.tmp 39) rfl gA 0 (bytesV R).toArray rfl rfl HTH.out HIA.out (bytesV_one _) ?_
      go_simp
      refine hK _ _ ?_
      clear hK K
      refine HeldX.last 11 (by kernel_rfl) (by kernel_rfl) rfl (by kernel_rfl) (fun K hK => ?_)
      go_simp
      refine hK _ _ ?_
      clear hK K
      refine HeldX.done (by kernel_rfl) ?_ _
      have HZ := Lib.hid (Blk.tail (a := []) (b := bytesV (List.replicate 32 0)) z6 (bytesV R) (by rw [hbl]; rfl)).at_
      have HB := Lib.hid (World.rangeAt_setCells_apart b6.at_ gA 0 (bytesV R) (.inl (Ne.symm hne)))
      have BL := Sha.below_setCells hlo (bytesV R) 0 _ B6
      go_wp2_with (first | ((with_reducible show wpList _ _ _ (⟨some 44, _, _, _, _, _⟩ :: _) _ _); refine Top.wpList_load_wanted (by kernel_rfl) 30 (.tmp 12) rfl gA 0 rfl (bytesV R) _ HZ.out Tryd.underlying30 rfl HIR.out ?_) | ((with_reducible show wpList _ _ _ (⟨some 45, _, _, _, _, _⟩ :: _) _ _); refine Top.wpList_load_wanted (by kernel_rfl) 30 (.tmp 4) rfl w.heap.size 0 rfl (bytesV R) _ HB.out Tryd.underlying30 rfl HIR.out ?_; refine Top.wpList_neq_wanted (by kernel_rfl) 30 _ (.tmp 44) (.tmp 45) (bytesV R).toArray (bytesV R).toArray (.bool false) rfl rfl rfl (run_eqGuard_agg _ _ _ _ _ _ _ Tryd.eqGuardType30) (hneq _) ?_))
      go_ret
      exact ⟨rfl, BL⟩
    · go_simp
      have hbA := (Below.refl w4.heap.size w4).alloc (Nat.le_refl _) (.cells #[.int .u8 0, .int .u8 0, .int .u8 0, .int .u8 0, .int .u8 0, .int .u8 0, .int .u8 0, .int .u8 0, .int .u8 0, .int .u8 0, .int .u8 0, .int .u8 0, .int .u8 0, .int .u8 0, .int .u8 0, .int .u8 0, .int .u8 0, .int .u8 0, .int .u8 0, .int .u8 0, .int .u8 0, .int .u8 0, .int .u8 0, .int .u8 0, .int .u8 0, .int .u8 0, .int .u8 0, .int .u8 0, .int .u8 0, .int .u8 0, .int .u8 0, .int .u8 0] 30)
      have z5 : Blk (w4.alloc (.cells #[.int .u8 0, .int .u8 0, .int .u8 0, .int .u8 0, .int .u8 0, .int .u8 0, .int .u8 0, .int .u8 0, .int .u8 0, .int .u8 0, .int .u8 0, .int .u8 0, .int .u8 0, .int .u8 0, .int .u8 0, .int .u8 0, .int .u8 0, .int .u8 0, .int .u8 0, .int .u8 0, .int .u8 0, .int .u8 0, .int .u8 0, .int .u8 0, .int .u8 0, .int .u8 0, .int .u8 0, .int .u8 0, .int .u8 0, .int .u8 0, .int .u8 0, .int .u8 0] 30)) w4.heap.size (bytesV (List.replicate 32 0)) := Blk.new w4 _ _
      have b5 := b4.low hbA
      have y5 := y4.low hbA
      have B5 := B4.trans (hbA.mono B4.size)
      replace HCW := Lib.hid (HCL.out _ _ pv (Top.ownH_low hop hbA) hpn (HT.out.below rfl B5))
      clear hbA
      have hne : w4.heap.size ≠ w.heap.size := by have := b4.size; omega
      have hlo : w.heap.size ≤ w4.heap.size := B4.size
      obtain ⟨gA, hgA⟩ : ∃ gA, gA = w4.heap.size := ⟨_, rfl⟩
      rw [← hgA] at z5 hne hlo
      generalize w4.alloc (.cells #[.int .u8 0, .int .u8 0, .int .u8 0, .int .u8 0, .int .u8 0, .int .u8 0, .int .u8 0, .int .u8 0, .int .u8 0, .int .u8 0, .int .u8 0, .int .u8 0, .int .u8 0, .int .u8 0, .int .u8 0, .int .u8 0, .int .u8 0, .int .u8 0, .int .u8 0, .int .u8 0, .int .u8 0, .int .u8 0, .int .u8 0, .int .u8 0, .int .u8 0, .int .u8 0, .int .u8 0, .int .u8 0, .int .u8 0, .int .u8 0, .int .u8 0, .int .u8 0] 30) = w5 at *
      try rw [← hgA]
      clear hgA
      refine hK _ _ y5.at_ ?_
      clear hK K
      refine HeldX.last 5 (by kernel_rfl) (by kernel_rfl) rfl (by kernel_rfl) (fun K hK => ?_)
      go_simp
      refine HCW.out.mono ?_
      rintro e w6 ⟨rfl, hb⟩
      have b6 := b5.low hb
      have y6 := y5.low hb
      have B6 := B5.trans (hb.mono B5.size)
      have z6 := z5.low hb
      refine hK _ _ ?_
      clear hK K hb
      refine HeldX.moveL 6 (v := .tuple #[.agg (bytesV R).toArray, .int .i64 0]) rfl (by kernel_rfl) (by kernel_rfl) (by kernel_rfl) (by kernel_rfl) (by kernel_rfl) (fun _ _ _ h => h) (.inl ⟨by kernel_rfl, fun w _ => by go_simp⟩) ?_
      go_simp
      refine HeldX.moveL 7 (v := .agg (bytesV R).toArray) rfl (by kernel_rfl) (by kernel_rfl) (by kernel_rfl) (by kernel_rfl) (by kernel_rfl) (fun _ _ _ h => h) (.inl ⟨by kernel_rfl, fun w _ => by go_simp⟩) ?_
      go_simp
      refine HeldX.moveL 8 (v := .int .i64 0) rfl (by kernel_rfl) (by kernel_rfl) (by kernel_rfl) (by kernel_rfl) (by kernel_rfl) (fun _ _ _ h => h) (.inl ⟨by kernel_rfl, fun w _ => by go_simp⟩) ?_
      go_simp
      have HTH : Hid (w6.there gA 0 (bytesV R).toArray.size) := by rw [HSZ.out]; exact Lib.hid (z6.partThere 0 32 (by simp [bytesV]))
      refine HeldX.last 10 (by kernel_rfl) (by kernel_rfl) rfl (by kernel_rfl) (fun K hK => ?_)
      refine wp_store_mid 30 (.tmp 12) (.tmp 39) rfl gA 0 (bytesV R).toArray rfl rfl HTH.out HIA.out (bytesV_one _) ?_
      go_simp
      refine hK _ _ ?_
      clear hK K
      refine HeldX.last 11 (by kernel_rfl) (by kernel_rfl) rfl (by kernel_rfl) (fun K hK => ?_)
      go_simp
      refine hK _ _ ?_
      clear hK K
      refine HeldX.done (by kernel_rfl) ?_ _
      have HZ := Lib.hid (Blk.tail (a := []) (b := bytesV (List.replicate 32 0)) z6 (bytesV R) (by rw [hbl]; rfl)).at_
      have HB := Lib.hid (World.rangeAt_setCells_apart b6.at_ gA 0 (bytesV R) (.inl (Ne.symm hne)))
      have BL := Sha.below_setCells hlo (bytesV R) 0 _ B6
      go_wp2_with (first | ((with_reducible show wpList _ _ _ (⟨some 44, _, _, _, _, _⟩ :: _) _ _); refine Top.wpList_load_wanted (by kernel_rfl) 30 (.tmp 12) rfl gA 0 rfl (bytesV R) _ HZ.out Tryd.underlying30 rfl HIR.out ?_) | ((with_reducible show wpList _ _ _ (⟨some 45, _, _, _, _, _⟩ :: _) _ _); refine Top.wpList_load_wanted (by kernel_rfl) 30 (.tmp 4) rfl w.heap.size 0 rfl (bytesV R) _ HB.out Tryd.underlying30 rfl HIR.out ?_; refine Top.wpList_neq_wanted (by kernel_rfl) 30 _ (.tmp 44) (.tmp 45) (bytesV R).toArray (bytesV R).toArray (.bool false) rfl rfl rfl (run_eqGuard_agg _ _ _ _ _ _ _ Tryd.eqGuardType30) (hneq _) ?_))
      go_ret
      exact ⟨rfl, BL⟩
  · go_simp
    have hbA := (Below.refl wd.heap.size wd).alloc (Nat.le_refl _) (.cells #[.int .u8 0, .int .u8 0, .int .u8 0, .int .u8 0, .int .u8 0, .int .u8 0, .int .u8 0, .int .u8 0, .int .u8 0, .int .u8 0, .int .u8 0, .int .u8 0, .int .u8 0, .int .u8 0, .int .u8 0, .int .u8 0, .int .u8 0, .int .u8 0, .int .u8 0, .int .u8 0, .int .u8 0, .int .u8 0, .int .u8 0, .int .u8 0, .int .u8 0, .int .u8 0, .int .u8 0, .int .u8 0, .int .u8 0, .int .u8 0, .int .u8 0, .int .u8 0] 30)
    have z4 : Blk (wd.alloc (.cells #[.int .u8 0, .int .u8 0, .int .u8 0, .int .u8 0, .int .u8 0, .int .u8 0, .int .u8 0, .int .u8 0, .int .u8 0, .int .u8 0, .int .u8 0, .int .u8 0, .int .u8 0, .int .u8 0, .int .u8 0, .int .u8 0, .int .u8 0, .int .u8 0, .int .u8 0, .int .u8 0, .int .u8 0, .int .u8 0, .int .u8 0, .int .u8 0, .int .u8 0, .int .u8 0, .int .u8 0, .int .u8 0, .int .u8 0, .int .u8 0, .int .u8 0, .int .u8 0] 30)) wd.heap.size (bytesV (List.replicate 32 0)) := Blk.new wd _ _
    have b4 := b3.low hbA
    have y4 := y3.low hbA
    have B4 := B3.trans (hbA.mono B3.size)
    clear hbA
    have hne : wd.heap.size ≠ w.heap.size := by have := b3.size; omega
    have hlo : w.heap.size ≤ wd.heap.size := B3.size
    obtain ⟨gA, hgA⟩ : ∃ gA, gA = wd.heap.size := ⟨_, rfl⟩
    rw [← hgA] at z4 hne hlo
    generalize wd.alloc (.cells #[.int .u8 0, .int .u8 0, .int .u8 0, .int .u8 0, .int .u8 0, .int .u8 0, .int .u8 0, .int .u8 0, .int .u8 0, .int .u8 0, .int .u8 0, .int .u8 0, .int .u8 0, .int .u8 0, .int .u8 0, .int .u8 0, .int .u8 0, .int .u8 0, .int .u8 0, .int .u8 0, .int .u8 0, .int .u8 0, .int .u8 0, .int .u8 0, .int .u8 0, .int .u8 0, .int .u8 0, .int .u8 0, .int .u8 0, .int .u8 0, .int .u8 0, .int .u8 0] 30) = w4 at *
    try rw [← hgA]
    clear hgA
    refine hK _ _ y4.at_ ?_
    clear hK K
    refine HeldX.one 4 (by kernel_rfl) rfl (by kernel_rfl) (fun K hK => ?_)
    go_simp
    refine (HSM.out _).mono ?_
    rintro e w5 ⟨pv, rfl, hop, hpn0, hb⟩
    have hpn : k = 0 → pv = .slice none 0 0 := fun h => hpn0 (List.length_eq_zero_iff.1 (HPN.out.trans h))
    have b5 := b4.low hb
    have y5 := y4.low hb
    have B5 := B4.trans (hb.mono B4.size)
    have z5 := z4.low hb
    have HCW := Lib.hid (HCL.out _ w5 pv hop hpn (HT.out.below rfl B5))
    have ho5 := hop
    clear hb
    refine hK _ _ y5.at_ ?_
    clear hK K
    refine HeldX.last 5 (by kernel_rfl) (by kernel_rfl) rfl (by kernel_rfl) (fun K hK => ?_)
    go_simp
    refine HCW.out.mono ?_
    rintro e w6 ⟨rfl, hb⟩
    have b6 := b5.low hb
    have y6 := y5.low hb
    have B6 := B5.trans (hb.mono B5.size)
    have z6 := z5.low hb
    refine hK _ _ ?_
    clear hK K hb
    refine HeldX.moveL 6 (v := .tuple #[.agg (bytesV R).toArray, .int .i64 0]) rfl (by kernel_rfl) (by kernel_rfl) (by kernel_rfl) (by kernel_rfl) (by kernel_rfl) (fun _ _ _ h => h) (.inl ⟨by kernel_rfl, fun w _ => by go_simp⟩) ?_
    go_simp
    refine HeldX.moveL 7 (v := .agg (bytesV R).toArray) rfl (by kernel_rfl) (by kernel_rfl) (by kernel_rfl) (by kernel_rfl) (by kernel_rfl) (fun _ _ _ h => h) (.inl ⟨by kernel_rfl, fun w _ => by go_simp⟩) ?_
    go_simp
    refine HeldX.moveL 8 (v := .int .i64 0) rfl (by kernel_rfl) (by kernel_rfl) (by kernel_rfl) (by kernel_rfl) (by kernel_rfl) (fun _ _ _ h => h) (.inl ⟨by kernel_rfl, fun w _ => by go_simp⟩) ?_
    go_simp
    have HTH : Hid (w6.there gA 0 (bytesV R).toArray.size) := by rw [HSZ.out]; exact Lib.hid (z6.partThere 0 32 (by simp [bytesV]))
    refine HeldX.last 10 (by kernel_rfl) (by kernel_rfl) rfl (by kernel_rfl) (fun K hK => ?_)
    refine wp_store_mid 30 (.tmp 12) (.tmp 39) rfl gA 0 (bytesV R).toArray rfl rfl HTH.out HIA.out (bytesV_one _) ?_
    go_simp
    refine hK _ _ ?_
    clear hK K
    refine HeldX.last 11 (by kernel_rfl) (by kernel_rfl) rfl (by kernel_rfl) (fun K hK => ?_)
    go_simp
    refine hK _ _ ?_
    clear hK K
    refine HeldX.done (by kernel_rfl) ?_ _
    have HZ := Lib.hid (Blk.tail (a := []) (b := bytesV (List.replicate 32 0)) z6 (bytesV R) (by rw [hbl]; rfl)).at_
    have HB := Lib.hid (World.rangeAt_setCells_apart b6.at_ gA 0 (bytesV R) (.inl (Ne.symm hne)))
    have BL := Sha.below_setCells hlo (bytesV R) 0 _ B6
    go_wp2_with (first | ((with_reducible show wpList _ _ _ (⟨some 44, _, _, _, _, _⟩ :: _) _ _); refine Top.wpList_load_wanted (by kernel_rfl) 30 (.tmp 12) rfl gA 0 rfl (bytesV R) _ HZ.out Tryd.underlying30 rfl HIR.out ?_) | ((with_reducible show wpList _ _ _ (⟨some 45, _, _, _, _, _⟩ :: _) _ _); refine Top.wpList_load_wanted (by kernel_rfl) 30 (.tmp 4) rfl w.heap.size 0 rfl (bytesV R) _ HB.out Tryd.underlying30 rfl HIR.out ?_; refine Top.wpList_neq_wanted (by kernel_rfl) 30 _ (.tmp 44) (.tmp 45) (bytesV R).toArray (bytesV R).toArray (.bool false) rfl rfl rfl (run_eqGuard_agg _ _ _ _ _ _ _ Tryd.eqGuardType30) (hneq _) ?_))
    go_ret
    exact ⟨rfl, BL⟩
end Key
end Go.Proofs.YtbgjoefpnjgdkaaDoor
