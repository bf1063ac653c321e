/- book.Check, Find, Verify of one right grant. -/
import Derived.Test.YtbgjoefpnjgdkaaDoorKBookAddOk
import Derived.Test.YtbgjoefpnjgdkaaDoorJ30
namespace Go.Proofs.YtbgjoefpnjgdkaaDoor
open Go.RowKit
set_option linter.unusedVariables false
set_option linter.unusedSimpArgs false
set_option maxRecDepth 100000
namespace Book
open Sha
set_option maxHeartbeats 2000000 in
theorem check_one (gs : List Value) (hgl : gs.length = 36) (h1 : ∀ u ∈ gs, u.oneCell' = true) (HRI : Hid (∀ W : World, Calls Tryd.prog 55 #[.agg gs.toArray] W fun e w' => e = .returned (.bool true) ∧ Below W.heap.size W w'))
    (g cap : Nat) (w : World) (hg : g < w.heap.size) (hr : w.rangeAt g 0 gs) :
    Calls Tryd.prog 53 #[.slice (some ⟨g, 0, none⟩) 1 cap] w fun e w' => e = .returned (.int .i64 0) ∧ Below w.heap.size w w' := by
  have HI : Hid ((Tryd.prog.info? 51).map (·.size) = some gs.length) := by rw [hgl]; exact Lib.hid (by kernel_rfl)
  have HIA : Hid ((Tryd.prog.info? 51).map (·.size) = some gs.toArray.size) := by rw [List.size_toArray, hgl]; exact Lib.hid (by kernel_rfl)
  have HR := Lib.hid hr
  have HO1 := Lib.hid (all_oneCell_toArray h1)
  have HZ : Hid (gs.toArray.size = 36) := Lib.hid (by simp [hgl])
  clear hr h1 hgl
  go_enter Tryd.func53, Tryd.ntmps53
  go_wp2_with fail
  go_loopw [10] (fun x wr => (x = .int .i64 0 ∧ wr = w) ∨ (x = .int .i64 1 ∧ Below w.heap.size w wr)) (fun x _ => (1 - intOf x).toNat)
  case atStart => exact .inl ⟨rfl, rfl⟩
  case round =>
    rcases hrel with ⟨rfl, rfl⟩ | ⟨rfl, hB⟩
    · have hq := HR.out
      go_wp2_with (first | (with_reducible refine wpList_load_mid rfl 51 _ rfl g 0 rfl gs _ HR.out Tryd.underlying51 rfl HI.out ?_) | (refine wpList_store_new (o := ⟨none, .store 51 (.tmp 4) (.tmp 14), _, _, _, _⟩) rfl 51 (.tmp 4) (.tmp 14) rfl _ gs.toArray ?_ ?_ HIA.out ?_ HO1.out ?_; rfl; rfl; exact (show _ = 36 from rfl).trans HZ.out.symm))
      have hmo : Tryd.prog.follows .mixedOrders = true := by kernel_rfl
      have HK := Blk.made wr gs 51
      have hB := (Below.refl wr.heap.size wr).alloc (Nat.le_refl _) (.cells gs.toArray 51)
      have hlow := hB.drew
      have S0 := HK.drew.at_
      refine wp_region_heldX (fun W => W.rangeAt wr.heap.size 0 gs) [] hmo ?_
      generalize hwa : (wr.alloc (.cells gs.toArray 51)).drew = wa at *
      refine HeldX.take 0 (v := .agg gs.toArray) rfl (by kernel_rfl) (by kernel_rfl) (by kernel_rfl) (by kernel_rfl) (fun _ _ _ h => h) S0 (yieldsIf_load_mid (by kernel_rfl) 51 _ rfl wr.heap.size 0 rfl gs _ (fun _ h => h) Tryd.underlying51 rfl HI.out) ?_
      go_simp
      refine HeldX.one 1 (by kernel_rfl) rfl (by kernel_rfl) (fun K hK => ?_)
      go_simp
      refine (HRI.out _).mono ?_
      rintro e w2 ⟨rfl, hb2⟩
      have hB2 := hlow.trans (hb2.mono hlow.size)
      have hK2 := Blk.below (cs := gs) ⟨by rw [← hwa]; simp [World.drew], S0, fun j hj => by rw [← hwa]; exact HK.drew.there j hj⟩ hb2 (by rw [← hwa]; simp [World.drew])
      have S0 := hK2.at_
      refine hK _ _ S0 ?_
      clear hK K
      refine HeldX.move 2 (v := .bool false) rfl (by kernel_rfl) (by kernel_rfl) (by kernel_rfl) (by kernel_rfl) (fun _ _ _ h => h) S0 (.inl ⟨by kernel_rfl, fun w h => by go_simp⟩) ?_
      go_simp
      refine HeldX.move 3 (v := .bool false) rfl (by kernel_rfl) (by kernel_rfl) (by kernel_rfl) (by kernel_rfl) (fun _ _ _ h => h) S0 (.inl ⟨by kernel_rfl, fun w h => by go_simp⟩) ?_
      go_simp
      refine HeldX.move 4 (v := .int .i64 0) rfl (by kernel_rfl) (by kernel_rfl) (by kernel_rfl) (by kernel_rfl) (fun _ _ _ h => h) S0 (.inl ⟨by kernel_rfl, fun w h => by go_simp⟩) ?_
      go_simp
      refine HeldX.move 5 (v := .bool false) rfl (by kernel_rfl) (by kernel_rfl) (by kernel_rfl) (by kernel_rfl) (fun _ _ _ h => h) S0 (.inl ⟨by kernel_rfl, fun w h => by go_simp⟩) ?_
      go_simp
      refine HeldX.move 6 (v := .bool false) rfl (by kernel_rfl) (by kernel_rfl) (by kernel_rfl) (by kernel_rfl) (fun _ _ _ h => h) S0 (.inl ⟨by kernel_rfl, fun w h => by go_simp⟩) ?_
      go_simp
      refine HeldX.move 7 (v := undef) rfl (by kernel_rfl) (by kernel_rfl) (by kernel_rfl) (by kernel_rfl) (fun _ _ _ h => h) S0 (.inr ⟨by kernel_rfl, rfl⟩) ?_
      go_simp
      refine HeldX.move 8 (v := undef) rfl (by kernel_rfl) (by kernel_rfl) (by kernel_rfl) (by kernel_rfl) (fun _ _ _ h => h) S0 (.inr ⟨by kernel_rfl, rfl⟩) ?_
      go_simp
      refine HeldX.move 9 (v := undef) rfl (by kernel_rfl) (by kernel_rfl) (by kernel_rfl) (by kernel_rfl) (fun _ _ _ h => h) S0 (.inr ⟨by kernel_rfl, rfl⟩) ?_
      go_simp
      refine HeldX.move 10 (v := undef) rfl (by kernel_rfl) (by kernel_rfl) (by kernel_rfl) (by kernel_rfl) (fun _ _ _ h => h) S0 (.inr ⟨by kernel_rfl, rfl⟩) ?_
      go_simp
      refine HeldX.move 11 (v := undef) rfl (by kernel_rfl) (by kernel_rfl) (by kernel_rfl) (by kernel_rfl) (fun _ _ _ h => h) S0 (.inr ⟨by kernel_rfl, rfl⟩) ?_
      go_simp
      refine HeldX.move 12 (v := undef) rfl (by kernel_rfl) (by kernel_rfl) (by kernel_rfl) (by kernel_rfl) (fun _ _ _ h => h) S0 (.inr ⟨by kernel_rfl, rfl⟩) ?_
      go_simp
      refine HeldX.move 13 (v := undef) rfl (by kernel_rfl) (by kernel_rfl) (by kernel_rfl) (by kernel_rfl) (fun _ _ _ h => h) S0 (.inr ⟨by kernel_rfl, rfl⟩) ?_
      go_simp
      refine HeldX.move 14 (v := undef) rfl (by kernel_rfl) (by kernel_rfl) (by kernel_rfl) (by kernel_rfl) (fun _ _ _ h => h) S0 (.inr ⟨by kernel_rfl, rfl⟩) ?_
      go_simp
      refine HeldX.move 15 (v := .bool false) rfl (by kernel_rfl) (by kernel_rfl) (by kernel_rfl) (by kernel_rfl) (fun _ _ _ h => h) S0 (.inl ⟨by kernel_rfl, fun w h => by go_simp⟩) ?_
      go_simp
      refine HeldX.move 16 (v := .bool false) rfl (by kernel_rfl) (by kernel_rfl) (by kernel_rfl) (by kernel_rfl) (fun _ _ _ h => h) S0 (.inl ⟨by kernel_rfl, fun w h => by go_simp⟩) ?_
      go_simp
      refine HeldX.done (by kernel_rfl) ?_ _
      go_wp2_with fail
      go_roundw
      · exact .inr ⟨rfl, hB2⟩
      · decide
    · go_wp2_with fail
      go_ret
      exact ⟨rfl, hB⟩

set_option maxHeartbeats 2000000 in
theorem index_one (gs : List Value) (hgl : gs.length = 36) (g cap b1 b2 : Nat) (bb : Bool) (w : World) (hg : g < w.heap.size) (hr : w.rangeAt g 0 gs)
    (HAS : ∀ W : World, Below w.heap.size w W → Calls Tryd.prog 107 #[.agg gs.toArray, .pointer (some ⟨b1, 0, none⟩), .pointer (some ⟨b2, 0, none⟩)] W fun e w' => e = .returned (.bool bb) ∧ Below W.heap.size W w') :
    Calls Tryd.prog 106 #[.slice (some ⟨g, 0, none⟩) 1 cap, .func (.func 107) #[] #[.pointer (some ⟨b1, 0, none⟩), .pointer (some ⟨b2, 0, none⟩)]] w fun e w' => e = .returned (.int .i64 (if bb then 0 else -1)) ∧ Below w.heap.size w w' := by
  have HI : Hid ((Tryd.prog.info? 51).map (·.size) = some gs.length) := by rw [hgl]; exact Lib.hid (by kernel_rfl)
  have HR := Lib.hid hr
  have HA := Lib.hid HAS
  clear hr hgl HAS
  go_enter Tryd.func106, Tryd.ntmps106
  go_wp2_with fail
  go_loopw [8] (fun x wr => (x = .int .i64 0 ∧ wr = w) ∨ (x = .int .i64 1 ∧ bb = false ∧ Below w.heap.size w wr)) (fun x _ => (1 - intOf x).toNat)
  case atStart => exact .inl ⟨rfl, rfl⟩
  case round =>
    rcases hrel with ⟨rfl, rfl⟩ | ⟨rfl, rfl, hB⟩
    · go_wp2_with (with_reducible refine wpList_load_mid rfl 51 _ rfl g 0 rfl gs _ HR.out Tryd.underlying51 rfl HI.out ?_)
      refine (HA.out _ (Below.refl _ _)).mono ?_
      rintro e w2 ⟨rfl, hb2⟩
      cases bb
      · go_wp2_with fail
        go_roundw
        · exact .inr ⟨rfl, by trivial, hb2⟩
        · decide
      · go_wp2_with fail
        go_ret
        exact ⟨rfl, hb2⟩
    · go_wp2_with fail
      go_ret
      exact ⟨rfl, hB⟩

/-- the grant that is asked for, or none -/
def foundC (sv fr to hi : Int) (R : List UInt8) (sx ax : Int) : List Value := if sv = sx ∧ fr ≤ ax ∧ ax ≤ to then grantC sv fr to hi R else grantC 0 0 0 0 (List.replicate 32 0)

set_option maxHeartbeats 4000000 in
theorem find_one (sv fr to hi : Int) (R : List UInt8) (hR : R.length = 32) (hok : rightP sv fr to hi) (g cap : Nat) (sx ax : Int) (w : World) (hg : g < w.heap.size) (hr : w.rangeAt g 0 (grantC sv fr to hi R)) :
    Calls Tryd.prog 60 #[.slice (some ⟨g, 0, none⟩) 1 cap, .int .i64 sx, .int .i64 ax] w fun e w' => e = .returned (.tuple #[.agg (foundC sv fr to hi R sx ax).toArray, .int .i64 (if sv = sx ∧ fr ≤ ax ∧ ax ≤ to then 0 else 3)]) ∧ Below w.heap.size w w' := by
  have HRI := Lib.hid (fun (W : World) => right_any sv fr to hi (bytesV R).toArray (by rw [List.size_toArray, bytesV_length, hR]) W)
  rw [show decide (rightP sv fr to hi) = true from decide_eq_true hok, grantV_C] at HRI
  have HAS := Lib.hid (fun (W : World) (h1 : w.heap.size < W.heap.size) (h2 : w.heap.size + 1 < W.heap.size) (c1 : W.cell? ⟨w.heap.size, 0, none⟩ = some (.int .i64 sx)) (c2 : W.cell? ⟨w.heap.size + 1, 0, none⟩ = some (.int .i64 ax)) => asked_any sv fr to hi (bytesV R).toArray (by rw [List.size_toArray, bytesV_length, hR]) w.heap.size (w.heap.size + 1) sx ax W h1 h2 c1 c2)
  rw [grantV_C] at HAS
  have hgl := grantC_length sv fr to hi R hR
  have HO := Lib.hid (grantC_one sv fr to hi R)
  have HF : Hid (foundC sv fr to hi R sx ax = if (decide (sv = sx) && decide (fr ≤ ax) && decide (ax ≤ to)) = true then grantC sv fr to hi R else grantC 0 0 0 0 (List.replicate 32 0)) := Lib.hid (by
    unfold foundC
    by_cases hc : sv = sx ∧ fr ≤ ax ∧ ax ≤ to
    · rw [if_pos hc, if_pos (by simp [hc])]
    · rw [if_neg hc, if_neg (by simpa [and_assoc] using hc)])
  have HE : Hid ((if sv = sx ∧ fr ≤ ax ∧ ax ≤ to then (0 : Int) else 3) = if (decide (sv = sx) && decide (fr ≤ ax) && decide (ax ≤ to)) = true then 0 else 3) := Lib.hid (by
    by_cases hc : sv = sx ∧ fr ≤ ax ∧ ax ≤ to
    · rw [if_pos hc, if_pos (by simp [hc])]
    · rw [if_neg hc, if_neg (by simpa [and_assoc] using hc)])
  rw [HE.out]
  generalize foundC sv fr to hi R sx ax = fc at *
  generalize (decide (sv = sx) && decide (fr ≤ ax) && decide (ax ≤ to)) = bb at *
  generalize grantC sv fr to hi R = gs at *
  clear HE hok
  have HI : Hid ((Tryd.prog.info? 51).map (·.size) = some gs.length) := by rw [hgl]; exact Lib.hid (by kernel_rfl)
  have HIA : Hid ((Tryd.prog.info? 51).map (·.size) = some gs.toArray.size) := by rw [List.size_toArray, hgl]; exact Lib.hid (by kernel_rfl)
  have HO1 := Lib.hid (all_oneCell_toArray HO.out)
  have HSZ : Hid (gs.toArray.size = 36) := Lib.hid (by simp [hgl])
  have HGL := Lib.hid hgl
  obtain ⟨zs, hzs⟩ : ∃ zs : List Value, zs = grantC 0 0 0 0 (List.replicate 32 0) := ⟨_, rfl⟩
  have hlit : #[Value.int .i64 0, Value.int .i64 0, Value.int .i64 0, Value.int .i64 0, Value.int .u8 0, Value.int .u8 0, Value.int .u8 0, Value.int .u8 0, Value.int .u8 0, Value.int .u8 0, Value.int .u8 0, Value.int .u8 0, Value.int .u8 0, Value.int .u8 0, Value.int .u8 0, Value.int .u8 0, Value.int .u8 0, Value.int .u8 0, Value.int .u8 0, Value.int .u8 0, Value.int .u8 0, Value.int .u8 0, Value.int .u8 0, Value.int .u8 0, Value.int .u8 0, Value.int .u8 0, Value.int .u8 0, Value.int .u8 0, Value.int .u8 0, Value.int .u8 0, Value.int .u8 0, Value.int .u8 0, Value.int .u8 0, Value.int .u8 0, Value.int .u8 0, Value.int .u8 0] = zs.toArray := by rw [hzs]; rfl
  have hzl : zs.length = 36 := by rw [hzs]; rfl
  have HZ1 : Hid (zs.toArray.all (·.oneCell') = true) := by rw [hzs]; exact Lib.hid (all_oneCell_toArray (grantC_one _ _ _ _ _))
  have HIZ : Hid ((Tryd.prog.info? 51).map (·.size) = some zs.toArray.size) := by rw [List.size_toArray, hzl]; exact Lib.hid (by kernel_rfl)
  have HIZ' : Hid ((Tryd.prog.info? 51).map (·.size) = some zs.length) := by rw [hzl]; exact Lib.hid (by kernel_rfl)
  have HZZ : Hid (zs.toArray.size = 36) := Lib.hid (by simp [hzl])
  have hz0 := World.size_alloc w (.cells #[.int .i64 sx] 3)
  have hz1 := World.size_alloc (w.alloc (.cells #[.int .i64 sx] 3)) (.cells #[.int .i64 ax] 2)
  rw [hz0] at hz1
  have A1 := (Blk.made w [.int .i64 sx] 3).alloc (.cells #[.int .i64 ax] 2)
  have A2 := Blk.made (w.alloc (.cells #[.int .i64 sx] 3)) [.int .i64 ax] 2
  have A3 := Blk.made ((w.alloc (.cells #[.int .i64 sx] 3)).alloc (.cells #[.int .i64 ax] 2)) zs 51
  have A1 := A1.alloc (.cells zs.toArray 51)
  have A2 := A2.alloc (.cells zs.toArray 51)
  have B1 := (((Below.refl w.heap.size w).alloc (Nat.le_refl _) (.cells #[.int .i64 sx] 3)).alloc (by omega) (.cells #[.int .i64 ax] 2)).alloc (by omega) (.cells zs.toArray 51)
  rw [hz0] at A2
  rw [hz1] at A3
  have HZS := Lib.hid hzs
  clear hzs
  go_enter Tryd.func60, Tryd.ntmps60
  go_wp2_with fail
  generalize ((w.alloc (.cells #[.int .i64 sx] 3)).alloc (.cells #[.int .i64 ax] 2)).alloc (.cells zs.toArray 51) = wa at *
  have hr1 : wa.rangeAt g 0 gs := fun j u hu => (B1.cell (p := ⟨g, 0 + j, none⟩) hg).trans (hr j u hu)
  have hgA : g < wa.heap.size := by have := B1.size; omega
  refine (check_one gs hgl HO.out HRI g cap wa hgA hr1).mono ?_
  rintro e w2 ⟨rfl, hb2⟩
  have A1 := A1.low hb2
  have A2 := A2.low hb2
  have A3 := A3.low hb2
  have B2 := B1.trans (hb2.mono B1.size)
  have hr2 : w2.rangeAt g 0 gs := fun j u hu => (B2.cell (p := ⟨g, 0 + j, none⟩) hg).trans (hr j u hu)
  have hgB : g < w2.heap.size := by have := B2.size; omega
  clear hb2 B1 hr1
  have hlits := Lib.hid hlit
  clear hlit
  go_wp2_with fail
  refine (index_one gs hgl g cap w.heap.size (w.heap.size + 1) bb w2 hgB hr2 (fun W hW => HAS.out W (by have := A1.size; have := hW.size; omega) (by have := A2.size; have := hW.size; omega) ((A1.low hW).cell 0 rfl) ((A2.low hW).cell 0 rfl))).mono ?_
  rintro e w3 ⟨rfl, hb3⟩
  have A3 := A3.low hb3
  have B3 := B2.trans (hb3.mono B2.size)
  have HRG : Hid (w3.rangeAt g 0 gs) := Lib.hid (fun j u hu => (B3.cell (p := ⟨g, 0 + j, none⟩) hg).trans (hr j u hu))
  have hs3 := A3.size
  clear hb3 B2 hr2 A1 A2 HAS HRI hr
  cases bb
  · have HTH : Hid (w3.there (w.heap.size + 1 + 1) 0 zs.toArray.size) := by rw [List.size_toArray]; exact Lib.hid A3.there
    have HA3 := Lib.hid A3
    have HBB := Lib.hid B3
    have hzsz := HZZ.out
    clear A3 B3
    have hlit := hlits.out
    go_wp2_with (with_reducible refine wpList_store_mid rfl 51 _ _ rfl (w.heap.size + 1 + 1) 0 zs.toArray rfl rfl HTH.out HIZ.out HZ1.out ?_)
    have HL := Blk.tail (a := []) (b := zs) HA3.out zs rfl
    refine bodyPost_ret (v := .tuple #[.agg zs.toArray, .int .i64 3]) ?_ rfl ⟨by rw [HF.out, HZS.out]; rfl, Sha.below_setCells (by omega) _ _ _ HBB.out⟩
    exact One.results_cell_tmp rfl _ _ _ (w.heap.size + 1 + 1) zs _ rfl rfl (run_loadVar_mid _ _ _ _ zs _ HL.at_ Tryd.underlying51 rfl HIZ'.out)
  · have HTH : Hid (w3.there (w.heap.size + 1 + 1) 0 gs.toArray.size) := by rw [HSZ.out, ← hzl]; exact Lib.hid A3.there
    have HA3 := Lib.hid A3
    have HBB := Lib.hid B3
    clear A3 B3
    go_wp2_with (first | (with_reducible refine wpList_load_mid rfl 51 _ rfl g 0 rfl gs _ HRG.out Tryd.underlying51 rfl HI.out ?_) | (with_reducible refine wpList_store_mid rfl 51 _ _ rfl (w.heap.size + 1 + 1) 0 gs.toArray rfl rfl HTH.out HIA.out HO1.out ?_))
    have HL := Blk.tail (a := []) (b := zs) HA3.out gs (by rw [hzl, hgl])
    refine bodyPost_ret (v := .tuple #[.agg gs.toArray, .int .i64 0]) ?_ rfl ⟨by rw [HF.out]; rfl, Sha.below_setCells (by omega) _ _ _ HBB.out⟩
    exact One.results_cell_tmp rfl _ _ _ (w.heap.size + 1 + 1) gs _ rfl rfl (run_loadVar_mid _ _ _ _ gs _ HL.at_ Tryd.underlying51 rfl HI.out)
end Book
end Go.Proofs.YtbgjoefpnjgdkaaDoor
