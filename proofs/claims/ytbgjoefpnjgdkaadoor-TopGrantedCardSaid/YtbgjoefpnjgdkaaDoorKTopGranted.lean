/- The walk of the law TopGranted, by the contracts of what it calls. -/
import Derived.Test.YtbgjoefpnjgdkaaDoorJ32
import Derived.Test.YtbgjoefpnjgdkaaDoorKKeyVerify
import Derived.Outline
namespace Go.Proofs.YtbgjoefpnjgdkaaDoor
open Go.RowKit
set_option linter.unusedVariables false
set_option linter.unusedSimpArgs false
set_option maxRecDepth 100000
namespace Top
open Sha Tree Key Book Go.Proofs.YtbgjoefpnjgdkaaDoor.One

set_option maxHeartbeats 1000000 in
theorem granted_high (s : List UInt8) (high next sv fr to ax : Int) (t : ByteArray) (w : World) (h3 : 3 < high) (h7 : high ≤ 7) :
    Calls Tryd.prog 5 #[keyV s high next, .int .i64 sv, .int .i64 fr, .int .i64 to, .int .i64 ax, .string t] w fun e w' => e = .returned (.bool true) ∧ Below w.heap.size w w' := by
  have BK := Blk.made w [.string ⟨s.toArray⟩, .int .i64 high, .int .i64 next] 43
  have B0 := (Below.refl w.heap.size w).alloc (Nat.le_refl _) (.cells #[.string ⟨s.toArray⟩, .int .i64 high, .int .i64 next] 43)
  unfold keyV at *
  go_enter Tryd.func5, Tryd.ntmps5
  go_wp2_with fail
  change Calls _ _ _ (w.alloc (.cells [.string ⟨s.toArray⟩, .int .i64 high, .int .i64 next].toArray 43)) _
  generalize hwa : w.alloc (.cells [.string ⟨s.toArray⟩, .int .i64 high, .int .i64 next].toArray 43) = wa at *
  refine (begins_any _).mono ?_
  rintro e w1 ⟨rfl, hb1⟩
  have BK := BK.low hb1
  have B1 := B0.trans (hb1.mono B0.size)
  clear hb1 hwa B0
  have k1 := BK.cell 1 rfl
  have l1 := BK.size
  go_wp2_with fail
  go_ret
  exact ⟨rfl, B1⟩
set_option maxHeartbeats 1000000 in
theorem granted_long (s : List UInt8) (high next sv fr to ax : Int) (t : ByteArray) (w : World) (h3 : ¬ (3 < high ∧ high ≤ 7)) (ht : (16384 : Int) < (t.size : Int)) :
    Calls Tryd.prog 5 #[keyV s high next, .int .i64 sv, .int .i64 fr, .int .i64 to, .int .i64 ax, .string t] w fun e w' => e = .returned (.bool true) ∧ Below w.heap.size w w' := by
  have BK := Blk.made w [.string ⟨s.toArray⟩, .int .i64 high, .int .i64 next] 43
  have B0 := (Below.refl w.heap.size w).alloc (Nat.le_refl _) (.cells #[.string ⟨s.toArray⟩, .int .i64 high, .int .i64 next] 43)
  unfold keyV at *
  go_enter Tryd.func5, Tryd.ntmps5
  go_wp2_with fail
  change Calls _ _ _ (w.alloc (.cells [.string ⟨s.toArray⟩, .int .i64 high, .int .i64 next].toArray 43)) _
  generalize hwa : w.alloc (.cells [.string ⟨s.toArray⟩, .int .i64 high, .int .i64 next].toArray 43) = wa at *
  refine (begins_any _).mono ?_
  rintro e w1 ⟨rfl, hb1⟩
  have BK := BK.low hb1
  have B1 := B0.trans (hb1.mono B0.size)
  clear hb1 hwa B0
  have k1 := BK.cell 1 rfl
  have l1 := BK.size
  by_cases h4 : 3 < high
  · have h8 : ¬ high ≤ 7 := fun h => h3 ⟨h4, h⟩
    go_wp2_with fail
    go_ret
    exact ⟨rfl, B1⟩
  · go_wp2_with fail
    go_ret
    exact ⟨rfl, B1⟩

/-- what the three first calls answer -/
structure Three (w : World) (s : List UInt8) (high next sv fr to : Int) (t : ByteArray) (R : List UInt8) (sg : List UInt8) (e1 e2 e3 : Int) (X : Value → Nat → World → Prop) : Prop where
  len : R.length = 32
  root : ∀ W, Below w.heap.size w W → Calls Tryd.prog 19 #[.agg #[.string ⟨s.toArray⟩, .int .i64 high, .int .i64 next]] W fun e w' => e = .returned (.tuple #[.agg (bytesV R).toArray, .int .i64 e1]) ∧ Below W.heap.size W w'
  sign : ∀ W, Below w.heap.size w W → Calls Tryd.prog 20 #[.agg #[.string ⟨s.toArray⟩, .int .i64 high, .int .i64 next], .string t] W fun e w' => (∃ K : List UInt8 × Int × Int, e = .returned (.tuple #[keyV K.1 K.2.1 K.2.2, .string ⟨sg.toArray⟩, .int .i64 e2])) ∧ Below W.heap.size W w'
  add : ∀ W, Below w.heap.size w W → Calls Tryd.prog 21 #[.slice none 0 0, .agg (grantC sv fr to high R).toArray] W fun e w' => ∃ v, e = .returned (.tuple #[v, .int .i64 e3]) ∧ X v W.heap.size w' ∧ Below W.heap.size W w'

theorem fold_from (o : Nat) : ∀ (l : List Value) (k : Nat) (pre old : List Value), pre.length = o + k → old.length = l.length → (l.zipIdx k).foldl (fun cs x => cs.setIfInBounds (o + x.snd) x.fst) (pre ++ old).toArray = (pre ++ l).toArray
  | [], k, pre, old, h, ho => by
    obtain rfl := List.length_eq_zero_iff.1 ho
    rfl
  | v :: l, k, pre, [], h, ho => by simp at ho
  | v :: l, k, pre, y :: ys, h, ho => by
    rw [List.zipIdx_cons, List.foldl_cons]
    have h1 : (pre ++ y :: ys).toArray.setIfInBounds (o + k) v = ((pre ++ [v]) ++ ys).toArray := by
      rw [← h]
      simp
    show List.foldl _ ((pre ++ y :: ys).toArray.setIfInBounds (o + k) v) _ = _
    rw [h1, fold_from o l (k + 1) (pre ++ [v]) ys (by simp [h]; omega) (by simpa using ho)]
    simp
theorem fold_grant (sv fr to high : Int) (R : List UInt8) (hR : R.length = 32) : (bytesV R).zipIdx.foldl (fun cs x => cs.setIfInBounds (4 + x.snd) x.fst) #[Value.int .i64 sv, Value.int .i64 fr, Value.int .i64 to, Value.int .i64 high, Value.int .u8 0, Value.int .u8 0, Value.int .u8 0, Value.int .u8 0, Value.int .u8 0, Value.int .u8 0, Value.int .u8 0, Value.int .u8 0, Value.int .u8 0, Value.int .u8 0, Value.int .u8 0, Value.int .u8 0, Value.int .u8 0, Value.int .u8 0, Value.int .u8 0, Value.int .u8 0, Value.int .u8 0, Value.int .u8 0, Value.int .u8 0, Value.int .u8 0, Value.int .u8 0, Value.int .u8 0, Value.int .u8 0, Value.int .u8 0, Value.int .u8 0, Value.int .u8 0, Value.int .u8 0, Value.int .u8 0, Value.int .u8 0, Value.int .u8 0, Value.int .u8 0, Value.int .u8 0] = (grantC sv fr to high R).toArray :=
  fold_from 4 (bytesV R) 0 [.int .i64 sv, .int .i64 fr, .int .i64 to, .int .i64 high] (List.replicate 32 (.int .u8 0)) rfl (by rw [bytesV_length, hR]; rfl)
set_option maxHeartbeats 4000000 in
theorem granted_fail (s : List UInt8) (high next sv fr to ax : Int) (t : ByteArray) (w : World) (h37 : ¬ (3 < high ∧ high ≤ 7)) (ht : (t.size : Int) ≤ 16384) (R sg : List UInt8) (e1 e2 e3 : Int) (X : Value → Nat → World → Prop)
    (H3 : Three w s high next sv fr to t R sg e1 e2 e3 X) (he : e1 = 2 ∨ (e1 = 0 ∧ e2 = 10) ∨ (e1 = 0 ∧ e2 = 0 ∧ e3 = 2)) :
    Calls Tryd.prog 5 #[keyV s high next, .int .i64 sv, .int .i64 fr, .int .i64 to, .int .i64 ax, .string t] w fun e w' => e = .returned (.bool true) ∧ Below w.heap.size w w' := by
  have HT3 := Lib.hid H3
  have hbl : (bytesV R).length = 32 := by rw [bytesV_length, H3.len]
  have HIA : Hid ((Tryd.prog.info? 30).map (·.size) = some (bytesV R).toArray.size) := by rw [List.size_toArray, hbl]; exact Lib.hid (by kernel_rfl)
  have HIR : Hid ((Tryd.prog.info? 30).map (·.size) = some (bytesV R).length) := by rw [hbl]; exact Lib.hid (by kernel_rfl)
  have HZ : Hid ((bytesV R).toArray.size = 32) := Lib.hid (by simp [hbl])
  clear H3
  have BK := Blk.made w [.string ⟨s.toArray⟩, .int .i64 high, .int .i64 next] 43
  have B0 := (Below.refl w.heap.size w).alloc (Nat.le_refl _) (.cells #[.string ⟨s.toArray⟩, .int .i64 high, .int .i64 next] 43)
  unfold keyV at *
  go_enter Tryd.func5, Tryd.ntmps5
  go_wp2_with fail
  change Calls _ _ _ (w.alloc (.cells [.string ⟨s.toArray⟩, .int .i64 high, .int .i64 next].toArray 43)) _
  generalize hwa : w.alloc (.cells [.string ⟨s.toArray⟩, .int .i64 high, .int .i64 next].toArray 43) = wa at *
  refine (begins_any _).mono ?_
  rintro e w1 ⟨rfl, hb1⟩
  have BK := BK.low hb1
  have B1 := B0.trans (hb1.mono B0.size)
  clear hb1 hwa B0
  have k0 := BK.cell 0 rfl
  have k1 := BK.cell 1 rfl
  have k2 := BK.cell 2 rfl
  have l1 := BK.size
  have hgd : decide (3 < high) = true → decide (high ≤ 7) = false := fun h => decide_eq_false (fun h7 => h37 ⟨of_decide_eq_true h, h7⟩)
  go_wp2_with fail
  all_goals
    refine (HT3.out.root _ B1).mono ?_
    rintro e w2 ⟨rfl, hb2⟩
    have BK2 := BK.low hb2
    have B2 := B1.trans (hb2.mono B1.size)
    have BH := Blk.made w2 (bytesV R) 30
    have BK3 := BK2.alloc (.cells (bytesV R).toArray 30)
    have B3 := B2.alloc B2.size (.cells (bytesV R).toArray 30)
    have k0 := BK3.cell 0 rfl
    have k1 := BK3.cell 1 rfl
    have k2 := BK3.cell 2 rfl
    have l2 := BK2.size
    go_wp2_with (refine wpList_store_new (o := ⟨none, .store 30 (.tmp 13) (.tmp 39), _, _, _, _⟩) rfl 30 (.tmp 13) (.tmp 39) rfl _ (bytesV R).toArray ?_ ?_ HIA.out ?_ (bytesV_one _) ?_; rfl; rfl; exact (show _ = 32 from rfl).trans HZ.out.symm)
    refine (HT3.out.sign _ B3).mono ?_
    rintro e w3 ⟨⟨⟨K1, K2, K3⟩, rfl⟩, hb3⟩
    have BK4 := (BK3.low hb3).alloc (.cells #[.string ⟨K1.toArray⟩, .int .i64 K2, .int .i64 K3] 43)
    have BH4 := (BH.low hb3).alloc (.cells #[.string ⟨K1.toArray⟩, .int .i64 K2, .int .i64 K3] 43)
    have B4 := (B3.trans (hb3.mono B3.size)).alloc (B3.trans (hb3.mono B3.size)).size (.cells #[.string ⟨K1.toArray⟩, .int .i64 K2, .int .i64 K3] 43)
    have HRR : Hid ((w3.alloc (.cells #[.string ⟨K1.toArray⟩, .int .i64 K2, .int .i64 K3] 43)).rangeAt w2.heap.size 0 (bytesV R)) := Lib.hid BH4.at_
    have k1 := BK4.cell 1 rfl
    have l4 := BK4.size
    have hs3 := hb3.size
    simp only [World.size_alloc] at hs3
    unfold keyV
    go_wp2_with (with_reducible refine wpList_load_mid rfl 30 _ rfl w2.heap.size 0 rfl (bytesV R) _ HRR.out Tryd.underlying30 rfl HIR.out ?_)
    rw [fold_grant sv fr to high R HT3.out.len]
    refine (HT3.out.add _ B4).mono ?_
    rintro e w5 ⟨v3, rfl, hx, hb5⟩
    have B5 := B4.trans (hb5.mono B4.size)
    rcases he with rfl | ⟨rfl, rfl⟩ | ⟨rfl, rfl, rfl⟩
    all_goals
      go_wp2_with fail
      go_ret
      exact ⟨rfl, B5⟩

set_option maxHeartbeats 4000000 in
theorem granted_ok (s : List UInt8) (high next sv fr to ax : Int) (t : ByteArray) (w : World) (h37 : ¬ 3 < high) (ht : (t.size : Int) ≤ 16384) (R sg : List UInt8) (X : Value → Nat → World → Prop)
    (H3 : Three w s high next sv fr to t R sg 0 0 0 X) (hs0 : 0 ≤ sv) (hs63 : sv ≤ 63) (we : Int) (hwe : (fr ≤ ax ∧ ax ≤ to ∧ we = 0) ∨ (fr ≤ ax ∧ ¬ ax ≤ to ∧ we = 3) ∨ (¬ fr ≤ ax ∧ we = 3))
    (HV : ∀ v B W, B ≤ W.heap.size → w.heap.size ≤ B → X v B W → Below w.heap.size w W → (∃ p c, v = .slice p 1 c) ∧ ∀ W', Below W.heap.size W W' → (Calls Tryd.prog 22 #[v, .int .i64 sv, .int .i64 ax, .string t, .string ⟨sg.toArray⟩] W' fun e w' => e = .returned (.int .i64 we) ∧ Below W'.heap.size W' w') ∧
      (Calls Tryd.prog 22 #[v, .int .i64 (sv + 1), .int .i64 ax, .string t, .string ⟨sg.toArray⟩] W' fun e w' => e = .returned (.int .i64 3) ∧ Below W'.heap.size W' w')) :
    Calls Tryd.prog 5 #[keyV s high next, .int .i64 sv, .int .i64 fr, .int .i64 to, .int .i64 ax, .string t] w fun e w' => e = .returned (.bool true) ∧ Below w.heap.size w w' := by
  have HVV := Lib.hid HV
  have hwr : wrap64 (sv + 1) = sv + 1 := by simp only [wrap64]; omega
  clear HV
  have HT3 := Lib.hid H3
  have hbl : (bytesV R).length = 32 := by rw [bytesV_length, H3.len]
  have HIA : Hid ((Tryd.prog.info? 30).map (·.size) = some (bytesV R).toArray.size) := by rw [List.size_toArray, hbl]; exact Lib.hid (by kernel_rfl)
  have HIR : Hid ((Tryd.prog.info? 30).map (·.size) = some (bytesV R).length) := by rw [hbl]; exact Lib.hid (by kernel_rfl)
  have HZ : Hid ((bytesV R).toArray.size = 32) := Lib.hid (by simp [hbl])
  clear H3
  have BK := Blk.made w [.string ⟨s.toArray⟩, .int .i64 high, .int .i64 next] 43
  have B0 := (Below.refl w.heap.size w).alloc (Nat.le_refl _) (.cells #[.string ⟨s.toArray⟩, .int .i64 high, .int .i64 next] 43)
  unfold keyV at *
  go_enter Tryd.func5, Tryd.ntmps5
  go_wp2_with fail
  change Calls _ _ _ (w.alloc (.cells [.string ⟨s.toArray⟩, .int .i64 high, .int .i64 next].toArray 43)) _
  generalize hwa : w.alloc (.cells [.string ⟨s.toArray⟩, .int .i64 high, .int .i64 next].toArray 43) = wa at *
  refine (begins_any _).mono ?_
  rintro e w1 ⟨rfl, hb1⟩
  have BK := BK.low hb1
  have B1 := B0.trans (hb1.mono B0.size)
  clear hb1 hwa B0
  have k0 := BK.cell 0 rfl
  have k1 := BK.cell 1 rfl
  have k2 := BK.cell 2 rfl
  have l1 := BK.size
  go_wp2_with fail
  refine (HT3.out.root _ B1).mono ?_
  rintro e w2 ⟨rfl, hb2⟩
  have BK2 := BK.low hb2
  have B2 := B1.trans (hb2.mono B1.size)
  have BH := Blk.made w2 (bytesV R) 30
  have BK3 := BK2.alloc (.cells (bytesV R).toArray 30)
  have B3 := B2.alloc B2.size (.cells (bytesV R).toArray 30)
  have k0 := BK3.cell 0 rfl
  have k1 := BK3.cell 1 rfl
  have k2 := BK3.cell 2 rfl
  have l2 := BK2.size
  go_wp2_with (refine wpList_store_new (o := ⟨none, .store 30 (.tmp 13) (.tmp 39), _, _, _, _⟩) rfl 30 (.tmp 13) (.tmp 39) rfl _ (bytesV R).toArray ?_ ?_ HIA.out ?_ (bytesV_one _) ?_; rfl; rfl; exact (show _ = 32 from rfl).trans HZ.out.symm)
  refine (HT3.out.sign _ B3).mono ?_
  rintro e w3 ⟨⟨⟨K1, K2, K3⟩, rfl⟩, hb3⟩
  have BK4 := (BK3.low hb3).alloc (.cells #[.string ⟨K1.toArray⟩, .int .i64 K2, .int .i64 K3] 43)
  have BH4 := (BH.low hb3).alloc (.cells #[.string ⟨K1.toArray⟩, .int .i64 K2, .int .i64 K3] 43)
  have B4 := (B3.trans (hb3.mono B3.size)).alloc (B3.trans (hb3.mono B3.size)).size (.cells #[.string ⟨K1.toArray⟩, .int .i64 K2, .int .i64 K3] 43)
  have HRR : Hid ((w3.alloc (.cells #[.string ⟨K1.toArray⟩, .int .i64 K2, .int .i64 K3] 43)).rangeAt w2.heap.size 0 (bytesV R)) := Lib.hid BH4.at_
  have k1 := BK4.cell 1 rfl
  have l4 := BK4.size
  have hs3 := hb3.size
  simp only [World.size_alloc] at hs3
  unfold keyV
  go_wp2_with (with_reducible refine wpList_load_mid rfl 30 _ rfl w2.heap.size 0 rfl (bytesV R) _ HRR.out Tryd.underlying30 rfl HIR.out ?_)
  rw [fold_grant sv fr to high R HT3.out.len]
  refine (HT3.out.add _ B4).mono ?_
  rintro e w5 ⟨v3, rfl, hx, hb5⟩
  have B5 := B4.trans (hb5.mono B4.size)
  obtain ⟨⟨pv, cv, rfl⟩, hv⟩ := HVV.out v3 _ w5 hb5.size B4.size hx B5
  have HV1 := Lib.hid hv
  clear hv hx
  rcases hwe with ⟨hf, hto, rfl⟩ | ⟨hf, hto, rfl⟩ | ⟨hf, rfl⟩
  all_goals
    go_wp2_with fail
    refine (HV1.out _ (Below.refl _ _)).1.mono ?_
    rintro e w6 ⟨rfl, hb6⟩
    go_wp2_with fail
    refine (HV1.out _ hb6).2.mono ?_
    rintro e w7 ⟨rfl, hb7⟩
    go_wp2_with fail
    go_ret
    exact ⟨rfl, (B5.trans (hb6.mono B5.size)).trans (hb7.mono (B5.trans (hb6.mono B5.size)).size)⟩
end Top
end Go.Proofs.YtbgjoefpnjgdkaaDoor
