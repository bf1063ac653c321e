/- key.Make of a key that is not right; key.Root. -/
import Derived.Test.YtbgjoefpnjgdkaaDoorKKeyMake
namespace Go.Proofs.YtbgjoefpnjgdkaaDoor
open Go.RowKit
set_option linter.unusedVariables false
set_option linter.unusedSimpArgs false
set_option maxRecDepth 100000
namespace Key
open Sha Tree Go.Proofs.YtbgjoefpnjgdkaaDoor.One
set_option maxHeartbeats 1000000 in
theorem make_bad (s : List UInt8) (high next : Int) (w : World) (hck : ∀ w, Calls Tryd.prog 99 #[keyV s high next] w fun e w' => e = .returned (.int .i64 2) ∧ Below w.heap.size w w') :
    Calls Tryd.prog 51 #[keyV s high next] w fun e w' => e = .returned (.tuple #[.pointer none, .int .i64 2]) ∧ Below w.heap.size w w' := by
  have HCK := Lib.hid hck
  clear hck
  unfold keyV at *
  have B0 := (Below.refl w.heap.size w).alloc (Nat.le_refl _) (.cells #[.string ⟨s.toArray⟩, .int .i64 high, .int .i64 next] 43)
  go_enter Tryd.func51, Tryd.ntmps51
  go_wp2_with fail
  generalize w.alloc (.cells #[.string ⟨s.toArray⟩, .int .i64 high, .int .i64 next] 43) = wa at *
  refine (HCK.out _).mono ?_
  rintro e w1 ⟨rfl, hb1⟩
  have B1 := B0.trans (hb1.mono B0.size)
  go_wp2_with fail
  refine bodyPost_ret (v := .tuple #[.pointer none, .int .i64 2]) (by simp [results, Tryd.f51, go_sem]) rfl ⟨rfl, B1⟩

set_option maxHeartbeats 2000000 in
theorem keyroot_ok (X kk : Nat → Int) (s : List UInt8) (k : Nat) (hk : k ≤ 3) (hs0 : 0 < s.length) (hs : s.length ≤ 64) (next : Int) (N : Nat) (hN : N = 2 ^ k) (w : World) (hT : Tabs w X kk)
    (hck : ∀ w, Calls Tryd.prog 99 #[keyV s (k : Int) next] w fun e w' => e = .returned (.int .i64 0) ∧ Below w.heap.size w w') :
    Calls Tryd.prog 19 #[keyV s (k : Int) next] w fun e w' => e = .returned (.tuple #[.agg (bytesV (rootL X kk k (pubsL X kk s N))).toArray, .int .i64 0]) ∧ Below w.heap.size w w' := by
  have HM := Lib.hid (fun (W : World) (h : Below w.heap.size w W) => make_ok X kk s k hk hs0 hs next N hN W (hT.below rfl h) hck)
  have hr32 := Top.rootL_length X kk k _ ((pubsL_length X kk s N).trans hN) (pubsL_each X kk s N)
  generalize rootL X kk k (pubsL X kk s N) = R at *
  clear hck hN hk hs hs0
  unfold keyV at *
  have B0 := (Below.refl w.heap.size w).alloc (Nat.le_refl _) (.cells #[.string ⟨s.toArray⟩, .int .i64 (k : Int), .int .i64 next] 43)
  have hz0 := World.size_alloc w (.cells #[.string ⟨s.toArray⟩, .int .i64 (k : Int), .int .i64 next] 43)
  have A1 := Blk.new (w.alloc (.cells #[.string ⟨s.toArray⟩, .int .i64 (k : Int), .int .i64 next] 43)) (bytesV (List.replicate 32 0)).toArray 30
  have B1 := B0.alloc (by omega) (.cells (bytesV (List.replicate 32 0)).toArray 30)
  rw [show (bytesV (List.replicate 32 (0 : UInt8))).toArray.toList = bytesV (List.replicate 32 0) by simp] at A1
  rw [hz0] at A1
  have hbl : (bytesV R).length = 32 := by rw [bytesV_length, hr32]
  have HIA : Hid ((Tryd.prog.info? 30).map (·.size) = some (bytesV R).toArray.size) := by rw [List.size_toArray, hbl]; exact Lib.hid (by kernel_rfl)
  have HIR : Hid ((Tryd.prog.info? 30).map (·.size) = some (bytesV R).length) := by rw [hbl]; exact Lib.hid (by kernel_rfl)
  have HSZ : Hid ((bytesV R).toArray.size = 32) := by rw [List.size_toArray, hbl]; exact Lib.hid rfl
  go_enter Tryd.func19, Tryd.ntmps19
  go_wp2_with fail
  change Calls _ _ _ ((w.alloc (.cells #[.string ⟨s.toArray⟩, .int .i64 (k : Int), .int .i64 next] 43)).alloc (.cells (bytesV (List.replicate 32 0)).toArray 30)) _
  generalize (w.alloc (.cells #[.string ⟨s.toArray⟩, .int .i64 (k : Int), .int .i64 next] 43)).alloc (.cells (bytesV (List.replicate 32 0)).toArray 30) = wa at *
  refine (HM.out _ B1).mono ?_
  rintro e w1 ⟨g, v, rfl, hg, hr, ho, hb1⟩
  have A2 := A1.low hb1
  have B2 := B1.trans (hb1.mono B1.size)
  have hne : g ≠ w.heap.size + 1 := by have := A1.size; omega
  have HTH : Hid (w1.there (w.heap.size + 1) 0 (bytesV R).toArray.size) := by rw [HSZ.out]; exact Lib.hid (A2.partThere 0 32 (by simp [bytesV]))
  have HRR : Hid (w1.rangeAt g 4 (bytesV R)) := Lib.hid (hr.part 4 (bytesV R) (by
    rw [List.take_of_length_le (by simp [ringC])]
    rfl))
  have HA2 := Lib.hid A2
  clear hr ho A1 A2 hb1 B1 hz0
  go_wp2_with (first | (with_reducible refine wpList_load_mid rfl 30 _ rfl g 4 rfl (bytesV R) _ HRR.out Tryd.underlying30 rfl HIR.out ?_) | (with_reducible refine wpList_store_mid rfl 30 _ _ rfl (w.heap.size + 1) 0 (bytesV R).toArray rfl rfl HTH.out HIA.out (bytesV_one _) ?_))
  have HL := Blk.tail (a := []) (b := bytesV (List.replicate 32 0)) HA2.out (bytesV R) (by rw [hbl]; rfl)
  refine bodyPost_ret (v := .tuple #[.agg (bytesV R).toArray, .int .i64 0]) ?_ rfl ⟨rfl, Sha.below_setCells (by omega) _ _ _ B2⟩
  exact One.results_cell_tmp rfl _ _ _ (w.heap.size + 1) (bytesV R) _ rfl rfl (run_loadVar_mid _ _ _ _ (bytesV R) _ HL.at_ Tryd.underlying30 rfl HIR.out)

set_option maxHeartbeats 2000000 in
theorem keyroot_bad (s : List UInt8) (high next : Int) (w : World) (hck : ∀ w, Calls Tryd.prog 99 #[keyV s high next] w fun e w' => e = .returned (.int .i64 2) ∧ Below w.heap.size w w') :
    Calls Tryd.prog 19 #[keyV s high next] w fun e w' => e = .returned (.tuple #[.agg (bytesV (List.replicate 32 0)).toArray, .int .i64 2]) ∧ Below w.heap.size w w' := by
  have HM := Lib.hid (fun (W : World) => make_bad s high next W hck)
  clear hck
  unfold keyV at *
  have B0 := (Below.refl w.heap.size w).alloc (Nat.le_refl _) (.cells #[.string ⟨s.toArray⟩, .int .i64 high, .int .i64 next] 43)
  have hz0 := World.size_alloc w (.cells #[.string ⟨s.toArray⟩, .int .i64 high, .int .i64 next] 43)
  have A1 := Blk.new (w.alloc (.cells #[.string ⟨s.toArray⟩, .int .i64 high, .int .i64 next] 43)) (bytesV (List.replicate 32 0)).toArray 30
  have B1 := B0.alloc (by omega) (.cells (bytesV (List.replicate 32 0)).toArray 30)
  rw [show (bytesV (List.replicate 32 (0 : UInt8))).toArray.toList = bytesV (List.replicate 32 0) by simp] at A1
  rw [hz0] at A1
  obtain ⟨cs, hcs⟩ : ∃ cs : List Value, cs = bytesV (List.replicate 32 0) := ⟨_, rfl⟩
  have hlit : #[.int .u8 0, .int .u8 0, .int .u8 0, .int .u8 0, .int .u8 0, .int .u8 0, .int .u8 0, .int .u8 0, .int .u8 0, .int .u8 0, .int .u8 0, .int .u8 0, .int .u8 0, .int .u8 0, .int .u8 0, .int .u8 0, .int .u8 0, .int .u8 0, .int .u8 0, .int .u8 0, .int .u8 0, .int .u8 0, .int .u8 0, .int .u8 0, .int .u8 0, .int .u8 0, .int .u8 0, .int .u8 0, .int .u8 0, .int .u8 0, .int .u8 0, .int .u8 0] = cs.toArray := by rw [hcs]; rfl
  have hbl : cs.length = 32 := by rw [hcs]; rfl
  have H1 : Hid (cs.toArray.all (·.oneCell') = true) := by rw [hcs]; exact Lib.hid (bytesV_one _)
  have HIA : Hid ((Tryd.prog.info? 30).map (·.size) = some cs.toArray.size) := by rw [List.size_toArray, hbl]; exact Lib.hid (by kernel_rfl)
  have HIR : Hid ((Tryd.prog.info? 30).map (·.size) = some cs.length) := by rw [hbl]; exact Lib.hid (by kernel_rfl)
  have HSZ : Hid (cs.toArray.size = 32) := by rw [List.size_toArray, hbl]; exact Lib.hid rfl
  go_enter Tryd.func19, Tryd.ntmps19
  go_wp2_with fail
  change Calls _ _ _ ((w.alloc (.cells #[.string ⟨s.toArray⟩, .int .i64 high, .int .i64 next] 43)).alloc (.cells (bytesV (List.replicate 32 0)).toArray 30)) _
  generalize (w.alloc (.cells #[.string ⟨s.toArray⟩, .int .i64 high, .int .i64 next] 43)).alloc (.cells (bytesV (List.replicate 32 0)).toArray 30) = wa at *
  refine (HM.out _).mono ?_
  rintro e w1 ⟨rfl, hb1⟩
  have A2 := A1.low hb1
  have B2 := B1.trans (hb1.mono B1.size)
  have HTH : Hid (w1.there (w.heap.size + 1) 0 cs.toArray.size) := by rw [HSZ.out]; exact Lib.hid (A2.partThere 0 32 (by simp [bytesV]))
  have HA2 := Lib.hid A2
  have HCS := Lib.hid hcs
  clear A1 A2 hb1 B1 hz0 hcs
  go_wp2_with (with_reducible refine wpList_store_mid rfl 30 _ _ rfl (w.heap.size + 1) 0 cs.toArray rfl rfl HTH.out HIA.out H1.out ?_)
  have HL := Blk.tail (a := []) (b := bytesV (List.replicate 32 0)) HA2.out cs (by rw [hbl]; rfl)
  refine bodyPost_ret (v := .tuple #[.agg cs.toArray, .int .i64 2]) ?_ rfl ⟨by rw [HCS.out], Sha.below_setCells (by omega) _ _ _ B2⟩
  exact One.results_cell_tmp rfl _ _ _ (w.heap.size + 1) cs _ rfl rfl (run_loadVar_mid _ _ _ _ cs _ HL.at_ Tryd.underlying30 rfl HIR.out)
end Key
end Go.Proofs.YtbgjoefpnjgdkaaDoor
