/- tree: a path of no sums; leaves that fit no tree; and the law: a leaf's path leads to the root. -/
import Derived.Test.YtbgjoefpnjgdkaaDoorKTreePath
namespace Go.Proofs.YtbgjoefpnjgdkaaDoor
open Go.RowKit
set_option linter.unusedVariables false
set_option linter.unusedSimpArgs false
set_option maxRecDepth 100000
namespace Tree
open Sha
theorem getD_two (ls : List (List UInt8)) (i : Nat) (X kk : Nat → Int) (m : Nat) (h : ls.length = 2 * m) (hi : i < m) : (upL X kk ls).getD i [] = aboveL X kk (ls.getD (2 * i) []) (ls.getD (2 * i + 1) []) := by
  rw [upL_eq X kk m ls h, List.getD_eq_getElem?_getD, List.getElem?_map, List.getElem?_range hi]; rfl

theorem pathL_cons (X kk : Nat → Int) (ls : List (List UInt8)) (i m : Nat) : pathL X kk ls i (m + 1) = ls.getD (i ^^^ 1) [] :: pathL X kk (upL X kk ls) (i / 2) m := by
  rw [pathL, List.range_succ_eq_map, List.map_cons, List.map_map, pathL]
  congr 1
  · simp [upN]
  · refine List.map_congr_left fun j _ => ?_
    simp only [Function.comp_apply]
    rw [Nat.pow_succ, Nat.mul_comm, ← Nat.div_div_eq_div_mul]
    rfl

theorem xor_even (i : Nat) (h : i % 2 = 0) : i ^^^ 1 = i + 1 := by
  apply Nat.eq_of_testBit_eq
  intro j
  rw [Nat.testBit_xor]
  cases j with
  | zero => simp [Nat.testBit_zero, h, show (i + 1) % 2 = 1 by omega]
  | succ j => rw [Nat.testBit_succ, Nat.testBit_succ, Nat.testBit_succ, show (i + 1) / 2 = i / 2 by omega]; simp
theorem climb_root (X kk : Nat → Int) : ∀ (k : Nat) (ls : List (List UInt8)) (i : Nat), ls.length = 2 ^ k → i < 2 ^ k → climbL X kk (ls.getD i []) i (pathL X kk ls i k) = rootL X kk k ls
  | 0, ls, i, h, hi => by
    obtain rfl : i = 0 := by simpa using hi
    simp [pathL, climbL, rootL, upN]
  | k + 1, ls, i, h, hi => by
    have hm : ls.length = 2 * 2 ^ k := by rw [h, Nat.pow_succ]; omega
    have hi2 : i / 2 < 2 ^ k := by rw [Nat.pow_succ] at hi; omega
    have ih := climb_root X kk k (upL X kk ls) (i / 2) (upL_length X kk _ ls hm) hi2
    rw [pathL_cons, climbL]
    have e : (if i % 2 = 0 then aboveL X kk (ls.getD i []) (ls.getD (i ^^^ 1) []) else aboveL X kk (ls.getD (i ^^^ 1) []) (ls.getD i [])) = (upL X kk ls).getD (i / 2) [] := by
      rw [getD_two ls (i / 2) X kk _ hm hi2]
      by_cases hp : i % 2 = 0
      · rw [if_pos hp, xor_even i hp, show 2 * (i / 2) = i by omega]
      · have h1 : i ^^^ 1 = i - 1 := by
          have h2 := xor_even (i - 1) (by omega)
          rw [show i - 1 + 1 = i by omega] at h2
          rw [← h2, Nat.xor_assoc, Nat.xor_self, Nat.xor_zero, h2]
        rw [if_neg hp, h1, show 2 * (i / 2) = i - 1 by omega, show i - 1 + 1 = i by omega]
    rw [e, ih]
    rfl

set_option maxHeartbeats 1000000 in
theorem climb_nil (leaf : List UInt8) (h32 : leaf.length = 32) (w : World) :
    Calls Tryd.prog 18 #[.agg (bytesV leaf).toArray, .int .i64 0, .slice none 0 0] w fun e w' => e = .returned (.tuple #[.agg (bytesV leaf).toArray, .int .i64 0]) ∧ Below w.heap.size w w' := by
  go_enter Tryd.func18, Tryd.ntmps18
  go_wp2_with fail
  have hzz : (bytesV (List.replicate 32 (0 : UInt8))).toArray = #[Value.int .u8 0, Value.int .u8 0, Value.int .u8 0, Value.int .u8 0, Value.int .u8 0, Value.int .u8 0, Value.int .u8 0, Value.int .u8 0, Value.int .u8 0, Value.int .u8 0, Value.int .u8 0, Value.int .u8 0, Value.int .u8 0, Value.int .u8 0, Value.int .u8 0, Value.int .u8 0, Value.int .u8 0, Value.int .u8 0, Value.int .u8 0, Value.int .u8 0, Value.int .u8 0, Value.int .u8 0, Value.int .u8 0, Value.int .u8 0, Value.int .u8 0, Value.int .u8 0, Value.int .u8 0, Value.int .u8 0, Value.int .u8 0, Value.int .u8 0, Value.int .u8 0, Value.int .u8 0] := rfl
  have A0 := HashAt.new w leaf h32 30
  have A1 := HashAt.new (w.alloc (.cells (bytesV leaf).toArray 30)) (List.replicate 32 0) rfl 30
  rw [hzz, World.size_alloc] at A1
  have A2 := A0.below ((Below.refl _ _).alloc (Nat.le_refl _) (.cells #[.int .u8 0, .int .u8 0, .int .u8 0, .int .u8 0, .int .u8 0, .int .u8 0, .int .u8 0, .int .u8 0, .int .u8 0, .int .u8 0, .int .u8 0, .int .u8 0, .int .u8 0, .int .u8 0, .int .u8 0, .int .u8 0, .int .u8 0, .int .u8 0, .int .u8 0, .int .u8 0, .int .u8 0, .int .u8 0, .int .u8 0, .int .u8 0, .int .u8 0, .int .u8 0, .int .u8 0, .int .u8 0, .int .u8 0, .int .u8 0, .int .u8 0, .int .u8 0] 30))
  have B2 := ((Below.refl w.heap.size w).alloc (Nat.le_refl _) (.cells (bytesV leaf).toArray 30)).alloc (by simp) (.cells #[.int .u8 0, .int .u8 0, .int .u8 0, .int .u8 0, .int .u8 0, .int .u8 0, .int .u8 0, .int .u8 0, .int .u8 0, .int .u8 0, .int .u8 0, .int .u8 0, .int .u8 0, .int .u8 0, .int .u8 0, .int .u8 0, .int .u8 0, .int .u8 0, .int .u8 0, .int .u8 0, .int .u8 0, .int .u8 0, .int .u8 0, .int .u8 0, .int .u8 0, .int .u8 0, .int .u8 0, .int .u8 0, .int .u8 0, .int .u8 0, .int .u8 0, .int .u8 0] 30)
  generalize (w.alloc (.cells (bytesV leaf).toArray 30)).alloc (.cells #[.int .u8 0, .int .u8 0, .int .u8 0, .int .u8 0, .int .u8 0, .int .u8 0, .int .u8 0, .int .u8 0, .int .u8 0, .int .u8 0, .int .u8 0, .int .u8 0, .int .u8 0, .int .u8 0, .int .u8 0, .int .u8 0, .int .u8 0, .int .u8 0, .int .u8 0, .int .u8 0, .int .u8 0, .int .u8 0, .int .u8 0, .int .u8 0, .int .u8 0, .int .u8 0, .int .u8 0, .int .u8 0, .int .u8 0, .int .u8 0, .int .u8 0, .int .u8 0] 30) = W0 at *
  clear hzz A0
  have HIL : Hid ((Tryd.prog.info? 30).map (·.size) = some (bytesV leaf).length) := by rw [bytesV_length, h32]; exact Lib.hid (by kernel_rfl)
  have HI' : Hid ((Tryd.prog.info? 30).map (·.size) = some (bytesV leaf).toArray.size) := by rw [List.size_toArray]; exact HIL
  have HTH : Hid (W0.there (w.heap.size + 1) 0 (bytesV leaf).toArray.size) := Lib.hid (by rw [show (bytesV leaf).toArray.size = 32 by rw [List.size_toArray, bytesV_length, h32]]; exact A1.there)
  have HAT := Lib.hid A2.at_
  have HB := Lib.hid B2
  clear A1 A2 B2
  go_loopw [1, 27] (fun x y wr => x = .int .i64 0 ∧ y = .int .i64 0 ∧ wr = W0) (fun _ _ _ => 0)
  case atStart => exact ⟨rfl, rfl, rfl⟩
  case round =>
    obtain ⟨rfl, rfl, rfl⟩ := hrel
    go_wp2_with (first | (with_reducible refine wpList_load_mid rfl 30 _ rfl w.heap.size 0 rfl (bytesV leaf) _ HAT.out Tryd.underlying30 rfl HIL.out ?_) | (with_reducible refine wpList_store_mid rfl 30 _ _ rfl (w.heap.size + 1) 0 (bytesV leaf).toArray rfl rfl HTH.out HI'.out (bytesV_one _) ?_))
    refine bodyPost_ret (v := .tuple #[.agg (bytesV leaf).toArray, .int .i64 0]) ?_ rfl ⟨rfl, below_setCells (by omega) _ _ _ HB.out⟩
    exact One.results_cell_tmp Tryd.results18 _ _ _ (w.heap.size + 1) (bytesV leaf) _ rfl rfl (run_loadVar_mid _ (w.heap.size + 1) 0 30 (bytesV leaf) _ (World.rangeAt_setCells_same _ (w.heap.size + 1) 0 (bytesV leaf) (by rw [← List.size_toArray]; exact HTH.out)) Tryd.underlying30 rfl HIL.out)

set_option maxHeartbeats 1000000 in
theorem root_bad (v : Value) (ls : List (List UInt8)) (n : Nat) (hv : (v = .slice none 0 0 ∧ n = 0) ∨ ∃ p c, v = .slice p n c) (hn8 : n ≤ 8) (hfit : fitsB n = false) (w : World) :
    Calls Tryd.prog 14 #[v] w fun e w' => ∃ cs : List UInt8, cs.length = 32 ∧ e = .returned (.tuple #[.agg (bytesV cs).toArray, .int .i64 1]) ∧ Below w.heap.size w w' := by
  have hv' : ∃ p c, v = .slice p n c := by
    rcases hv with ⟨rfl, rfl⟩ | h
    · exact ⟨none, 0, rfl⟩
    · exact h
  obtain ⟨p, c, rfl⟩ := hv'
  have HF := Lib.hid (fits_any n hn8)
  rw [hfit] at HF
  have a0 := ArrB.zeros w 32 _ 30 rfl
  have B0 := (Below.refl w.heap.size w).alloc (Nat.le_refl _) (.cells (Array.replicate 32 (.int .u8 0)) 30)
  have z0 := World.size_alloc w (.cells (Array.replicate 32 (.int .u8 0)) 30)
  clear hfit
  go_enter Tryd.func14, Tryd.ntmps14
  go_wp2_with fail
  change Calls _ _ _ (w.alloc (.cells (Array.replicate 32 (.int .u8 0)) 30)) _
  generalize w.alloc (.cells (Array.replicate 32 (.int .u8 0)) 30) = wa at *
  refine (HF.out wa).mono ?_
  rintro e w1 ⟨rfl, rfl⟩
  obtain ⟨cs, hcs⟩ : ∃ cs, cs = bytesV (List.replicate 32 0) := ⟨_, rfl⟩
  have hl : cs.length = 32 := by rw [hcs]; rfl
  have hlit : (#[.int .u8 0, .int .u8 0, .int .u8 0, .int .u8 0, .int .u8 0, .int .u8 0, .int .u8 0, .int .u8 0, .int .u8 0, .int .u8 0, .int .u8 0, .int .u8 0, .int .u8 0, .int .u8 0, .int .u8 0, .int .u8 0, .int .u8 0, .int .u8 0, .int .u8 0, .int .u8 0, .int .u8 0, .int .u8 0, .int .u8 0, .int .u8 0, .int .u8 0, .int .u8 0, .int .u8 0, .int .u8 0, .int .u8 0, .int .u8 0, .int .u8 0, .int .u8 0] : Array Value) = cs.toArray := by rw [hcs]; rfl
  have ht : wa.there w.heap.size 0 cs.toArray.size := by
    intro j hj
    rw [List.size_toArray, hl] at hj
    rw [Nat.zero_add, a0.cell j hj]
    exact ⟨rfl, a0.froz j⟩
  have HI3 : Hid ((Tryd.prog.info? 30).map (·.size) = some cs.length) := by rw [hl]; exact Lib.hid (by kernel_rfl)
  have HI' : Hid ((Tryd.prog.info? 30).map (·.size) = some cs.toArray.size) := by rw [List.size_toArray]; exact HI3
  have H1 : Hid (cs.toArray.all (·.oneCell') = true) := by rw [hcs]; exact Lib.hid (bytesV_one _)
  have HT5 := Lib.hid ht
  have HSS := Lib.hid (World.rangeAt_setCells_same wa w.heap.size 0 cs (by rw [← List.size_toArray]; exact ht))
  have HCS := Lib.hid hcs
  have HB := Lib.hid B0
  clear ht hcs B0 a0 hl
  go_wp2_with (with_reducible refine wpList_store_mid rfl 30 _ _ rfl w.heap.size 0 cs.toArray rfl rfl HT5.out HI'.out H1.out ?_)
  refine bodyPost_ret (v := .tuple #[.agg cs.toArray, .int .i64 1]) ?_ rfl ⟨List.replicate 32 0, rfl, by rw [HCS.out], below_setCells (Nat.le_refl _) _ _ _ HB.out⟩
  exact One.results_cell_tmp Tryd.results14 _ _ _ w.heap.size cs _ rfl rfl (run_loadVar_mid _ w.heap.size 0 30 cs _ HSS.out Tryd.underlying30 rfl HI3.out)
end Tree
end Go.Proofs.YtbgjoefpnjgdkaaDoor
