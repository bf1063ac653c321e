/- Joined of 2 texts: their lemmas, one behind the other; each says below what it holds. -/
import Derived.Test.YtbgjoefpnjgdkaaDoorJ00
import Derived.Lib.Hide
import Derived.Test.YtbgjoefpnjgdkaaDoorJ02
import Derived.Deep.QuietTactic
import Derived.BigQuiet
import Derived.Outline
import Derived.IntWalk
import Derived.Deep.MidRow
/- A block of words, cell by cell. -/
namespace Go.Proofs.YtbgjoefpnjgdkaaDoor
open Go.RowKit
set_option linter.unusedVariables false
namespace Sha
/-- block n holds N words: those of f -/
structure Arr (n : Nat) (w : World) (f : Nat → Int) (N : Nat) : Prop where
  size : n < w.heap.size
  cell : ∀ j, j < N → w.cell? ⟨n, j, none⟩ = some (.int .u32 (f j))
  froz : ∀ j, w.frozen? ⟨n, j, none⟩ = false

theorem Arr.below {n : Nat} {w w' : World} {f : Nat → Int} {N : Nat} (h : Arr n w f N) (hb : Below w.heap.size w w') : Arr n w' f N :=
  ⟨Nat.lt_of_lt_of_le h.size hb.size, fun j hj => by rw [hb.cell (p := ⟨n, j, none⟩) h.size]; exact h.cell j hj, fun j => by rw [hb.frozen (p := ⟨n, j, none⟩) h.size]; exact h.froz j⟩

theorem Arr.drew {n : Nat} {w : World} {f : Nat → Int} {N : Nat} (h : Arr n w f N) : Arr n w.drew f N := ⟨h.size, h.cell, h.froz⟩

theorem Arr.set {n : Nat} {w : World} {f : Nat → Int} {N : Nat} (h : Arr n w f N) (j : Nat) (hj : j < N) (v : Int) : Arr n (w.setCell ⟨n, j, none⟩ (.int .u32 v)) (fun i => if i = j then v else f i) N := by
  refine ⟨by simpa [World.setCell] using h.size, fun i hi => ?_, fun i => by rw [World.frozen?_setCell]; exact h.froz i⟩
  by_cases hij : i = j
  · subst hij
    rw [if_pos rfl]
    exact World.cell?_setCell_same' _ _ _ (by rw [h.cell i hi]; rfl)
  · rw [if_neg hij, World.cell?_setCell_other _ _ _ _ (by intro e; injection e with _ e2; exact hij e2.symm)]
    exact h.cell i hi

theorem Arr.far {n m : Nat} {w : World} {f : Nat → Int} {N : Nat} (h : Arr n w f N) (hne : m ≠ n) (i : Nat) (v : Value) : Arr n (w.setCell ⟨m, i, none⟩ v) f N := by
  refine ⟨by simpa [World.setCell] using h.size, fun j hj => ?_, fun j => by rw [World.frozen?_setCell]; exact h.froz j⟩
  rw [World.cell?_setCell_other _ _ _ _ (by intro e; injection e with e1; exact hne e1)]
  exact h.cell j hj

theorem Arr.congr {n : Nat} {w : World} {f g : Nat → Int} {N : Nat} (h : Arr n w f N) (hfg : ∀ j, j < N → f j = g j) : Arr n w g N :=
  ⟨h.size, fun j hj => by rw [← hfg j hj]; exact h.cell j hj, h.froz⟩

/-- a new block of zeros -/
theorem Arr.zeros (w : World) (N : Nat) (C : Array Value) (t : TypeId) (hC : C = Array.replicate N (.int .u32 0)) : Arr w.heap.size (w.alloc (.cells C t)) (fun _ => 0) N := by
  subst hC
  refine ⟨by simp, fun j hj => ?_, fun j => (World.frozen?_alloc_mark w _ t 0 0 j).trans (by simp)⟩
  have := World.cell?_alloc_mark w (Array.replicate N (.int .u32 0)) t (0, 0) j
  rw [this]
  simp [hj]

theorem below_setCells {B b : Nat} {w : World} (hb : B ≤ b) : ∀ (vs : List Value) (o : Nat) (w' : World), Below B w w' → Below B w (w'.setCells b o vs)
  | [], _, _, h => h
  | v :: r, o, w', h => by
    rw [World.setCells]
    exact below_setCells hb r (o + 1) _ (h.setCell (p := ⟨b, o, none⟩) hb v)

/-- a result that lies in a block -/
theorem results_cell {fn : Func} {t : Tmp} {ty : TypeId} (h : fn.results = #[.cell t ty]) (tmps : Array Value) (P : Program) (w : World) (b : Nat) (cs : List Value) (hv : tmps.getD t undef = .pointer (some ⟨b, 0, none⟩)) (hl : (loadVar ty ⟨b, 0, none⟩).run P w = .ok (.agg cs.toArray) w) :
    (results fn tmps).run P w = .ok (.agg cs.toArray) w := by
  have hv' : tmps[t]?.getD undef = .pointer (some ⟨b, 0, none⟩) := by simpa using hv
  simp [results, h, hv', asAddr, hl]
end Sha
end Go.Proofs.YtbgjoefpnjgdkaaDoor
/- sha's words of a block. -/
namespace Go.Proofs.YtbgjoefpnjgdkaaDoor
open Go.RowKit
set_option linter.unusedVariables false
set_option linter.unusedSimpArgs false
set_option maxRecDepth 100000
namespace Sha
/-- four bytes as a word, as the model spells it -/
def be4 (c0 c1 c2 c3 : UInt8) : Int := bits .or .u32 (bits .or .u32 (bits .or .u32 ((c0.toNat : Int) % 4294967296 * 16777216 % 4294967296) ((c1.toNat : Int) % 4294967296 * 65536 % 4294967296)) ((c2.toNat : Int) % 4294967296 * 256 % 4294967296)) ((c3.toNat : Int) % 4294967296)
/-- a further word, of four that lie ahead -/
def nextW (a x c y : Int) : Int := (a + bits .xor .u32 (bits .xor .u32 (rotr x 7) (rotr x 18)) (x / 8) + c + bits .xor .u32 (bits .xor .u32 (rotr y 17) (rotr y 19)) (y / 1024)) % 4294967296
def wd (B : List UInt8) (t : Nat) : Int :=
  if h : t < 16 then be4 (B.getD (4 * t) 0) (B.getD (4 * t + 1) 0) (B.getD (4 * t + 2) 0) (B.getD (4 * t + 3) 0)
  else nextW (wd B (t - 16)) (wd B (t - 15)) (wd B (t - 7)) (wd B (t - 2))
termination_by t

/-- a block's words, as cells -/
def wordsC (B : List UInt8) : List Value := (List.range 64).map fun j => Value.int .u32 (wd B j)
theorem wordsC_length (B : List UInt8) : (wordsC B).length = 64 := by simp [wordsC]
theorem wordsC_at (B : List UInt8) (j : Nat) (hj : j < 64) : (wordsC B)[j]? = some (.int .u32 (wd B j)) := by
  rw [wordsC, List.getElem?_map, List.getElem?_range hj]; rfl
theorem wordsC_one (B : List UInt8) : (wordsC B).toArray.all (·.oneCell') = true :=
  all_oneCell_toArray (by unfold wordsC; intro v hv; obtain ⟨j, _, rfl⟩ := List.mem_map.1 hv; rfl)

set_option maxHeartbeats 4000000 in
theorem words_any (b o cap : Nat) (B : List UInt8) (hB : B.length = 64) (w : World) (hbw : b < w.heap.size) (hc : ∀ j (h : j < B.length), w.cell? ⟨b, o + j, none⟩ = some (.int .u8 (B[j].toNat : Int))) :
    Calls Tryd.prog 91 #[.slice (some ⟨b, o, none⟩) 64 cap] w fun e w' => e = .returned (.agg (wordsC B).toArray) ∧ Below w.heap.size w w' := by
  go_enter Tryd.func91, Tryd.ntmps91
  go_wp2_with fail
  have A2 := Arr.zeros w 64 _ 184 rfl
  have B3 := (Below.refl w.heap.size w).alloc (Nat.le_refl _) (.cells (Array.replicate 64 (.int .u32 0)) 184)
  have A3 := Arr.zeros (w.alloc (.cells (Array.replicate 64 (.int .u32 0)) 184)) 64 _ 184 rfl
  have B4 := B3.alloc (by simp) (.cells (Array.replicate 64 (.int .u32 0)) 184)
  have A2' := A2.below ((Below.refl _ _).alloc (Nat.le_refl _) (.cells (Array.replicate 64 (.int .u32 0)) 184))
  rw [World.size_alloc] at A3
  change Code.wp _ _ _ _ ((w.alloc (.cells (Array.replicate 64 (.int .u32 0)) 184)).alloc (.cells (Array.replicate 64 (.int .u32 0)) 184))
  generalize (w.alloc (.cells (Array.replicate 64 (.int .u32 0)) 184)).alloc (.cells (Array.replicate 64 (.int .u32 0)) 184) = w3 at *
  clear A2 B3
  have HC := Lib.hid hc
  clear hc
  go_loopw [10] (fun i wr => ∃ t : Nat, t ≤ 16 ∧ i = .int .i64 (t : Int) ∧ Arr w.heap.size wr (fun _ => 0) 64 ∧ Arr (w.heap.size + 1) wr (fun j => if j < t then wd B j else 0) 64 ∧ Below w.heap.size w wr) (fun i _ => 16 - (intOf i).toNat)
  case atStart => exact ⟨0, by omega, rfl, A2', A3.congr (fun j _ => by simp), B4⟩
  case round =>
    obtain ⟨t, ht, rfl, R2, R3, BW⟩ := hrel
    clear A2' A3 B4
    by_cases hlt : t < 16
    · have y0 := (BW.cell (p := ⟨b, o + 4 * t, none⟩) hbw).trans (HC.out (4 * t) (by omega))
      have y1 := (BW.cell (p := ⟨b, o + (4 * t + 1), none⟩) hbw).trans (HC.out (4 * t + 1) (by omega))
      have y2 := (BW.cell (p := ⟨b, o + (4 * t + 2), none⟩) hbw).trans (HC.out (4 * t + 2) (by omega))
      have y3 := (BW.cell (p := ⟨b, o + (4 * t + 3), none⟩) hbw).trans (HC.out (4 * t + 3) (by omega))
      have s3 := R3.cell t (by omega)
      have f3 := R3.froz t
      have HW : Hid (wd B t = be4 B[4 * t] B[4 * t + 1] B[4 * t + 2] B[4 * t + 3]) := by
        refine Lib.hid ?_
        rw [wd, dif_pos hlt]
        simp only [List.getD_eq_getElem?_getD]
        rw [List.getElem?_eq_getElem (by omega), List.getElem?_eq_getElem (by omega), List.getElem?_eq_getElem (by omega), List.getElem?_eq_getElem (by omega)]
        rfl
      generalize B[4 * t] = c0 at *
      generalize B[4 * t + 1] = c1 at *
      generalize B[4 * t + 2] = c2 at *
      generalize B[4 * t + 3] = c3 at *
      have R2' := Lib.hid R2
      have R3' := Lib.hid R3
      have BW' := Lib.hid BW
      have hti : (t : Int) < 16 := by omega
      have ht0 : (0 : Int) ≤ (t : Int) := by omega
      clear R2 R3 BW
      go_wp2_with fail
      have hmo : Tryd.prog.follows .mixedOrders = true := by kernel_rfl
      go_region
      go_wp2_with fail
      go_roundw
      case rel => exact ⟨t + 1, by omega, by go_num, (R2'.out.far (by omega) _ _).drew, ((R3'.out.set t (by omega) (be4 c0 c1 c2 c3)).drew).congr (fun j _ => by
        by_cases hj : j = t
        · subst hj; rw [if_pos rfl, if_pos (by omega), HW.out]
        · rw [if_neg hj]; by_cases hj2 : j < t
          · rw [if_pos hj2, if_pos (by omega)]
          · rw [if_neg hj2, if_neg (by omega)]), (BW'.out.setCell (p := ⟨w.heap.size + 1, t, none⟩) (by simp) _).drew⟩
      case measure => simp [intOf]; omega
    · obtain rfl : t = 16 := by omega
      clear hlt ht
      rw [show ((16 : Nat) : Int) = 16 from rfl]
      go_wp2_with fail
      have R2' := Lib.hid R2
      have R3' := Lib.hid R3
      have BW' := Lib.hid BW
      clear R2 R3 BW
      go_loopw [5] (fun i wr => ∃ u : Nat, u ≤ 48 ∧ i = .int .i64 ((u + 16 : Nat) : Int) ∧ Arr w.heap.size wr (fun _ => 0) 64 ∧ Arr (w.heap.size + 1) wr (fun j => if j < u + 16 then wd B j else 0) 64 ∧ Below w.heap.size w wr) (fun i _ => 64 - (intOf i).toNat)
      case atStart => exact ⟨0, by omega, rfl, R2'.out, R3'.out, BW'.out⟩
      case round =>
        clear R2' R3' BW'
        obtain ⟨u, hu, rfl, R2, R3, BW⟩ := hrel
        by_cases hlt : u < 48
        · have s0 := R3.cell u (by omega)
          have s1 := R3.cell (u + 1) (by omega)
          have s9 := R3.cell (u + 9) (by omega)
          have s14 := R3.cell (u + 14) (by omega)
          have s16 := R3.cell (u + 16) (by omega)
          have f16 := R3.froz (u + 16)
          rw [if_pos (by omega)] at s0 s1 s9 s14
          have R2' := Lib.hid R2
          have R3' := Lib.hid R3
          have BW' := Lib.hid BW
          have hti : (u : Int) < 48 := by omega
          have ht0 : (0 : Int) ≤ (u : Int) := by omega
          generalize hW0 : wd B u = v0 at *
          generalize hW1 : wd B (u + 1) = v1 at *
          generalize hW9 : wd B (u + 9) = v9 at *
          generalize hW14 : wd B (u + 14) = v14 at *
          clear R2 R3 BW
          go_wp2_with fail
          have g15 : IntKind.i64.wrap ((u : Int) + 16 - 15) = (u : Int) + 1 := by rw [IntWalk.i64_in _ (by omega)]; omega
          have g2 : IntKind.i64.wrap ((u : Int) + 16 - 2) = (u : Int) + 14 := by rw [IntWalk.i64_in _ (by omega)]; omega
          have g16 : IntKind.i64.wrap ((u : Int) + 16 - 16) = (u : Int) := by rw [IntWalk.i64_in _ (by omega)]; omega
          have g7 : IntKind.i64.wrap ((u : Int) + 16 - 7) = (u : Int) + 9 := by rw [IntWalk.i64_in _ (by omega)]; omega
          have m1 : ((u : Int) + 1).toNat = u + 1 := by omega
          have m14 : ((u : Int) + 14).toNat = u + 14 := by omega
          have m9 : ((u : Int) + 9).toNat = u + 9 := by omega
          have m16 : ((u : Int) + 16).toNat = u + 16 := by omega
          have b1 : (0 : Int) ≤ (u : Int) + 1 := by omega
          have b14 : (0 : Int) ≤ (u : Int) + 14 := by omega
          have b9 : (0 : Int) ≤ (u : Int) + 9 := by omega
          have b16 : (0 : Int) ≤ (u : Int) + 16 := by omega
          have d1 : (u : Int) + 1 < 64 := by omega
          have d14 : (u : Int) + 14 < 64 := by omega
          have d9 : (u : Int) + 9 < 64 := by omega
          have d0 : (u : Int) < 64 := by omega
          have d16 : (u : Int) + 16 < 64 := by omega
          have hmo : Tryd.prog.follows .mixedOrders = true := by kernel_rfl
          go_region
          go_wp2_with fail
          refine (turn_any v1 7 ok7 (by decide +kernel) _).mono ?_
          rintro e w1 ⟨rfl, rfl⟩
          go_wp2_with fail
          refine (turn_any v1 18 ok18 (by decide +kernel) _).mono ?_
          rintro e w1 ⟨rfl, rfl⟩
          go_wp2_with fail
          refine (turn_any v14 17 ok17 (by decide +kernel) _).mono ?_
          rintro e w1 ⟨rfl, rfl⟩
          go_wp2_with fail
          refine (turn_any v14 19 ok19 (by decide +kernel) _).mono ?_
          rintro e w1 ⟨rfl, rfl⟩
          go_wp2_with fail
          go_region
          clear g15 g2 g16 g7 m1 m14 m9 m16 b1 b14 b9 b16 d1 d14 d9 d0 d16
          have HW : Hid (wd B (u + 16) = nextW v0 v1 v9 v14) := by
            refine Lib.hid ?_
            rw [wd, dif_neg (by omega), show u + 16 - 16 = u by omega, show u + 16 - 15 = u + 1 by omega, show u + 16 - 7 = u + 9 by omega, show u + 16 - 2 = u + 14 by omega, hW0, hW1, hW9, hW14]
          clear hW0 hW1 hW9 hW14
          go_wp2_with fail
          go_roundw
          case rel => exact ⟨u + 1, by omega, by go_num, ((R2'.out.far (by omega) _ _).drew).drew, (((R3'.out.set (u + 16) (by omega) (nextW v0 v1 v9 v14)).drew).drew).congr (fun j _ => by
            by_cases hj : j = u + 16
            · subst hj; rw [if_pos rfl, if_pos (by omega), HW.out]
            · rw [if_neg hj]; by_cases hj2 : j < u + 16
              · rw [if_pos hj2, if_pos (by omega)]
              · rw [if_neg hj2, if_neg (by omega)]), ((BW'.out.setCell (p := ⟨w.heap.size + 1, u + 16, none⟩) (by simp) _).drew).drew⟩
          case measure => simp [intOf]; omega
        · obtain rfl : u = 48 := by omega
          clear hlt hu
          obtain ⟨cs, hcs⟩ : ∃ cs, cs = wordsC B := ⟨_, rfl⟩
          have hl : cs.length = 64 := by rw [hcs]; exact wordsC_length B
          have hr : wr.rangeAt (w.heap.size + 1) 0 cs := by
            intro j v hv
            rw [hcs] at hv
            by_cases hj : j < 64
            · rw [wordsC_at B j hj] at hv
              simp at hv
              rw [Nat.zero_add, R3.cell j hj, if_pos (by omega), ← hv]
            · rw [List.getElem?_eq_none (by rw [wordsC_length]; omega)] at hv; simp at hv
          have ht : wr.there w.heap.size 0 cs.toArray.size := by
            intro j hj
            rw [List.size_toArray, hl] at hj
            rw [Nat.zero_add, R2.cell j hj]
            exact ⟨rfl, R2.froz j⟩
          have hi : (Tryd.prog.info? 184).map (·.size) = some cs.length := by rw [hl]; kernel_rfl
          have hi' : (Tryd.prog.info? 184).map (·.size) = some cs.toArray.size := by rw [List.size_toArray]; exact hi
          have h1 : cs.toArray.all (·.oneCell') = true := by rw [hcs]; exact wordsC_one B
          have HCS := Lib.hid hcs
          have HR := Lib.hid hr
          have HT := Lib.hid ht
          have HI := Lib.hid hi
          have HI' := Lib.hid hi'
          have H1 := Lib.hid h1
          have HB := Lib.hid BW
          have HS := Lib.hid (World.rangeAt_setCells_same wr w.heap.size 0 cs (by rw [← List.size_toArray]; exact ht))
          clear hr ht hi hi' h1 BW R2 R3 hcs hl
          go_wp2_with (first | (with_reducible refine wpList_load_mid rfl _ _ rfl (w.heap.size + 1) 0 rfl cs _ HR.out Tryd.underlying184 rfl HI.out ?_) | (with_reducible refine wpList_store_mid rfl _ _ _ rfl w.heap.size 0 cs.toArray rfl rfl HT.out HI'.out H1.out ?_))
          refine bodyPost_ret (v := .agg cs.toArray) ?_ rfl ⟨by rw [HCS.out], below_setCells (Nat.le_refl _) _ _ _ HB.out⟩
          exact results_cell Tryd.results91 _ _ _ w.heap.size cs rfl (run_loadVar_mid _ w.heap.size 0 184 cs _ HS.out Tryd.underlying184 rfl HI.out)
end Sha
end Go.Proofs.YtbgjoefpnjgdkaaDoor
