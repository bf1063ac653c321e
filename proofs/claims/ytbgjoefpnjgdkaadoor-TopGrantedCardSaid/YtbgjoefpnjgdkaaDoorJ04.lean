/- Joined of 2 texts: their lemmas, one behind the other; each says below what it holds. -/
import Derived.Test.YtbgjoefpnjgdkaaDoorJ03
import Derived.Laws.CopyOwn
import Derived.Deep.WholeRow
/- A block of words that is known whole: for the law of copy. -/
namespace Go.Proofs.YtbgjoefpnjgdkaaDoor
open Go.RowKit
set_option linter.unusedVariables false
namespace Sha
/-- N words as cells -/
def cellsOfF (f : Nat → Int) (N : Nat) : List Value := (List.range N).map fun j => Value.int .u32 (f j)
theorem cellsOfF_length (f : Nat → Int) (N : Nat) : (cellsOfF f N).length = N := by simp [cellsOfF]
theorem cellsOfF_at (f : Nat → Int) (N j : Nat) (h : j < N) : (cellsOfF f N)[j]? = some (.int .u32 (f j)) := by
  rw [cellsOfF, List.getElem?_map, List.getElem?_range h]; rfl

/-- block n is just these N words -/
def Row (n : Nat) (w : World) (f : Nat → Int) (N : Nat) (t : TypeId) : Prop := w.heap[n]? = some (.cells (cellsOfF f N).toArray t (0, 0))

theorem Row.lt {n : Nat} {w : World} {f : Nat → Int} {N : Nat} {t : TypeId} (h : Row n w f N t) : n < w.heap.size := (Array.getElem?_eq_some_iff.1 h).1

theorem Row.arr {n : Nat} {w : World} {f : Nat → Int} {N : Nat} {t : TypeId} (h : Row n w f N t) : Arr n w f N := by
  refine ⟨h.lt, fun j hj => ?_, fun j => ?_⟩
  · unfold Row at h
    simp [World.cell?, h, cellsOfF_at f N j hj]
  · unfold Row at h
    simp [World.frozen?, h]

theorem Row.below {n : Nat} {w w' : World} {f : Nat → Int} {N : Nat} {t : TypeId} (h : Row n w f N t) (hb : Below w.heap.size w w') : Row n w' f N t := by
  unfold Row
  rw [hb.block n h.lt]; exact h

theorem Row.drewN {n : Nat} {w : World} {f : Nat → Int} {N : Nat} {t : TypeId} (h : Row n w f N t) (k : Nat) : Row n (w.drewN k) f N t := h
theorem Row.congr {n : Nat} {w : World} {f g : Nat → Int} {N : Nat} {t : TypeId} (h : Row n w f N t) (hfg : ∀ j, j < N → f j = g j) : Row n w g N t := by
  unfold Row at h ⊢
  rw [h]
  have : cellsOfF f N = cellsOfF g N := by
    unfold cellsOfF
    exact List.map_congr_left fun j hj => by rw [hfg j (List.mem_range.1 hj)]
  rw [this]

theorem splice_shift (f : Nat → Int) : splice (cellsOfF f 8) 1 (cellsOfF f 7) = cellsOfF (fun i => if i = 0 then f 0 else f (i - 1)) 8 := rfl

theorem Row.set {n : Nat} {w : World} {f : Nat → Int} {N : Nat} {t : TypeId} (h : Row n w f N t) (j : Nat) (hj : j < N) (v : Int) : Row n (w.setCell ⟨n, j, none⟩ (.int .u32 v)) (fun i => if i = j then v else f i) N t := by
  unfold Row at h ⊢
  have hl := (Array.getElem?_eq_some_iff.1 h).1
  have e : (cellsOfF (fun i => if i = j then v else f i) N).toArray = (cellsOfF f N).toArray.setIfInBounds j (.int .u32 v) := by
    apply Array.ext_getElem?
    intro i
    rw [Array.getElem?_setIfInBounds]
    simp only [List.getElem?_toArray, List.size_toArray, cellsOfF_length]
    by_cases hi : i < N
    · rw [cellsOfF_at _ N i hi]
      by_cases hij : j = i
      · subst hij; rw [if_pos rfl, if_pos hj, if_pos rfl]
      · rw [if_neg hij, cellsOfF_at _ N i hi, if_neg (fun e => hij e.symm)]
    · rw [List.getElem?_eq_none (by rw [cellsOfF_length]; omega)]
      by_cases hij : j = i
      · omega
      · rw [if_neg hij, List.getElem?_eq_none (by rw [cellsOfF_length]; omega)]
  rw [e]
  simp only [World.setCell]
  rw [Array.getElem?_modify, if_pos rfl, h]
  rfl
end Sha
end Go.Proofs.YtbgjoefpnjgdkaaDoor
/- sha's add: a block is added to a sum. The table of constants is any. -/
namespace Go.Proofs.YtbgjoefpnjgdkaaDoor
open Go.RowKit
set_option linter.unusedVariables false
set_option linter.unusedSimpArgs false
set_option maxRecDepth 100000
namespace Sha
/-- a round of the sum, of the eight words, a constant and a block's word -/
def t1of (x : Nat → Int) (k w : Int) : Int := (x 7 + bits .xor .u32 (bits .xor .u32 (rotr (x 4) 6) (rotr (x 4) 11)) (rotr (x 4) 25) + bits .xor .u32 (bits .and .u32 (x 4) (x 5)) (bits .and .u32 (bits .xor .u32 IntKind.u32.max (x 4)) (x 6)) + k + w) % 4294967296
def t2of (x : Nat → Int) : Int := (bits .xor .u32 (bits .xor .u32 (rotr (x 0) 2) (rotr (x 0) 13)) (rotr (x 0) 22) + bits .xor .u32 (bits .xor .u32 (bits .and .u32 (x 0) (x 1)) (bits .and .u32 (x 0) (x 2))) (bits .and .u32 (x 1) (x 2))) % 4294967296
def stepX (x : Nat → Int) (k w : Int) : Nat → Int := fun i => if i = 0 then (t1of x k w + t2of x) % 4294967296 else if i = 4 then (x 3 + t1of x k w) % 4294967296 else x (i - 1)
def roundsX (x kk ww : Nat → Int) : Nat → Nat → Int
  | 0 => x
  | t + 1 => stepX (roundsX x kk ww t) (kk t) (ww t)
/-- the sum behind a block -/
def addX (X kk : Nat → Int) (B : List UInt8) : Nat → Int := fun j => (X j + roundsX X kk (wd B) 64 j) % 4294967296

theorem Arr.drewN {n : Nat} {w : World} {f : Nat → Int} {N : Nat} (h : Arr n w f N) (k : Nat) : Arr n (w.drewN k) f N := ⟨h.size, h.cell, h.froz⟩
theorem below_drewN {B : Nat} {w w' : World} (h : Below B w w') (k : Nat) : Below B w (w'.drewN k) := ⟨h.os, h.tape, h.output, h.size, h.block⟩

theorem Row.eight (w : World) (x : Nat → Int) (t : TypeId) : Row w.heap.size (w.alloc (.cells #[.int .u32 (x 0), .int .u32 (x 1), .int .u32 (x 2), .int .u32 (x 3), .int .u32 (x 4), .int .u32 (x 5), .int .u32 (x 6), .int .u32 (x 7)] t)) x 8 t := by
  exact Array.getElem?_push_size

theorem Row.far {n m : Nat} {w : World} {f : Nat → Int} {N : Nat} {t : TypeId} (h : Row n w f N t) (hne : m ≠ n) (i : Nat) (v : Value) : Row n (w.setCell ⟨m, i, none⟩ v) f N t := by
  unfold Row
  rw [Below.heap_setCell _ _ _ _ (Ne.symm hne)]
  exact h

theorem grownBy_low {w w' : World} {n : Nat} (h : Below w.heap.size w w') : w.grownBy w' (some n) := ⟨h.os, h.tape, h.output, h.size, fun k hk _ => h.block k hk⟩
theorem grownBy_drew {w w' : World} {n : Nat} (h : w.grownBy w' (some n)) : w.grownBy w'.drew (some n) := ⟨h.os, h.tape, h.output, h.size, h.block⟩
theorem grownBy_set {w w' : World} {n : Nat} (h : w.grownBy w' (some n)) (j : Nat) (v : Value) : w.grownBy (w'.setCell ⟨n, j, none⟩ v) (some n) :=
  ⟨h.os, h.tape, h.output, by simpa [World.setCell] using h.size, fun k hk hne => by
    rw [Below.heap_setCell _ _ _ _ (fun e => hne (congrArg some e))]; exact h.block k hk hne⟩

theorem Arr.low {B n : Nat} {w w' : World} {f : Nat → Int} {N : Nat} (h : Arr n w f N) (hn : n < B) (hb : Below B w w') : Arr n w' f N :=
  ⟨Nat.lt_of_lt_of_le h.size hb.size, fun j hj => by rw [hb.cell (p := ⟨n, j, none⟩) hn]; exact h.cell j hj, fun j => by rw [hb.frozen (p := ⟨n, j, none⟩) hn]; exact h.froz j⟩

/-- a table that is only read -/
structure Tab (n : Nat) (w : World) (f : Nat → Int) (N : Nat) : Prop where
  size : n < w.heap.size
  cell : ∀ j, j < N → w.cell? ⟨n, j, none⟩ = some (.int .u32 (f j))

theorem there_arr {n : Nat} {w : World} {f : Nat → Int} {N m : Nat} (h : Arr n w f N) (hm : m = N) : w.there n 0 m := by
  subst hm
  intro j hj
  rw [Nat.zero_add, h.cell j hj]
  exact ⟨rfl, h.froz j⟩

theorem wpList_store_new {P : Program} {ops : Array Oper} {rest : List Oper} {o : Oper} {a : Act} {w : World} {Q : Exit → Act → World → Prop} (hgd : o.guard = none) (t : TypeId) (x y : Operand) (ho : o.op = .store t x y)
    (c c' : Array Value) (hx : a.eval x = .pointer (some ⟨w.heap.size, 0, none⟩)) (hy : a.eval y = .agg c') (hi : (P.info? t).map (·.size) = some c'.size) (hs : c.size = c'.size) (h1 : c'.all (·.oneCell') = true)
    (h : wpList P ops Q rest (a.put o.dst undef) (w.alloc (.cells c' t))) : wpList P ops Q (o :: rest) a (w.alloc (.cells c t)) := by
  refine wpList_plain hgd fun K hK => ?_
  unfold Oper.wp execOp
  simp only [ho, hx, hy, Instr.storeAt, Instr.sureAddr, Sem.run_bind, Sem.run_pure, Result.andThen_ok, run_storeVar_new (P := P) w t c c' hi hs h1]
  exact hK _ _ h

theorem Arr.words (w : World) (B : List UInt8) (t : TypeId) : Arr w.heap.size (w.alloc (.cells (wordsC B).toArray t)) (wd B) 64 := by
  refine ⟨by simp, fun j hj => ?_, fun j => (World.frozen?_alloc_mark w _ t 0 0 j).trans (by simp)⟩
  have := World.cell?_alloc_mark w (wordsC B).toArray t (0, 0) j
  rw [this]
  simp [wordsC_at B j hj]

theorem turn_q (x c : Int) (h : turnOk c) (hc : IntKind.i64.wrap (-c) = -c) (w : World) :
    Calls Tryd.prog 92 #[.int .u32 x, .int .i64 c] w fun e w' => e = .returned (.int .u32 (rotr x c)) ∧ w' = w := (turn_any x c h hc w).mono fun _ _ h => ⟨h.1, h.2.symm⟩

set_option maxHeartbeats 4000000 in
theorem add_any (nv b o cap : Nat) (X kk : Nat → Int) (B : List UInt8) (hB : B.length = 64) (w : World) (hv : Arr nv w X 8) (hk : Tab 3 w kk 64) (hbw : b < w.heap.size)
    (hc : ∀ j (h : j < B.length), w.cell? ⟨b, o + j, none⟩ = some (.int .u8 (B[j].toNat : Int))) :
    Calls Tryd.prog 41 #[.pointer (some ⟨nv, 0, none⟩), .slice (some ⟨b, o, none⟩) 64 cap] w fun e w' => e = .returned (.tuple #[]) ∧ Arr nv w' (addX X kk B) 8 ∧ w.grownBy w' (some nv) := by
  have HV := Lib.hid hv
  have HK := Lib.hid hk
  have HC := Lib.hid hc
  have hvs := hv.size
  clear hv hk hc
  go_enter Tryd.func41, Tryd.ntmps41
  go_wp2_with fail
  refine (words_any b o cap B hB _ hbw HC.out).mono ?_
  rintro e w1 ⟨rfl, hb⟩
  have hws : w.heap.size ≤ w1.heap.size := hb.size
  have A1 := HV.out.below hb
  have v0 := A1.cell 0 (by omega)
  have v1 := A1.cell 1 (by omega)
  have v2 := A1.cell 2 (by omega)
  have v3 := A1.cell 3 (by omega)
  have v4 := A1.cell 4 (by omega)
  have v5 := A1.cell 5 (by omega)
  have v6 := A1.cell 6 (by omega)
  have v7 := A1.cell 7 (by omega)
  have hvs1 := A1.size
  have HV1 := Lib.hid A1
  have HB1 := Lib.hid hb
  clear A1 hb
  have HSZ := Lib.hid (show (wordsC B).toArray.size = 64 by rw [List.size_toArray, wordsC_length])
  have HI := Lib.hid (show (Tryd.prog.info? 184).map (·.size) = some (wordsC B).toArray.size by rw [List.size_toArray, wordsC_length]; kernel_rfl)
  go_wp2_with (refine wpList_store_new (o := ⟨none, .store 184 (.tmp 4) (.tmp 13), _, _, _, _⟩) rfl 184 (.tmp 4) (.tmp 13) rfl _ (wordsC B).toArray ?_ ?_ HI.out ?_ (wordsC_one B) ?_; rfl; rfl; exact (show _ = 64 from rfl).trans HSZ.out.symm)
  have W4 := (Arr.words w1 B 184).below ((Below.refl _ _).alloc (Nat.le_refl _) (.cells #[.int .u32 (X 0), .int .u32 (X 1), .int .u32 (X 2), .int .u32 (X 3), .int .u32 (X 4), .int .u32 (X 5), .int .u32 (X 6), .int .u32 (X 7)] 102))
  have X5 := Row.eight (w1.alloc (.cells (wordsC B).toArray 184)) X 102
  rw [World.size_alloc] at X5
  have B2 : Below w1.heap.size w1 ((w1.alloc (.cells (wordsC B).toArray 184)).alloc (.cells #[.int .u32 (X 0), .int .u32 (X 1), .int .u32 (X 2), .int .u32 (X 3), .int .u32 (X 4), .int .u32 (X 5), .int .u32 (X 6), .int .u32 (X 7)] 102)) := ((Below.refl _ _).alloc (Nat.le_refl _) _).alloc (by simp) _
  have BW := Lib.hid (HB1.out.trans (B2.mono hws))
  generalize (w1.alloc (.cells (wordsC B).toArray 184)).alloc (.cells #[.int .u32 (X 0), .int .u32 (X 1), .int .u32 (X 2), .int .u32 (X 3), .int .u32 (X 4), .int .u32 (X 5), .int .u32 (X 6), .int .u32 (X 7)] 102) = w2 at *
  obtain ⟨n4, hn4⟩ : ∃ x, x = w1.heap.size := ⟨_, rfl⟩
  rw [← hn4] at W4 X5 ⊢
  have hn4w : w.heap.size ≤ n4 := by omega
  clear B2 HB1 hn4 v0 v1 v2 v3 v4 v5 v6 v7 hvs1 HV1 hws HI HSZ
  go_loopw [17] (fun i wr => ∃ t : Nat, t ≤ 64 ∧ i = .int .i64 (t : Int) ∧ Arr n4 wr (wd B) 64 ∧ Row (n4 + 1) wr (roundsX X kk (wd B) t) 8 102 ∧ Below w.heap.size w wr) (fun i _ => 64 - (intOf i).toNat)
  case atStart => exact ⟨0, by omega, rfl, W4, X5, BW.out⟩
  case round =>
    clear W4 X5 BW
    obtain ⟨t, ht, rfl, R4, R5, BW⟩ := hrel
    by_cases hlt : t < 64
    · have hti : (t : Int) < 64 := by omega
      have ht0 : (0 : Int) ≤ (t : Int) := by omega
      have kt := (BW.cell (p := ⟨3, t, none⟩) HK.out.size).trans (HK.out.cell t hlt)
      have wt := R4.cell t hlt
      have R4' := Lib.hid R4
      have R5' := Lib.hid R5
      have BW' := Lib.hid BW
      generalize hy : roundsX X kk (wd B) t = y at *
      have R5a := R5.arr
      have x0 := R5a.cell 0 (by omega)
      have x1 := R5a.cell 1 (by omega)
      have x2 := R5a.cell 2 (by omega)
      have x3 := R5a.cell 3 (by omega)
      have x4 := R5a.cell 4 (by omega)
      have x5 := R5a.cell 5 (by omega)
      have x6 := R5a.cell 6 (by omega)
      have x7 := R5a.cell 7 (by omega)
      have HY := Lib.hid hy
      generalize hkt : kk t = kt0 at *
      generalize hwt : wd B t = wt0 at *
      have HKT := Lib.hid hkt
      have HWT := Lib.hid hwt
      clear hkt hwt
      clear R4 R5 BW hy R5a
      go_wp2_with fail
      go_quiet ((go_at_call 92; exact Calls.quiet_of_same (turn_q _ _ (by first | exact ok6 | exact ok11 | exact ok25 | exact ok2 | exact ok13 | exact ok22) (by decide +kernel) _)))
      have R4q := Lib.hid (R4'.out.drewN nq)
      have R5q := Lib.hid (R5'.out.drewN nq)
      have BWq := Lib.hid (below_drewN BW'.out nq)
      clear R4' R5' BW' x0 x1 x2 x3 x4 x5 x6 x7 kt wt
      generalize wr.drewN nq = wq at *
      have x0 := R5q.out.arr.cell 0 (by omega)
      have x1 := R5q.out.arr.cell 1 (by omega)
      have x2 := R5q.out.arr.cell 2 (by omega)
      have x4 := R5q.out.arr.cell 4 (by omega)
      go_wp2_with fail
      go_quiet ((go_at_call 92; exact Calls.quiet_of_same (turn_q _ _ (by first | exact ok6 | exact ok11 | exact ok25 | exact ok2 | exact ok13 | exact ok22) (by decide +kernel) _)))
      have R4r := Lib.hid (R4q.out.drewN nq)
      have R5r := Lib.hid (R5q.out.drewN nq)
      have BWr := Lib.hid (below_drewN BWq.out nq)
      clear R4q R5q BWq x0 x1 x2 x4
      generalize wq.drewN nq = wp at *
      have x0 := R5r.out.arr.cell 0 (by omega)
      have x1 := R5r.out.arr.cell 1 (by omega)
      have x2 := R5r.out.arr.cell 2 (by omega)
      have x3 := R5r.out.arr.cell 3 (by omega)
      have x4 := R5r.out.arr.cell 4 (by omega)
      have x5 := R5r.out.arr.cell 5 (by omega)
      have x6 := R5r.out.arr.cell 6 (by omega)
      go_wp2_with fail
      have hn8 : ∀ v ∈ cellsOfF y 7, v.oneCell' = true := by unfold cellsOfF; intro v hv; obtain ⟨j, _, rfl⟩ := List.mem_map.1 hv; rfl
      have hcp : ∀ j v, (cellsOfF y 7)[j]? = some v → wp.cell? ((⟨n4 + 1, 0, none⟩ : Addr).add j) = some v := by
        intro j v hv
        by_cases hj : j < 7
        · rw [cellsOfF_at y 7 j hj] at hv
          rw [show (⟨n4 + 1, 0, none⟩ : Addr).add j = ⟨n4 + 1, j, none⟩ by simp [Addr.add]; omega, R5r.out.arr.cell j (by omega)]
          exact hv
        · rw [List.getElem?_eq_none (by rw [cellsOfF_length]; omega)] at hv; cases hv
      have HCP := Lib.hid hcp
      have H8 := Lib.hid hn8
      clear hcp hn8
      go_region_law (refine step_copy_splice rfl (.tmp 78) (.tmp 79) 187 187 rfl 100 Tryd.underlying187 (by kernel_rfl) (some ⟨n4 + 1, 1, none⟩) (some ⟨n4 + 1, 0, none⟩) 7 7 7 8 (by simp [Act.eval, Act.put]) (by simp [Act.eval, Act.put]) (n4 + 1) 1 (cellsOfF y 8) 102 R5r.out (cellsOfF y 7) rfl (fun _ => ⟨rfl, _, rfl, HCP.out⟩) (by rw [cellsOfF_length, cellsOfF_length]; exact Nat.le_refl 8) H8.out (n4 + 1) _ (Below.refl _ _) (Nat.le_refl _) ?_; intro w4 hg4 hb4)
      have R4s := Lib.hid (R4r.out.drew.low (Nat.lt_succ_self n4) hb4)
      have R5s : Hid (Row (n4 + 1) w4 (fun i => if i = 0 then y 0 else y (i - 1)) 8 102) := Lib.hid (by have h := hg4.out; rw [splice_shift] at h; exact h)
      have BWs := Lib.hid (BWr.out.drew.trans (hb4.mono (by omega)))
      clear R4r R5r BWr x0 x1 x2 x3 x4 x5 x6 hg4 hb4 HCP H8
      have s4 : w4.cell? ⟨n4 + 1, 4, none⟩ = some (.int .u32 (y 3)) := R5s.out.arr.cell 4 (by omega)
      have s0 : w4.cell? ⟨n4 + 1, 0, none⟩ = some (.int .u32 (y 0)) := R5s.out.arr.cell 0 (by omega)
      have f4 := R5s.out.arr.froz 4
      have f0 := R5s.out.arr.froz 0
      obtain ⟨T1, hT1⟩ : ∃ T1, T1 = t1of y kt0 wt0 := ⟨_, rfl⟩
      obtain ⟨T2, hT2⟩ : ∃ T2, T2 = t2of y := ⟨_, rfl⟩
      have HT1 := Lib.hid hT1
      have HT2 := Lib.hid hT2
      rw [t1of] at hT1
      rw [t2of] at hT2
      rw [← hT1, ← hT2]
      clear hT1 hT2
      go_wp2_with fail
      go_roundw
      case rel => exact ⟨t + 1, by omega, by go_num, ((R4s.out.far (by omega) _ _).far (by omega) _ _), ((R5s.out.set 0 (by omega) _).set 4 (by omega) _).congr (fun j hj => by
        show _ = stepX (roundsX X kk (wd B) t) (kk t) (wd B t) j
        rw [HY.out, HKT.out, HWT.out, stepX, ← HT1.out, ← HT2.out]
        by_cases h0 : j = 0
        · subst h0; simp
        · by_cases h4 : j = 4
          · subst h4; simp
          · simp [h0, h4]), (BWs.out.setCell (p := ⟨n4 + 1, 0, none⟩) (by simp; omega) _).setCell (p := ⟨n4 + 1, 4, none⟩) (by simp; omega) _⟩
      case measure => simp [intOf]; omega
    · obtain rfl : t = 64 := by omega
      clear hlt ht
      rw [show ((64 : Nat) : Int) = 64 from rfl]
      go_wp2_with fail
      have R5' := Lib.hid R5
      have BW' := Lib.hid BW
      clear R4 R5 BW
      generalize hy : roundsX X kk (wd B) 64 = y at *
      have HY := Lib.hid hy
      clear hy
      go_loopw [91] (fun i wr => ∃ t : Nat, t ≤ 8 ∧ i = .int .i64 (t : Int) ∧ Row (n4 + 1) wr y 8 102 ∧ Arr nv wr (fun j => if j < t then (X j + y j) % 4294967296 else X j) 8 ∧ w.grownBy wr (some nv)) (fun i _ => 8 - (intOf i).toNat)
      case atStart => exact ⟨0, by omega, rfl, R5'.out, (HV.out.below BW'.out).congr (fun j _ => by simp), grownBy_low BW'.out⟩
      case round =>
        clear R5' BW'
        obtain ⟨t, ht, rfl, R5, RV, GW⟩ := hrel
        by_cases hlt : t < 8
        · have hti : (t : Int) < 8 := by omega
          have ht0 : (0 : Int) ≤ (t : Int) := by omega
          have xt := R5.arr.cell t hlt
          have vt := RV.cell t hlt
          rw [if_neg (by omega)] at vt
          have vf := RV.froz t
          have R5' := Lib.hid R5
          have RV' := Lib.hid RV
          have GW' := Lib.hid GW
          have HYT : Hid ((X t + y t) % 4294967296 = (X t + y t) % 4294967296) := Lib.hid rfl
          clear R5 RV GW
          go_wp2_with fail
          have hmo : Tryd.prog.follows .mixedOrders = true := by kernel_rfl
          go_region
          go_wp2_with fail
          go_roundw
          case rel => exact ⟨t + 1, by omega, by go_num, (R5'.out.far (by omega) _ _).drewN 1, ((RV'.out.set t (by omega) _).drew).congr (fun j _ => by
            by_cases hj : j = t
            · subst hj; rw [if_pos rfl, if_pos (by omega)]
            · rw [if_neg hj]; by_cases hj2 : j < t
              · rw [if_pos hj2, if_pos (by omega)]
              · rw [if_neg hj2, if_neg (by omega)]), grownBy_drew (grownBy_set GW'.out _ _)⟩
          case measure => simp [intOf]; omega
        · obtain rfl : t = 8 := by omega
          clear hlt ht
          rw [show ((8 : Nat) : Int) = 8 from rfl]
          have RV' := Lib.hid RV
          have GW' := Lib.hid GW
          clear RV GW R5
          go_wp2_with fail
          refine bodyPost_end (results_none rfl _ _ _) rfl ?_
          refine ⟨rfl, RV'.out.congr (fun j hj => ?_), GW'.out⟩
          rw [if_pos hj, addX, HY.out]
end Sha
end Go.Proofs.YtbgjoefpnjgdkaaDoor
