/- power.Parse. -/
import Derived.Test.YtbgjoefpnjgdkaaDoorAboveNum
import Derived.Test.YtbgjoefpnjgdkaaDoorAboveRow
import Derived.Test.YtbgjoefpnjgdkaaDoorAboveCheck
import Derived.Test.YtbgjoefpnjgdkaaDoorHeldOut
import Derived.Deep.LoopGhost
namespace Go.Proofs.YtbgjoefpnjgdkaaDoor
open Go.RowKit
set_option linter.unusedVariables false
set_option linter.unusedSimpArgs false
set_option maxRecDepth 100000
/-- append as it stands: the walk does not open it -/
def appAboveParse (ats : Array TypeId) (ty : TypeId) (args : Array Value) : Sem Value := Builtin.append_ ats ty args
theorem appAboveParse_fold (ats : Array TypeId) (ty : TypeId) (args : Array Value) : Builtin.append_ ats ty args = appAboveParse ats ty args := rfl
attribute [local go_sem ↓] appAboveParse_fold
namespace Above
open Named Oct
theorem Rdr.kept {w w' : World} {g : Nat} {ls : List (List UInt8)} {bad : Bool} {v : Value} {row : Option Nat} (h : Rdr w g ls bad v) (hgb : w.grownBy w' row) (hrow : ∀ k, row = some k → g < k) : Rdr w' g ls bad v := by
  refine ⟨h.box.grown hgb (fun e => by have := hrow g e; omega), ?_, h.short⟩
  rcases h.row with h0 | ⟨b, o, cap, h1, h2, h3, h4⟩
  · exact .inl h0
  · exact .inr ⟨b, o, cap, h1, h2, h3, fun j hj => (World.cell?_of_block (a := ⟨b, o + j, none⟩) (hgb.block b (by have := h.box.size; omega) (fun e => by have := hrow b e.symm; omega))).trans (h4 j hj)⟩

set_option maxHeartbeats 16000000 in
theorem lparse_any (s : ByteArray) (hs : s.size ≤ 1048576) (w : World) (hP : VarsP w) :
    Calls Tryd.prog 29 #[.string s] w fun e w' => ((∃ n0 n1 n2 n3 n4 n5 v us, e = .returned (.tuple #[levV n0 n1 n2 n3 n4 n5 v, .int .i64 0]) ∧ LRow w' v us ∧ us.length ≤ 1048577 ∧ ∀ u ∈ us, u.1.length ≤ 1048576) ∨ e = .returned (.tuple #[levV 0 0 0 0 0 0 (.slice none 0 0), .int .i64 6])) ∧ Below w.heap.size w w' := by
  have HP := Lib.hid hP
  have HS := Lib.hid (split_any s hs)
  clear hP hs
  unfold levV
  have A0 := Blk.new w #[.int .i64 0, .int .i64 0, .int .i64 0, .int .i64 0, .int .i64 0, .int .i64 0, .slice none 0 0] 72
  have B0 := (Below.refl w.heap.size w).alloc (Nat.le_refl _) (.cells #[.int .i64 0, .int .i64 0, .int .i64 0, .int .i64 0, .int .i64 0, .int .i64 0, .slice none 0 0] 72)
  go_enter Tryd.func29, Tryd.ntmps29
  go_wp2_with fail
  generalize w.alloc (.cells #[.int .i64 0, .int .i64 0, .int .i64 0, .int .i64 0, .int .i64 0, .int .i64 0, .slice none 0 0] 72) = w1 at *
  refine (HS.out w1).mono ?_
  rintro e w2 ⟨ls, rfl, hz2, hcl, hsh, hlen, hb2⟩
  have HCL := Lib.hid hcl
  have HSH := Lib.hid hsh
  have A2 := A0.low hb2
  have B2 := B0.trans (hb2.mono B0.size)
  have z1 := A0.size
  clear hcl hsh hb2 A0 HS
  go_wp2_with fail
  have hw2 := B2.size
  have A3 := A2.alloc (.cells #[.slice (some ⟨w1.heap.size, 0, none⟩) ls.length ls.length, .bool false] 157)
  have B3 := B2.alloc B2.size (.cells #[.slice (some ⟨w1.heap.size, 0, none⟩) ls.length ls.length, .bool false] 157)
  have X3 := Blk.new w2 #[.slice (some ⟨w1.heap.size, 0, none⟩) ls.length ls.length, .bool false] 157
  have HR : Hid (Rdr (w2.alloc (.cells #[.slice (some ⟨w1.heap.size, 0, none⟩) ls.length ls.length, .bool false] 157)) w2.heap.size ls false (.slice (some ⟨w1.heap.size, 0, none⟩) ls.length ls.length)) := Lib.hid ⟨X3, .inr ⟨w1.heap.size, 0, ls.length, rfl, hz2, Nat.le_refl _, fun j hj => by
    have hb := (Below.refl w2.heap.size w2).alloc (Nat.le_refl _) (.cells #[.slice (some ⟨w1.heap.size, 0, none⟩) ls.length ls.length, .bool false] 157)
    exact (hb.cell (p := ⟨w1.heap.size, 0 + j, none⟩) hz2).trans (HCL.out j hj)⟩, HSH.out⟩
  clear X3 HCL HSH
  generalize w2.alloc (.cells #[.slice (some ⟨w1.heap.size, 0, none⟩) ls.length ls.length, .bool false] 157) = w3 at *
  have hgk : ∀ k, some w2.heap.size = some k → w.heap.size ≤ k := fun k e => by injection e with e; omega
  have hne : some w2.heap.size ≠ some w.heap.size := fun e => by injection e with e; have := A2.size; omega
  have R := HR.out
  have A := A3
  have B := B3
  clear HR A3 B3 A2 B2 B0
  refine (num_reads w2.heap.size ls false _ w3 w R hlen HP.out B hw2).mono ?_
  rintro e w4 ⟨n0, bad4, v4, rfl, R', hg'⟩
  have A := A.grown hg' hne
  have B := B.grown hg' B.size hgk
  have hlen : ls.tail.length ≤ 1048577 := by rw [List.length_tail]; omega
  clear hg' R
  have R := R'
  clear R'
  generalize ls.tail = ls4 at *
  go_wp2_with fail
  refine (num_reads w2.heap.size ls4 bad4 _ w4 w R hlen HP.out B hw2).mono ?_
  rintro e w5 ⟨n1, bad5, v5, rfl, R', hg'⟩
  have A := A.grown hg' hne
  have B := B.grown hg' B.size hgk
  have hlen : ls4.tail.length ≤ 1048577 := by rw [List.length_tail]; omega
  clear hg' R
  have R := R'
  clear R'
  generalize ls4.tail = ls5 at *
  go_wp2_with fail
  refine (num_reads w2.heap.size ls5 bad5 _ w5 w R hlen HP.out B hw2).mono ?_
  rintro e w6 ⟨n2, bad6, v6, rfl, R', hg'⟩
  have A := A.grown hg' hne
  have B := B.grown hg' B.size hgk
  have hlen : ls5.tail.length ≤ 1048577 := by rw [List.length_tail]; omega
  clear hg' R
  have R := R'
  clear R'
  generalize ls5.tail = ls6 at *
  go_wp2_with fail
  refine (num_reads w2.heap.size ls6 bad6 _ w6 w R hlen HP.out B hw2).mono ?_
  rintro e w7 ⟨n3, bad7, v7, rfl, R', hg'⟩
  have A := A.grown hg' hne
  have B := B.grown hg' B.size hgk
  have hlen : ls6.tail.length ≤ 1048577 := by rw [List.length_tail]; omega
  clear hg' R
  have R := R'
  clear R'
  generalize ls6.tail = ls7 at *
  go_wp2_with fail
  refine (num_reads w2.heap.size ls7 bad7 _ w7 w R hlen HP.out B hw2).mono ?_
  rintro e w8 ⟨n4, bad8, v8, rfl, R', hg'⟩
  have A := A.grown hg' hne
  have B := B.grown hg' B.size hgk
  have hlen : ls7.tail.length ≤ 1048577 := by rw [List.length_tail]; omega
  clear hg' R
  have R := R'
  clear R'
  generalize ls7.tail = ls8 at *
  go_wp2_with fail
  refine (num_reads w2.heap.size ls8 bad8 _ w8 w R hlen HP.out B hw2).mono ?_
  rintro e w9 ⟨n5, bad9, v9, rfl, R', hg'⟩
  have A := A.grown hg' hne
  have B := B.grown hg' B.size hgk
  have hlen : ls8.tail.length ≤ 1048577 := by rw [List.length_tail]; omega
  clear hg' R
  have R := R'
  clear R'
  generalize ls8.tail = ls9 at *
  go_wp2_with fail
  have hg9 : w2.heap.size < w9.heap.size := R.box.size
  have A := A.alloc (.cells #[.int .i64 n0, .int .i64 n1, .int .i64 n2, .int .i64 n3, .int .i64 n4, .int .i64 n5, .slice none 0 0] 72)
  have hz9 : (w9.alloc (.cells #[.int .i64 n0, .int .i64 n1, .int .i64 n2, .int .i64 n3, .int .i64 n4, .int .i64 n5, .slice none 0 0] 72)).heap.size = w9.heap.size + 1 := by simp
  have X := Blk.new w9 #[.int .i64 n0, .int .i64 n1, .int .i64 n2, .int .i64 n3, .int .i64 n4, .int .i64 n5, .slice none 0 0] 72
  have R := R.low ((Below.refl _ w9).alloc (Nat.le_refl _) (.cells #[.int .i64 n0, .int .i64 n1, .int .i64 n2, .int .i64 n3, .int .i64 n4, .int .i64 n5, .slice none 0 0] 72))
  have B := B.alloc B.size (.cells #[.int .i64 n0, .int .i64 n1, .int .i64 n2, .int .i64 n3, .int .i64 n4, .int .i64 n5, .slice none 0 0] 72)
  generalize w9.alloc (.cells #[.int .i64 n0, .int .i64 n1, .int .i64 n2, .int .i64 n3, .int .i64 n4, .int .i64 n5, .slice none 0 0] 72) = w10 at *
  go_loopg [] ls9.length (fun g wr => ∃ (ls : List (List UInt8)) (bad : Bool) (v vu : Value) (us : List (List UInt8 × Int)), ls.length = g ∧ us.length + ls.length ≤ 1048577 ∧ Hid (Rdr wr w2.heap.size ls bad v) ∧ Hid (Blk wr w9.heap.size [.int .i64 n0, .int .i64 n1, .int .i64 n2, .int .i64 n3, .int .i64 n4, .int .i64 n5, vu]) ∧ Hid (OwnU (w9.heap.size + 1) wr vu us) ∧ Hid (∀ u ∈ us, u.1.length ≤ 1048576) ∧ Hid (Blk wr w.heap.size [.int .i64 0, .int .i64 0, .int .i64 0, .int .i64 0, .int .i64 0, .int .i64 0, .slice none 0 0]) ∧ Hid (Below w.heap.size w wr) ∧ w9.heap.size + 1 ≤ wr.heap.size)
  case atStart => exact ⟨ls9, bad9, v9, .slice none 0 0, [], rfl, by simpa using hlen, Lib.hid R, Lib.hid X, Lib.hid (OwnU.nil _ _), Lib.hid (fun u hu => by cases hu), Lib.hid A, Lib.hid B, by omega⟩
  case round =>
    obtain ⟨ls, bad, v, vu, us, rfl, hlu, HR, HX, HO, HU, HA, HB, hzr⟩ := hrel
    obtain ⟨p, cap, rfl⟩ := HR.out.row.form
    obtain ⟨pu, cu, rfl⟩ := HO.out.row.form
    have c0 := HR.out.box.cell 0 rfl
    have c1 := HR.out.box.cell 1 rfl
    have zg := HR.out.box.size
    have zx := HX.out.size
    have za := HA.out.size
    clear A B R X
    cases bad with
    | true =>
      by_cases h0 : ls.length = 0
      · obtain rfl := List.length_eq_zero_iff.1 h0
        rw [List.length_nil] at c0
        have a0 := HA.out.cell 0 rfl
        have fa0 := HA.out.froz 0 (by simp)
        have a1 := HA.out.cell 1 rfl
        have fa1 := HA.out.froz 1 (by simp)
        have a2 := HA.out.cell 2 rfl
        have fa2 := HA.out.froz 2 (by simp)
        have a3 := HA.out.cell 3 rfl
        have fa3 := HA.out.froz 3 (by simp)
        have a4 := HA.out.cell 4 rfl
        have fa4 := HA.out.froz 4 (by simp)
        have a5 := HA.out.cell 5 rfl
        have fa5 := HA.out.froz 5 (by simp)
        have a6 := HA.out.cell 6 rfl
        have fa6 := HA.out.froz 6 (by simp)
        go_wp2_with fail
        have A9 := (((((((HA.out.set 0 (by simp) (.int .i64 0)).set 1 (by simp) (.int .i64 0)).set 2 (by simp) (.int .i64 0)).set 3 (by simp) (.int .i64 0)).set 4 (by simp) (.int .i64 0)).set 5 (by simp) (.int .i64 0)).set 6 (by simp) (.slice none 0 0))
        have B9 := (((((((HB.out.setCell (p := ⟨w.heap.size, 0, none⟩) (Nat.le_refl _) (.int .i64 0)).setCell (p := ⟨w.heap.size, 1, none⟩) (Nat.le_refl _) (.int .i64 0)).setCell (p := ⟨w.heap.size, 2, none⟩) (Nat.le_refl _) (.int .i64 0)).setCell (p := ⟨w.heap.size, 3, none⟩) (Nat.le_refl _) (.int .i64 0)).setCell (p := ⟨w.heap.size, 4, none⟩) (Nat.le_refl _) (.int .i64 0)).setCell (p := ⟨w.heap.size, 5, none⟩) (Nat.le_refl _) (.int .i64 0)).setCell (p := ⟨w.heap.size, 6, none⟩) (Nat.le_refl _) (.slice none 0 0))
        generalize (((((((wr.setCell ⟨w.heap.size, 0, none⟩ (.int .i64 0)).setCell ⟨w.heap.size, 1, none⟩ (.int .i64 0)).setCell ⟨w.heap.size, 2, none⟩ (.int .i64 0)).setCell ⟨w.heap.size, 3, none⟩ (.int .i64 0)).setCell ⟨w.heap.size, 4, none⟩ (.int .i64 0)).setCell ⟨w.heap.size, 5, none⟩ (.int .i64 0)).setCell ⟨w.heap.size, 6, none⟩ (.slice none 0 0)) = wz at *
        have d0 := A9.cell 0 rfl
        have d1 := A9.cell 1 rfl
        have d2 := A9.cell 2 rfl
        have d3 := A9.cell 3 rfl
        have d4 := A9.cell 4 rfl
        have d5 := A9.cell 5 rfl
        have d6 := A9.cell 6 rfl
        clear a0 a1 a2 a3 a4 a5 a6 fa0 fa1 fa2 fa3 fa4 fa5 fa6
        refine bodyPost_ret (v := .tuple #[.agg #[.int .i64 0, .int .i64 0, .int .i64 0, .int .i64 0, .int .i64 0, .int .i64 0, .slice none 0 0], .int .i64 6]) (by simp [results, Tryd.f29, go_sem, d0, d1, d2, d3, d4, d5, d6]) rfl ?_
        exact ⟨.inr rfl, B9⟩
      · have hpos : (0 : Int) < (ls.length : Int) := by omega
        have a0 := HA.out.cell 0 rfl
        have fa0 := HA.out.froz 0 (by simp)
        have a1 := HA.out.cell 1 rfl
        have fa1 := HA.out.froz 1 (by simp)
        have a2 := HA.out.cell 2 rfl
        have fa2 := HA.out.froz 2 (by simp)
        have a3 := HA.out.cell 3 rfl
        have fa3 := HA.out.froz 3 (by simp)
        have a4 := HA.out.cell 4 rfl
        have fa4 := HA.out.froz 4 (by simp)
        have a5 := HA.out.cell 5 rfl
        have fa5 := HA.out.froz 5 (by simp)
        have a6 := HA.out.cell 6 rfl
        have fa6 := HA.out.froz 6 (by simp)
        go_wp2_with fail
        have A9 := (((((((HA.out.set 0 (by simp) (.int .i64 0)).set 1 (by simp) (.int .i64 0)).set 2 (by simp) (.int .i64 0)).set 3 (by simp) (.int .i64 0)).set 4 (by simp) (.int .i64 0)).set 5 (by simp) (.int .i64 0)).set 6 (by simp) (.slice none 0 0))
        have B9 := (((((((HB.out.setCell (p := ⟨w.heap.size, 0, none⟩) (Nat.le_refl _) (.int .i64 0)).setCell (p := ⟨w.heap.size, 1, none⟩) (Nat.le_refl _) (.int .i64 0)).setCell (p := ⟨w.heap.size, 2, none⟩) (Nat.le_refl _) (.int .i64 0)).setCell (p := ⟨w.heap.size, 3, none⟩) (Nat.le_refl _) (.int .i64 0)).setCell (p := ⟨w.heap.size, 4, none⟩) (Nat.le_refl _) (.int .i64 0)).setCell (p := ⟨w.heap.size, 5, none⟩) (Nat.le_refl _) (.int .i64 0)).setCell (p := ⟨w.heap.size, 6, none⟩) (Nat.le_refl _) (.slice none 0 0))
        generalize (((((((wr.setCell ⟨w.heap.size, 0, none⟩ (.int .i64 0)).setCell ⟨w.heap.size, 1, none⟩ (.int .i64 0)).setCell ⟨w.heap.size, 2, none⟩ (.int .i64 0)).setCell ⟨w.heap.size, 3, none⟩ (.int .i64 0)).setCell ⟨w.heap.size, 4, none⟩ (.int .i64 0)).setCell ⟨w.heap.size, 5, none⟩ (.int .i64 0)).setCell ⟨w.heap.size, 6, none⟩ (.slice none 0 0)) = wz at *
        have d0 := A9.cell 0 rfl
        have d1 := A9.cell 1 rfl
        have d2 := A9.cell 2 rfl
        have d3 := A9.cell 3 rfl
        have d4 := A9.cell 4 rfl
        have d5 := A9.cell 5 rfl
        have d6 := A9.cell 6 rfl
        clear a0 a1 a2 a3 a4 a5 a6 fa0 fa1 fa2 fa3 fa4 fa5 fa6
        refine bodyPost_ret (v := .tuple #[.agg #[.int .i64 0, .int .i64 0, .int .i64 0, .int .i64 0, .int .i64 0, .int .i64 0, .slice none 0 0], .int .i64 6]) (by simp [results, Tryd.f29, go_sem, d0, d1, d2, d3, d4, d5, d6]) rfl ?_
        exact ⟨.inr rfl, B9⟩
    | false =>
      by_cases h0 : ls.length = 0
      · obtain rfl := List.length_eq_zero_iff.1 h0
        rw [List.length_nil] at c0
        have x0 := HX.out.cell 0 rfl
        have x1 := HX.out.cell 1 rfl
        have x2 := HX.out.cell 2 rfl
        have x3 := HX.out.cell 3 rfl
        have x4 := HX.out.cell 4 rfl
        have x5 := HX.out.cell 5 rfl
        have x6 := HX.out.cell 6 rfl
        go_wp2_with fail
        refine (check_some n0 n1 n2 n3 n4 n5 (.slice pu us.length cu) us wr HO.out.row (by omega) HU.out (HP.out.low HB.out).v).mono ?_
        rintro e w11 ⟨⟨c, rfl⟩, hb⟩
        have A11 := HA.out.low hb
        have B11 := HB.out.trans (hb.mono HB.out.size)
        have X11 := HX.out.low hb
        have O11 := HO.out.low hb
        clear x0 x1 x2 x3 x4 x5 x6 c0 c1 hb
        have a0 := A11.cell 0 rfl
        have fa0 := A11.froz 0 (by simp)
        have a1 := A11.cell 1 rfl
        have fa1 := A11.froz 1 (by simp)
        have a2 := A11.cell 2 rfl
        have fa2 := A11.froz 2 (by simp)
        have a3 := A11.cell 3 rfl
        have fa3 := A11.froz 3 (by simp)
        have a4 := A11.cell 4 rfl
        have fa4 := A11.froz 4 (by simp)
        have a5 := A11.cell 5 rfl
        have fa5 := A11.froz 5 (by simp)
        have a6 := A11.cell 6 rfl
        have fa6 := A11.froz 6 (by simp)
        have x0 := X11.cell 0 rfl
        have x1 := X11.cell 1 rfl
        have x2 := X11.cell 2 rfl
        have x3 := X11.cell 3 rfl
        have x4 := X11.cell 4 rfl
        have x5 := X11.cell 5 rfl
        have x6 := X11.cell 6 rfl
        have z11 := A11.size
        by_cases hc0 : c = 0
        · subst hc0
          go_wp2_with fail
          have A9 := (((((((A11.set 0 (by simp) (.int .i64 n0)).set 1 (by simp) (.int .i64 n1)).set 2 (by simp) (.int .i64 n2)).set 3 (by simp) (.int .i64 n3)).set 4 (by simp) (.int .i64 n4)).set 5 (by simp) (.int .i64 n5)).set 6 (by simp) (.slice pu us.length cu))
          have B9 := (((((((B11.setCell (p := ⟨w.heap.size, 0, none⟩) (Nat.le_refl _) (.int .i64 n0)).setCell (p := ⟨w.heap.size, 1, none⟩) (Nat.le_refl _) (.int .i64 n1)).setCell (p := ⟨w.heap.size, 2, none⟩) (Nat.le_refl _) (.int .i64 n2)).setCell (p := ⟨w.heap.size, 3, none⟩) (Nat.le_refl _) (.int .i64 n3)).setCell (p := ⟨w.heap.size, 4, none⟩) (Nat.le_refl _) (.int .i64 n4)).setCell (p := ⟨w.heap.size, 5, none⟩) (Nat.le_refl _) (.int .i64 n5)).setCell (p := ⟨w.heap.size, 6, none⟩) (Nat.le_refl _) (.slice pu us.length cu))
          have G9 : w11.grownBy (((((((w11.setCell ⟨w.heap.size, 0, none⟩ (.int .i64 n0)).setCell ⟨w.heap.size, 1, none⟩ (.int .i64 n1)).setCell ⟨w.heap.size, 2, none⟩ (.int .i64 n2)).setCell ⟨w.heap.size, 3, none⟩ (.int .i64 n3)).setCell ⟨w.heap.size, 4, none⟩ (.int .i64 n4)).setCell ⟨w.heap.size, 5, none⟩ (.int .i64 n5)).setCell ⟨w.heap.size, 6, none⟩ (.slice pu us.length cu)) (some w.heap.size) := gb_trans (gb_trans (gb_trans (gb_trans (gb_trans (gb_trans (gb_set w11 w.heap.size 0 (.int .i64 n0)) (gb_set (w11.setCell ⟨w.heap.size, 0, none⟩ (.int .i64 n0)) w.heap.size 1 (.int .i64 n1))) (gb_set ((w11.setCell ⟨w.heap.size, 0, none⟩ (.int .i64 n0)).setCell ⟨w.heap.size, 1, none⟩ (.int .i64 n1)) w.heap.size 2 (.int .i64 n2))) (gb_set (((w11.setCell ⟨w.heap.size, 0, none⟩ (.int .i64 n0)).setCell ⟨w.heap.size, 1, none⟩ (.int .i64 n1)).setCell ⟨w.heap.size, 2, none⟩ (.int .i64 n2)) w.heap.size 3 (.int .i64 n3))) (gb_set ((((w11.setCell ⟨w.heap.size, 0, none⟩ (.int .i64 n0)).setCell ⟨w.heap.size, 1, none⟩ (.int .i64 n1)).setCell ⟨w.heap.size, 2, none⟩ (.int .i64 n2)).setCell ⟨w.heap.size, 3, none⟩ (.int .i64 n3)) w.heap.size 4 (.int .i64 n4))) (gb_set (((((w11.setCell ⟨w.heap.size, 0, none⟩ (.int .i64 n0)).setCell ⟨w.heap.size, 1, none⟩ (.int .i64 n1)).setCell ⟨w.heap.size, 2, none⟩ (.int .i64 n2)).setCell ⟨w.heap.size, 3, none⟩ (.int .i64 n3)).setCell ⟨w.heap.size, 4, none⟩ (.int .i64 n4)) w.heap.size 5 (.int .i64 n5))) (gb_set ((((((w11.setCell ⟨w.heap.size, 0, none⟩ (.int .i64 n0)).setCell ⟨w.heap.size, 1, none⟩ (.int .i64 n1)).setCell ⟨w.heap.size, 2, none⟩ (.int .i64 n2)).setCell ⟨w.heap.size, 3, none⟩ (.int .i64 n3)).setCell ⟨w.heap.size, 4, none⟩ (.int .i64 n4)).setCell ⟨w.heap.size, 5, none⟩ (.int .i64 n5)) w.heap.size 6 (.slice pu us.length cu))
          generalize (((((((w11.setCell ⟨w.heap.size, 0, none⟩ (.int .i64 n0)).setCell ⟨w.heap.size, 1, none⟩ (.int .i64 n1)).setCell ⟨w.heap.size, 2, none⟩ (.int .i64 n2)).setCell ⟨w.heap.size, 3, none⟩ (.int .i64 n3)).setCell ⟨w.heap.size, 4, none⟩ (.int .i64 n4)).setCell ⟨w.heap.size, 5, none⟩ (.int .i64 n5)).setCell ⟨w.heap.size, 6, none⟩ (.slice pu us.length cu)) = wz at *
          have d0 := A9.cell 0 rfl
          have d1 := A9.cell 1 rfl
          have d2 := A9.cell 2 rfl
          have d3 := A9.cell 3 rfl
          have d4 := A9.cell 4 rfl
          have d5 := A9.cell 5 rfl
          have d6 := A9.cell 6 rfl
          clear a0 a1 a2 a3 a4 a5 a6 fa0 fa1 fa2 fa3 fa4 fa5 fa6
          refine bodyPost_ret (v := .tuple #[.agg #[.int .i64 n0, .int .i64 n1, .int .i64 n2, .int .i64 n3, .int .i64 n4, .int .i64 n5, .slice pu us.length cu], .int .i64 0]) (by simp [results, Tryd.f29, go_sem, d0, d1, d2, d3, d4, d5, d6]) rfl ?_
          exact ⟨.inl ⟨n0, n1, n2, n3, n4, n5, .slice pu us.length cu, us, rfl, (O11.grown (by omega) G9).row, by omega, HU.out⟩, B9⟩
        · have hc1 : (c == 0) = false := by simpa using hc0
          go_wp2_with fail
          have A9 := (((((((A11.set 0 (by simp) (.int .i64 0)).set 1 (by simp) (.int .i64 0)).set 2 (by simp) (.int .i64 0)).set 3 (by simp) (.int .i64 0)).set 4 (by simp) (.int .i64 0)).set 5 (by simp) (.int .i64 0)).set 6 (by simp) (.slice none 0 0))
          have B9 := (((((((B11.setCell (p := ⟨w.heap.size, 0, none⟩) (Nat.le_refl _) (.int .i64 0)).setCell (p := ⟨w.heap.size, 1, none⟩) (Nat.le_refl _) (.int .i64 0)).setCell (p := ⟨w.heap.size, 2, none⟩) (Nat.le_refl _) (.int .i64 0)).setCell (p := ⟨w.heap.size, 3, none⟩) (Nat.le_refl _) (.int .i64 0)).setCell (p := ⟨w.heap.size, 4, none⟩) (Nat.le_refl _) (.int .i64 0)).setCell (p := ⟨w.heap.size, 5, none⟩) (Nat.le_refl _) (.int .i64 0)).setCell (p := ⟨w.heap.size, 6, none⟩) (Nat.le_refl _) (.slice none 0 0))
          generalize (((((((w11.setCell ⟨w.heap.size, 0, none⟩ (.int .i64 0)).setCell ⟨w.heap.size, 1, none⟩ (.int .i64 0)).setCell ⟨w.heap.size, 2, none⟩ (.int .i64 0)).setCell ⟨w.heap.size, 3, none⟩ (.int .i64 0)).setCell ⟨w.heap.size, 4, none⟩ (.int .i64 0)).setCell ⟨w.heap.size, 5, none⟩ (.int .i64 0)).setCell ⟨w.heap.size, 6, none⟩ (.slice none 0 0)) = wz at *
          have d0 := A9.cell 0 rfl
          have d1 := A9.cell 1 rfl
          have d2 := A9.cell 2 rfl
          have d3 := A9.cell 3 rfl
          have d4 := A9.cell 4 rfl
          have d5 := A9.cell 5 rfl
          have d6 := A9.cell 6 rfl
          clear a0 a1 a2 a3 a4 a5 a6 fa0 fa1 fa2 fa3 fa4 fa5 fa6
          refine bodyPost_ret (v := .tuple #[.agg #[.int .i64 0, .int .i64 0, .int .i64 0, .int .i64 0, .int .i64 0, .int .i64 0, .slice none 0 0], .int .i64 6]) (by simp [results, Tryd.f29, go_sem, d0, d1, d2, d3, d4, d5, d6]) rfl ?_
          exact ⟨.inr rfl, B9⟩
      · have hpos : (0 : Int) < (ls.length : Int) := by omega
        have hmo : Tryd.prog.follows .mixedOrders = true := by kernel_rfl
        have hne9 : some w2.heap.size ≠ some w9.heap.size := fun e => by injection e with e; omega
        have S4 : wr.drew.cell? ⟨w9.heap.size, 6, none⟩ = some (.slice pu us.length cu) := HX.out.drew.cell 6 rfl
        have HO0 : Hid (OwnU (w9.heap.size + 1) wr.drew (.slice pu us.length cu) us) := Lib.hid (World.ownsRow.drew HO.out)
        have HR0 : Hid (Rdr wr.drew w2.heap.size ls false (.slice p ls.length cap)) := Lib.hid (HR.out.low ((Below.refl _ wr).drew))
        go_wp2_with fail
        refine wp_region_heldX (fun w' => w'.cell? ⟨w9.heap.size, 6, none⟩ = some (.slice pu us.length cu)) [10] hmo ?_
        refine HeldX.move 0 (v := .pointer (some ⟨w9.heap.size, 6, none⟩)) rfl (by kernel_rfl) (by kernel_rfl) (by kernel_rfl) (by kernel_rfl) (fun _ _ _ h => h) S4 (.inl ⟨by kernel_rfl, fun w h => by go_simp⟩) ?_
        go_simp
        refine HeldX.take 1 (v := .slice pu us.length cu) rfl (by kernel_rfl) (by kernel_rfl) (by kernel_rfl) (by kernel_rfl) (fun _ _ _ h => h) S4 (.inl ⟨by kernel_rfl, fun w h => by have h1 := h; go_simp⟩) ?_
        go_simp
        refine HeldX.move 2 (v := .pointer (some ⟨w2.heap.size, 0, none⟩)) rfl (by kernel_rfl) (by kernel_rfl) (by kernel_rfl) (by kernel_rfl) (fun _ _ _ h => h) S4 (.inl ⟨by kernel_rfl, fun w h => by go_simp⟩) ?_
        go_simp
        refine HeldX.move 4 (v := .pointer (some ⟨w2.heap.size, 0, none⟩)) rfl (by kernel_rfl) (by kernel_rfl) (by kernel_rfl) (by kernel_rfl) (fun _ _ _ h => h) S4 (.inl ⟨by kernel_rfl, fun w h => by go_simp⟩) ?_
        go_simp
        refine HeldX.one 3 (by kernel_rfl) rfl (by kernel_rfl) (fun K hK => ?_)
        go_simp
        refine (next_any w2.heap.size ls false _ wr.drew HR0.out (by omega)).mono ?_
        rintro e u1 ⟨sx, bad1, v1, rfl, hsx, R1, hg1⟩
        have X1 := HX.out.drew.grown hg1 hne9
        have A1 := HA.out.drew.grown hg1 hne
        have O1 := HO0.out.grown (by omega) hg1
        have B1 := HB.out.drew.grown hg1 HB.out.size hgk
        refine hK _ _ (X1.cell 6 rfl) ?_
        clear hK K S4
        have s1 := hg1.size
        clear hg1
        refine HeldX.one 5 (by kernel_rfl) rfl (by kernel_rfl) (fun K hK => ?_)
        go_simp
        refine (num_reads w2.heap.size ls.tail bad1 v1 u1 w R1 (by rw [List.length_tail]; omega) HP.out B1 hw2).mono ?_
        rintro e u2 ⟨nn, bad2, v2, rfl, R2, hg2⟩
        have X2 := X1.grown hg2 hne9
        have A2 := A1.grown hg2 hne
        have O2 := O1.grown (by omega) hg2
        have B2 := B1.grown hg2 B1.size hgk
        have s2 := hg2.size
        have S5 := X2.cell 6 rfl
        refine hK _ _ S5 ?_
        clear hK K R1 X1 A1 O1 B1 hg2
        refine HeldX.move 6 (v := .agg #[.string ⟨sx.toArray⟩, .int .i64 nn]) rfl (by kernel_rfl) (by kernel_rfl) (by kernel_rfl) (by kernel_rfl) (fun _ _ _ h => h) S5 (.inl ⟨by kernel_rfl, fun w h => by go_simp⟩) ?_
        go_simp
        refine HeldX.one 7 (by kernel_rfl) rfl (by kernel_rfl) (fun K hK => ?_)
        go_simp
        have hbu := (Below.refl u2.heap.size u2).alloc (Nat.le_refl _) (.cells #[.string ⟨sx.toArray⟩, .int .i64 nn] 76)
        have X3 := X2.low hbu
        have A3 := A2.low hbu
        have O3 := O2.low hbu
        have B3 := B2.trans (hbu.mono B2.size)
        have R3 := R2.low hbu
        have hN : ∀ j x, (uC (sx, nn))[j]? = some x → (u2.alloc (.cells #[.string ⟨sx.toArray⟩, .int .i64 nn] 76)).cell? ((⟨u2.heap.size, 0, none⟩ : Addr).add j) = some x := World.news_of_block (World.alloc_heap_new u2 (.cells #[.string ⟨sx.toArray⟩, .int .i64 nn] 76))
        have s3 : (u2.alloc (.cells #[.string ⟨sx.toArray⟩, .int .i64 nn] 76)).heap.size = u2.heap.size + 1 := by simp
        have hs1 : wr.drew.heap.size = wr.heap.size := rfl
        refine hK _ _ (X3.cell 6 rfl) ?_
        clear hK K S5 X2 A2 O2 B2 R2 hbu
        generalize u2.alloc (.cells #[.string ⟨sx.toArray⟩, .int .i64 nn] 76) = u3 at *
        obtain ⟨pn, nx, cx, u4, hr, O4, hg4⟩ := O3.append (by omega) (by omega) (sx, nn) u2.heap.size hN
        rw [appAboveParse_fold] at hr
        have hok : ∀ k, (Value.slice pu us.length cu).ownBlock = some k → w9.heap.size + 1 ≤ k := fun k e => (World.ownsRow.lt O3 k e).1
        have X4 := X3.grown hg4 (fun e => by have := hok _ e; omega)
        have A4 := A3.grown hg4 (fun e => by have := hok _ e; omega)
        have B4 := B3.grown hg4 B3.size (fun k e => by have := hok k e; omega)
        have R4 := R3.kept hg4 (fun k e => by have := hok k e; omega)
        have s4 := hg4.size
        have S6 := X4.cell 6 rfl
        clear X3 A3 B3 R3 hN
        refine HeldX.one 8 (by kernel_rfl) rfl (by kernel_rfl) (fun K hK => ?_)
        go_simp
        refine hK _ _ S6 ?_
        clear hK K hr O3 hg4
        have f6 := X4.froz 6 (by simp)
        have x6 := X4.size
        refine HeldX.move 9 (v := .pointer (some ⟨w9.heap.size, 6, none⟩)) rfl (by kernel_rfl) (by kernel_rfl) (by kernel_rfl) (by kernel_rfl) (fun _ _ _ h => h) S6 (.inl ⟨by kernel_rfl, fun w h => by go_simp⟩) ?_
        go_simp
        refine HeldX.last 10 (by kernel_rfl) (by kernel_rfl) rfl (by kernel_rfl) (fun K hK => ?_)
        go_simp
        refine hK _ _ ?_
        clear hK K
        have X5 := X4.set 6 (by simp) (.slice pn nx cx)
        have G5 := gb_set u4 w9.heap.size 6 (.slice pn nx cx)
        have O5 := O4.grown (g := w9.heap.size) (by omega) G5
        have R5 := R4.kept G5 (fun k e => by injection e with e; omega)
        have A5 := A4.far (b := w9.heap.size) (by omega) 6 (.slice pn nx cx)
        have B5 := B4.setCell (p := ⟨w9.heap.size, 6, none⟩) (by show w.heap.size ≤ w9.heap.size; omega) (.slice pn nx cx)
        have s5 := G5.size
        clear S6 f6 x6 X4 O4 R4 A4 B4 G5
        generalize u4.setCell ⟨w9.heap.size, 6, none⟩ (.slice pn nx cx) = u5 at *
        refine HeldX.done (by kernel_rfl) ?_ _
        go_wp2_with fail
        go_roundg ls.tail.tail.length
        case rel => exact ⟨ls.tail.tail, bad2, v2, .slice pn nx cx, us ++ [(sx, nn)], rfl, by rw [List.length_append, List.length_tail, List.length_tail]; simp; omega, Lib.hid R5, Lib.hid X5, Lib.hid O5, Lib.hid (fun u hu => by
          rcases List.mem_append.1 hu with h | h
          · exact HU.out u h
          · rw [List.mem_singleton.1 h]; exact hsx), Lib.hid A5, Lib.hid B5, by omega⟩
        case measure => simp only [List.length_tail]; omega
end Above
end Go.Proofs.YtbgjoefpnjgdkaaDoor
