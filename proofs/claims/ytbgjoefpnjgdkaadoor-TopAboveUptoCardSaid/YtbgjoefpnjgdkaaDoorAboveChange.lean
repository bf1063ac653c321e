/- power.Change. -/
import Derived.Test.YtbgjoefpnjgdkaaDoorAboveCheck
import Derived.Test.YtbgjoefpnjgdkaaDoorAboveRead
import Derived.Test.YtbgjoefpnjgdkaaDoorAboveSeq
import Derived.Test.YtbgjoefpnjgdkaaDoorHeldOut
import Derived.Test.YtbgjoefpnjgdkaaDoorHeldInX
import Derived.Deep.CutRange
namespace Go.Proofs.YtbgjoefpnjgdkaaDoor
open Go.RowKit Go.Shelf
set_option linter.unusedVariables false
set_option linter.unusedSimpArgs false
set_option maxRecDepth 100000
attribute [local go_sem] Oper.semAt_some
namespace Above
open Named
theorem changed_maker (n0 n1 n2 n3 n4 n5 m0 m1 m2 m3 m4 m5 : Int) (pu pt : Option Addr) (cu ct : Nat) (us ts : List (List UInt8 × Int)) (w : World) :
    Calls Tryd.prog 78 #[.agg #[.int .i64 n0, .int .i64 n1, .int .i64 n2, .int .i64 n3, .int .i64 n4, .int .i64 n5, .slice pu us.length cu], .agg #[.int .i64 m0, .int .i64 m1, .int .i64 m2, .int .i64 m3, .int .i64 m4, .int .i64 m5, .slice pt ts.length ct]] w fun e w' => e = .returned (.func (.func 119) #[] #[.pointer (some ⟨w.heap.size, 0, none⟩), .pointer (some ⟨w.heap.size + 1, 0, none⟩)]) ∧
      w' = (w.alloc (.cells #[.int .i64 n0, .int .i64 n1, .int .i64 n2, .int .i64 n3, .int .i64 n4, .int .i64 n5, .slice pu us.length cu] 72)).alloc (.cells #[.int .i64 m0, .int .i64 m1, .int .i64 m2, .int .i64 m3, .int .i64 m4, .int .i64 m5, .slice pt ts.length ct] 72) := by
  go_enter Tryd.func78, Tryd.ntmps78
  go_wp2_with fail
  go_ret
  exact ⟨rfl, rfl⟩

theorem keepsO {W W' : World} (hb : Below W.heap.size W W') : KeepsOthers W W' :=
  KeepsOthers.of_grownBy (row := none) ⟨hb.os, hb.tape, hb.output, hb.size, fun k hk _ => hb.block k hk⟩ (fun j o e => by cases e)
/-- what lies there while Change runs -/
structure ChF (w : World) (LA LB : List Value) (x : List UInt8) (c hv : Int) (NA NB : List Value) (g7 g8 g9 : Nat) (wr : World) : Prop where
  a : Blk wr w.heap.size LA
  b : Blk wr (w.heap.size + 1) LB
  u : Blk wr (w.heap.size + 1 + 1) [.string ⟨x.toArray⟩]
  r : Blk wr (w.heap.size + 1 + 1 + 1) [.int .i64 c]
  h : Blk wr g7 [.int .i64 hv]
  n8 : Blk wr g8 NA
  n9 : Blk wr g9 NB
  o7 : w.heap.size + 3 < g7
  o8 : g7 < g8
  o9 : g7 < g9
  below : Below w.heap.size w wr
theorem ChF.low {w : World} {LA LB : List Value} {x : List UInt8} {c hv : Int} {NA NB : List Value} {g7 g8 g9 : Nat} {wr wr' : World} (h : ChF w LA LB x c hv NA NB g7 g8 g9 wr) (hb : Below wr.heap.size wr wr') : ChF w LA LB x c hv NA NB g7 g8 g9 wr' :=
  ⟨h.a.low hb, h.b.low hb, h.u.low hb, h.r.low hb, h.h.low hb, h.n8.low hb, h.n9.low hb, h.o7, h.o8, h.o9, h.below.trans (hb.mono h.below.size)⟩
def six (w : World) (g : Nat) (a b c d e f : Value) : World := (((((w.setCell ⟨g, 0, none⟩ a).setCell ⟨g, 1, none⟩ b).setCell ⟨g, 2, none⟩ c).setCell ⟨g, 3, none⟩ d).setCell ⟨g, 4, none⟩ e).setCell ⟨g, 5, none⟩ f
theorem six_cells {w : World} {g : Nat} {a b c d e f : Value} (h : Blk w g [a, b, c, d, e, f]) : w.cell? ⟨g, 0, none⟩ = some a ∧ w.frozen? ⟨g, 0, none⟩ = false ∧ w.cell? ⟨g, 1, none⟩ = some b ∧ w.frozen? ⟨g, 1, none⟩ = false ∧ w.cell? ⟨g, 2, none⟩ = some c ∧ w.frozen? ⟨g, 2, none⟩ = false ∧
    w.cell? ⟨g, 3, none⟩ = some d ∧ w.frozen? ⟨g, 3, none⟩ = false ∧ w.cell? ⟨g, 4, none⟩ = some e ∧ w.frozen? ⟨g, 4, none⟩ = false ∧ w.cell? ⟨g, 5, none⟩ = some f ∧ w.frozen? ⟨g, 5, none⟩ = false ∧ g < w.heap.size :=
  ⟨h.cell 0 rfl, h.froz 0 (by simp), h.cell 1 rfl, h.froz 1 (by simp), h.cell 2 rfl, h.froz 2 (by simp), h.cell 3 rfl, h.froz 3 (by simp), h.cell 4 rfl, h.froz 4 (by simp), h.cell 5 rfl, h.froz 5 (by simp), h.size⟩
theorem six_blk {w : World} {g : Nat} {z0 z1 z2 z3 z4 z5 : Value} (h : Blk w g [z0, z1, z2, z3, z4, z5]) (a b c d e f : Value) : Blk (six w g a b c d e f) g [a, b, c, d, e, f] :=
  (((((h.set 0 (by simp) a).set 1 (by simp) b).set 2 (by simp) c).set 3 (by simp) d).set 4 (by simp) e).set 5 (by simp) f
theorem six_gb (w : World) (g : Nat) (a b c d e f : Value) : w.grownBy (six w g a b c d e f) (some g) :=
  gb_trans (gb_trans (gb_trans (gb_trans (gb_trans (gb_set _ _ _ _) (gb_set _ _ _ _)) (gb_set _ _ _ _)) (gb_set _ _ _ _)) (gb_set _ _ _ _)) (gb_set _ _ _ _)
/-- what Change has found when it says yes -/
def chOk (n0 m0 : Int) (us ts : List (List UInt8 × Int)) (x : List UInt8) : Prop := (n0 = m0 ∨ m0 ≤ ofL n0 us x) ∧ ∀ y ∈ changedL us ts, ofL m0 ts y ≤ ofL n0 us x

def noPanic (Q : Exit → Act → World → Prop) : Exit → Act → World → Prop
  | .panic _, _, _ => False
  | .normal, a, w => Q .normal a w
  | .ret, a, w => Q .ret a w
  | .exit i, a, w => Q (.exit i) a w
  | .goto i, a, w => Q (.goto i) a w
  | .outgrown, a, w => Q .outgrown a w
theorem noPanic_le {Q : Exit → Act → World → Prop} : ∀ e a w, noPanic Q e a w → Q e a w := by
  intro e a w h
  cases e <;> first | exact h | exact False.elim h

set_option maxHeartbeats 32000000 in
theorem change_any (n0 n1 n2 n3 n4 n5 m0 m1 m2 m3 m4 m5 : Int) (va vb : Value) (us ts : List (List UInt8 × Int)) (x : List UInt8) (w : World)
    (hu : LRow w va us) (ht : LRow w vb ts) (hul : us.length ≤ 1048577) (htl : ts.length ≤ 1048577) (huu : ∀ u ∈ us, u.1.length ≤ 1048576) (htt : ∀ u ∈ ts, u.1.length ≤ 1048576) (hV : Vars w) :
    Calls Tryd.prog 30 #[levV n0 n1 n2 n3 n4 n5 va, levV m0 m1 m2 m3 m4 m5 vb, .string ⟨x.toArray⟩] w fun e w' => (∃ c : Int, e = .returned (.int .i64 c) ∧ (c = 0 → chOk n0 m0 us ts x)) ∧ Below w.heap.size w w' := by
  obtain ⟨pu, cu, rfl⟩ := hu.form
  obtain ⟨pt, ct, rfl⟩ := ht.form
  have HU := Lib.hid hu
  have HT := Lib.hid ht
  have HCA := Lib.hid (fun w' (hb : Below w.heap.size w w') => check_some n0 n1 n2 n3 n4 n5 _ us w' (hu.low hb) hul huu (hV.low hb))
  have HCB := Lib.hid (fun w' (hb : Below w.heap.size w w') => check_some m0 m1 m2 m3 m4 m5 _ ts w' (ht.low hb) htl htt (hV.low hb))
  have HFA := Lib.hid (fun y w' (hb : Below w.heap.size w w') => ofL_any n0 n1 n2 n3 n4 n5 _ us y w' (hu.low hb) hul)
  have HFB := Lib.hid (fun y w' (hb : Below w.heap.size w w') => ofL_any m0 m1 m2 m3 m4 m5 _ ts y w' (ht.low hb) htl)
  have HNA := Lib.hid (fun w' => of_any n0 n1 n2 n3 n4 n5 (.slice pu us.length cu) w')
  have HNB := Lib.hid (fun w' => of_any m0 m1 m2 m3 m4 m5 (.slice pt ts.length ct) w')
  unfold levV at *
  clear hu ht hV
  have A := (((Blk.new w #[.int .i64 n0, .int .i64 n1, .int .i64 n2, .int .i64 n3, .int .i64 n4, .int .i64 n5, .slice pu us.length cu] 72).alloc (.cells #[.int .i64 m0, .int .i64 m1, .int .i64 m2, .int .i64 m3, .int .i64 m4, .int .i64 m5, .slice pt ts.length ct] 72)).alloc (.cells #[.string ⟨x.toArray⟩] 9)).alloc (.cells #[.int .i64 0] 24)
  have Bb := ((Blk.new (w.alloc (.cells #[.int .i64 n0, .int .i64 n1, .int .i64 n2, .int .i64 n3, .int .i64 n4, .int .i64 n5, .slice pu us.length cu] 72)) #[.int .i64 m0, .int .i64 m1, .int .i64 m2, .int .i64 m3, .int .i64 m4, .int .i64 m5, .slice pt ts.length ct] 72).alloc (.cells #[.string ⟨x.toArray⟩] 9)).alloc (.cells #[.int .i64 0] 24)
  have U := (Blk.new ((w.alloc (.cells #[.int .i64 n0, .int .i64 n1, .int .i64 n2, .int .i64 n3, .int .i64 n4, .int .i64 n5, .slice pu us.length cu] 72)).alloc (.cells #[.int .i64 m0, .int .i64 m1, .int .i64 m2, .int .i64 m3, .int .i64 m4, .int .i64 m5, .slice pt ts.length ct] 72)) #[.string ⟨x.toArray⟩] 9).alloc (.cells #[.int .i64 0] 24)
  have R := Blk.new (((w.alloc (.cells #[.int .i64 n0, .int .i64 n1, .int .i64 n2, .int .i64 n3, .int .i64 n4, .int .i64 n5, .slice pu us.length cu] 72)).alloc (.cells #[.int .i64 m0, .int .i64 m1, .int .i64 m2, .int .i64 m3, .int .i64 m4, .int .i64 m5, .slice pt ts.length ct] 72)).alloc (.cells #[.string ⟨x.toArray⟩] 9)) #[.int .i64 0] 24
  have B := ((((Below.refl w.heap.size w).alloc (Nat.le_refl _) (.cells #[.int .i64 n0, .int .i64 n1, .int .i64 n2, .int .i64 n3, .int .i64 n4, .int .i64 n5, .slice pu us.length cu] 72)).alloc (by simp) (.cells #[.int .i64 m0, .int .i64 m1, .int .i64 m2, .int .i64 m3, .int .i64 m4, .int .i64 m5, .slice pt ts.length ct] 72)).alloc (by simp; omega) (.cells #[.string ⟨x.toArray⟩] 9)).alloc (by simp; omega) (.cells #[.int .i64 0] 24)
  simp only [World.size_alloc] at Bb U R
  refine callsIn_wide (n := 9).1 ?_
  refine callsIn_of_wp_marks Tryd.func30 rfl trivial ?_ rfl
  refine wpIn_wide.2 ?_
  refine wp_mono (Q := noPanic (bodyPostM Fence.wide 9 Tryd.prog Tryd.f30 _)) ?_ noPanic_le
  simp only [Tryd.ntmps30, List.size_toArray, List.length_cons, List.length_nil, Nat.reduceAdd, Nat.reduceSub, Array.replicate_succ, Array.replicate_zero, List.push_toArray, List.append_toArray, List.nil_append, List.cons_append]
  go_wp2_with fail
  generalize ((((w.alloc (.cells #[.int .i64 n0, .int .i64 n1, .int .i64 n2, .int .i64 n3, .int .i64 n4, .int .i64 n5, .slice pu us.length cu] 72)).alloc (.cells #[.int .i64 m0, .int .i64 m1, .int .i64 m2, .int .i64 m3, .int .i64 m4, .int .i64 m5, .slice pt ts.length ct] 72)).alloc (.cells #[.string ⟨x.toArray⟩] 9)).alloc (.cells #[.int .i64 0] 24)) = w1 at *
  refine (HCA.out _ B).mono ?_
  rintro e w2 ⟨⟨c1, rfl⟩, hb⟩
  have A := A.low hb
  have Bb := Bb.low hb
  have U := U.low hb
  have R := R.low hb
  have B := B.trans (hb.mono B.size)
  clear hb
  have cR0 := R.cell 0 rfl
  have fR0 := R.froz 0 (by simp)
  have zR := R.size
  have cBb0 := Bb.cell 0 rfl
  have cBb1 := Bb.cell 1 rfl
  have cBb2 := Bb.cell 2 rfl
  have cBb3 := Bb.cell 3 rfl
  have cBb4 := Bb.cell 4 rfl
  have cBb5 := Bb.cell 5 rfl
  have cBb6 := Bb.cell 6 rfl
  by_cases hc1 : c1 = 0
  rotate_left
  next =>
    have hd : (c1 == 0) = false := by simpa using hc1
    go_wp2_with fail
    have R9 := R.set 0 (by simp) (.int .i64 2)
    have B9 := B.setCell (p := ⟨w.heap.size + 1 + 1 + 1, 0, none⟩) (by show w.heap.size ≤ w.heap.size + 1 + 1 + 1; omega) (.int .i64 2)
    generalize (w2.setCell ⟨w.heap.size + 1 + 1 + 1, 0, none⟩ (.int .i64 2)) = w9 at *
    have d0 := R9.cell 0 rfl
    show bodyPostM _ _ _ _ _ Exit.ret _ _
    refine ⟨.int .i64 2, by simp [results, Tryd.f30, go_sem, d0], ⟨2, rfl, fun h => absurd h (by decide)⟩, B9⟩
  subst hc1
  go_wp2_with fail
  clear cR0 fR0 zR cBb0 cBb1 cBb2 cBb3 cBb4 cBb5 cBb6
  refine (HCB.out _ B).mono ?_
  rintro e w3 ⟨⟨c2, rfl⟩, hb⟩
  have A := A.low hb
  have Bb := Bb.low hb
  have U := U.low hb
  have R := R.low hb
  have B := B.trans (hb.mono B.size)
  clear hb
  have cR0 := R.cell 0 rfl
  have fR0 := R.froz 0 (by simp)
  have zR := R.size
  have cA0 := A.cell 0 rfl
  have cA1 := A.cell 1 rfl
  have cA2 := A.cell 2 rfl
  have cA3 := A.cell 3 rfl
  have cA4 := A.cell 4 rfl
  have cA5 := A.cell 5 rfl
  have cA6 := A.cell 6 rfl
  have cU0 := U.cell 0 rfl
  by_cases hc2 : c2 = 0
  rotate_left
  next =>
    have hd : (c2 == 0) = false := by simpa using hc2
    go_wp2_with fail
    have R9 := R.set 0 (by simp) (.int .i64 2)
    have B9 := B.setCell (p := ⟨w.heap.size + 1 + 1 + 1, 0, none⟩) (by show w.heap.size ≤ w.heap.size + 1 + 1 + 1; omega) (.int .i64 2)
    generalize (w3.setCell ⟨w.heap.size + 1 + 1 + 1, 0, none⟩ (.int .i64 2)) = w9 at *
    have d0 := R9.cell 0 rfl
    show bodyPostM _ _ _ _ _ Exit.ret _ _
    refine ⟨.int .i64 2, by simp [results, Tryd.f30, go_sem, d0], ⟨2, rfl, fun h => absurd h (by decide)⟩, B9⟩
  subst hc2
  go_wp2_with fail
  clear cR0 fR0 zR cA0 cA1 cA2 cA3 cA4 cA5 cA6 cU0
  refine (HFA.out x _ B).mono ?_
  rintro e w4 ⟨rfl, hb⟩
  have A := A.low hb
  have Bb := Bb.low hb
  have U := U.low hb
  have R := R.low hb
  have B := B.trans (hb.mono B.size)
  clear hb
  go_wp2_with fail
  have V := Blk.new w4 #[.int .i64 (ofL n0 us x)] 3
  have qR := R.size
  have hbv := (Below.refl w4.heap.size w4).alloc (Nat.le_refl _) (.cells #[.int .i64 (ofL n0 us x)] 3)
  have A := A.low hbv
  have Bb := Bb.low hbv
  have U := U.low hbv
  have R := R.low hbv
  have B := B.trans (hbv.mono B.size)
  clear hbv
  generalize w4.alloc (.cells #[.int .i64 (ofL n0 us x)] 3) = w5 at *
  generalize w4.heap.size = g7 at *
  have hmo : Tryd.prog.follows .mixedOrders = true := by kernel_rfl
  go_cut [8, 9] from 24 to 27 (fun p8 p9 wx => ∃ g8 g9 : Nat, p8 = .pointer (some ⟨g8, 0, none⟩) ∧ p9 = .pointer (some ⟨g9, 0, none⟩) ∧ ChF w [.int .i64 n0, .int .i64 n1, .int .i64 n2, .int .i64 n3, .int .i64 n4, .int .i64 n5, .slice pu us.length cu] [.int .i64 m0, .int .i64 m1, .int .i64 m2, .int .i64 m3, .int .i64 m4, .int .i64 m5, .slice pt ts.length ct] x 0 (ofL n0 us x) [.int .i64 n0, .int .i64 n1, .int .i64 n2, .int .i64 n3, .int .i64 n4, .int .i64 n5] [.int .i64 m0, .int .i64 m1, .int .i64 m2, .int .i64 m3, .int .i64 m4, .int .i64 m5] g7 g8 g9 wx)
  case first =>
    have A := A.drew
    have Bb := Bb.drew
    have U := U.drew
    have R := R.drew
    have V := V.drew
    have B := B.drew
    have S4 : (fun w' => w'.cell? ⟨w.heap.size, 0, none⟩ = some (.int .i64 n0) ∧ w'.cell? ⟨w.heap.size, 1, none⟩ = some (.int .i64 n1) ∧ w'.cell? ⟨w.heap.size, 2, none⟩ = some (.int .i64 n2) ∧ w'.cell? ⟨w.heap.size, 3, none⟩ = some (.int .i64 n3) ∧ w'.cell? ⟨w.heap.size, 4, none⟩ = some (.int .i64 n4) ∧ w'.cell? ⟨w.heap.size, 5, none⟩ = some (.int .i64 n5) ∧ w'.cell? ⟨w.heap.size, 6, none⟩ = some (.slice pu us.length cu) ∧ w'.cell? ⟨w.heap.size + 1, 0, none⟩ = some (.int .i64 m0) ∧ w'.cell? ⟨w.heap.size + 1, 1, none⟩ = some (.int .i64 m1) ∧ w'.cell? ⟨w.heap.size + 1, 2, none⟩ = some (.int .i64 m2) ∧ w'.cell? ⟨w.heap.size + 1, 3, none⟩ = some (.int .i64 m3) ∧ w'.cell? ⟨w.heap.size + 1, 4, none⟩ = some (.int .i64 m4) ∧ w'.cell? ⟨w.heap.size + 1, 5, none⟩ = some (.int .i64 m5) ∧ w'.cell? ⟨w.heap.size + 1, 6, none⟩ = some (.slice pt ts.length ct)) w5.drew := ⟨A.cell 0 rfl, A.cell 1 rfl, A.cell 2 rfl, A.cell 3 rfl, A.cell 4 rfl, A.cell 5 rfl, A.cell 6 rfl, Bb.cell 0 rfl, Bb.cell 1 rfl, Bb.cell 2 rfl, Bb.cell 3 rfl, Bb.cell 4 rfl, Bb.cell 5 rfl, Bb.cell 6 rfl⟩
    refine wp_region_heldX (fun w' => w'.cell? ⟨w.heap.size, 0, none⟩ = some (.int .i64 n0) ∧ w'.cell? ⟨w.heap.size, 1, none⟩ = some (.int .i64 n1) ∧ w'.cell? ⟨w.heap.size, 2, none⟩ = some (.int .i64 n2) ∧ w'.cell? ⟨w.heap.size, 3, none⟩ = some (.int .i64 n3) ∧ w'.cell? ⟨w.heap.size, 4, none⟩ = some (.int .i64 n4) ∧ w'.cell? ⟨w.heap.size, 5, none⟩ = some (.int .i64 n5) ∧ w'.cell? ⟨w.heap.size, 6, none⟩ = some (.slice pu us.length cu) ∧ w'.cell? ⟨w.heap.size + 1, 0, none⟩ = some (.int .i64 m0) ∧ w'.cell? ⟨w.heap.size + 1, 1, none⟩ = some (.int .i64 m1) ∧ w'.cell? ⟨w.heap.size + 1, 2, none⟩ = some (.int .i64 m2) ∧ w'.cell? ⟨w.heap.size + 1, 3, none⟩ = some (.int .i64 m3) ∧ w'.cell? ⟨w.heap.size + 1, 4, none⟩ = some (.int .i64 m4) ∧ w'.cell? ⟨w.heap.size + 1, 5, none⟩ = some (.int .i64 m5) ∧ w'.cell? ⟨w.heap.size + 1, 6, none⟩ = some (.slice pt ts.length ct)) [6] hmo ?_
    generalize w5.drew = wd at *
    refine HeldX.take 0 (v := .agg #[.int .i64 n0, .int .i64 n1, .int .i64 n2, .int .i64 n3, .int .i64 n4, .int .i64 n5, .slice pu us.length cu]) rfl (by kernel_rfl) (by kernel_rfl) (by kernel_rfl) (by kernel_rfl) (fun _ _ _ h => h) S4 (.inl ⟨by kernel_rfl, fun w h => by have h0 := h.1; have h1 := h.2.1; have h2 := h.2.2.1; have h3 := h.2.2.2.1; have h4 := h.2.2.2.2.1; have h5 := h.2.2.2.2.2.1; have h6 := h.2.2.2.2.2.2.1; go_simp⟩) ?_
    go_simp
    refine HeldX.take 2 (v := .agg #[.int .i64 m0, .int .i64 m1, .int .i64 m2, .int .i64 m3, .int .i64 m4, .int .i64 m5, .slice pt ts.length ct]) rfl (by kernel_rfl) (by kernel_rfl) (by kernel_rfl) (by kernel_rfl) (fun _ _ _ h => h) S4 (.inl ⟨by kernel_rfl, fun w h => by have h7 := h.2.2.2.2.2.2.2.1; have h8 := h.2.2.2.2.2.2.2.2.1; have h9 := h.2.2.2.2.2.2.2.2.2.1; have h10 := h.2.2.2.2.2.2.2.2.2.2.1; have h11 := h.2.2.2.2.2.2.2.2.2.2.2.1; have h12 := h.2.2.2.2.2.2.2.2.2.2.2.2.1; have h13 := h.2.2.2.2.2.2.2.2.2.2.2.2.2; go_simp⟩) ?_
    go_simp
    refine HeldX.all [1, 4, 5] (by kernel_rfl) (by simp) (HeldXAll.cons rfl (by kernel_rfl) (fun K hK => ?_) (HeldXAll.cons rfl (by kernel_rfl) (fun K hK => ?_) (HeldXAll.cons rfl (by kernel_rfl) (fun K hK => ?_) HeldXAll.nil)))
    · go_simp
      refine (HNA.out _).mono ?_
      rintro e v1 ⟨rfl, hb⟩
      have A := A.low hb
      have Bb := Bb.low hb
      have U := U.low hb
      have R := R.low hb
      have V := V.low hb
      have B := B.trans (hb.mono B.size)
      refine hK _ _ ⟨A.cell 0 rfl, A.cell 1 rfl, A.cell 2 rfl, A.cell 3 rfl, A.cell 4 rfl, A.cell 5 rfl, A.cell 6 rfl, Bb.cell 0 rfl, Bb.cell 1 rfl, Bb.cell 2 rfl, Bb.cell 3 rfl, Bb.cell 4 rfl, Bb.cell 5 rfl, Bb.cell 6 rfl⟩ ?_
      clear hK K hb
      refine HeldX.all [3, 4, 5] (by kernel_rfl) (by simp) (HeldXAll.cons rfl (by kernel_rfl) (fun K hK => ?_) (HeldXAll.cons rfl (by kernel_rfl) (fun K hK => ?_) (HeldXAll.cons rfl (by kernel_rfl) (fun K hK => ?_) HeldXAll.nil)))
      · go_simp
        refine (HNB.out _).mono ?_
        rintro e v2 ⟨rfl, hb⟩
        have A := A.low hb
        have Bb := Bb.low hb
        have U := U.low hb
        have R := R.low hb
        have V := V.low hb
        have B := B.trans (hb.mono B.size)
        refine hK _ _ ⟨A.cell 0 rfl, A.cell 1 rfl, A.cell 2 rfl, A.cell 3 rfl, A.cell 4 rfl, A.cell 5 rfl, A.cell 6 rfl, Bb.cell 0 rfl, Bb.cell 1 rfl, Bb.cell 2 rfl, Bb.cell 3 rfl, Bb.cell 4 rfl, Bb.cell 5 rfl, Bb.cell 6 rfl⟩ ?_
        clear hK K hb
        refine HeldX.all [4, 5] (by kernel_rfl) (by simp) (HeldXAll.cons rfl (by kernel_rfl) (fun K hK => ?_) (HeldXAll.cons rfl (by kernel_rfl) (fun K hK => ?_) HeldXAll.nil))
        · go_simp
          have hb := (Below.refl v2.heap.size v2).alloc (Nat.le_refl _) (.cells #[.int .i64 0, .int .i64 0, .int .i64 0, .int .i64 0, .int .i64 0, .int .i64 0] 162)
          have N8 := Blk.new v2 #[.int .i64 0, .int .i64 0, .int .i64 0, .int .i64 0, .int .i64 0, .int .i64 0] 162
          have sA3 := A.size
          have sBb3 := Bb.size
          have sU3 := U.size
          have sR3 := R.size
          have sV3 := V.size
          have A := A.low hb
          have Bb := Bb.low hb
          have U := U.low hb
          have R := R.low hb
          have V := V.low hb
          have B := B.trans (hb.mono B.size)
          refine hK _ _ ⟨A.cell 0 rfl, A.cell 1 rfl, A.cell 2 rfl, A.cell 3 rfl, A.cell 4 rfl, A.cell 5 rfl, A.cell 6 rfl, Bb.cell 0 rfl, Bb.cell 1 rfl, Bb.cell 2 rfl, Bb.cell 3 rfl, Bb.cell 4 rfl, Bb.cell 5 rfl, Bb.cell 6 rfl⟩ ?_
          clear hK K hb
          generalize (v2.alloc (.cells #[.int .i64 0, .int .i64 0, .int .i64 0, .int .i64 0, .int .i64 0, .int .i64 0] 162)) = v3 at *
          generalize v2.heap.size = g8 at *
          refine HeldX.one 5 (by kernel_rfl) rfl (by kernel_rfl) (fun K hK => ?_)
          go_simp
          have hb := (Below.refl v3.heap.size v3).alloc (Nat.le_refl _) (.cells #[.int .i64 0, .int .i64 0, .int .i64 0, .int .i64 0, .int .i64 0, .int .i64 0] 162)
          have N9 := Blk.new v3 #[.int .i64 0, .int .i64 0, .int .i64 0, .int .i64 0, .int .i64 0, .int .i64 0] 162
          have sA4 := A.size
          have sBb4 := Bb.size
          have sU4 := U.size
          have sR4 := R.size
          have sV4 := V.size
          have sN84 := N8.size
          have A := A.low hb
          have Bb := Bb.low hb
          have U := U.low hb
          have R := R.low hb
          have V := V.low hb
          have N8 := N8.low hb
          have B := B.trans (hb.mono B.size)
          refine hK _ _ ⟨A.cell 0 rfl, A.cell 1 rfl, A.cell 2 rfl, A.cell 3 rfl, A.cell 4 rfl, A.cell 5 rfl, A.cell 6 rfl, Bb.cell 0 rfl, Bb.cell 1 rfl, Bb.cell 2 rfl, Bb.cell 3 rfl, Bb.cell 4 rfl, Bb.cell 5 rfl, Bb.cell 6 rfl⟩ ?_
          clear hK K hb
          generalize (v3.alloc (.cells #[.int .i64 0, .int .i64 0, .int .i64 0, .int .i64 0, .int .i64 0, .int .i64 0] 162)) = v4 at *
          generalize v3.heap.size = g9 at *
          obtain ⟨q0, r0, q1, r1, q2, r2, q3, r3, q4, r4, q5, r5, zq⟩ := six_cells N8
          refine HeldX.last 6 (by kernel_rfl) (by kernel_rfl) rfl (by kernel_rfl) (fun K hK => ?_)
          go_simp
          refine hK _ _ ?_
          clear hK K q0 q1 q2 q3 q4 q5 r0 r1 r2 r3 r4 r5 zq
          change HeldX _ _ _ _ _ _ _ _ _ (six v4 g8 (.int .i64 n0) (.int .i64 n1) (.int .i64 n2) (.int .i64 n3) (.int .i64 n4) (.int .i64 n5))
          have N8 := six_blk N8 (.int .i64 n0) (.int .i64 n1) (.int .i64 n2) (.int .i64 n3) (.int .i64 n4) (.int .i64 n5)
          have G := six_gb v4 g8 (.int .i64 n0) (.int .i64 n1) (.int .i64 n2) (.int .i64 n3) (.int .i64 n4) (.int .i64 n5)
          have B := B.grown G B.size (fun k e => by injection e with e; omega)
          have A := A.grown G (fun e => by injection e with e; omega)
          have Bb := Bb.grown G (fun e => by injection e with e; omega)
          have U := U.grown G (fun e => by injection e with e; omega)
          have R := R.grown G (fun e => by injection e with e; omega)
          have V := V.grown G (fun e => by injection e with e; omega)
          have N9 := N9.grown G (fun e => by injection e with e; omega)
          clear G
          generalize six v4 g8 (.int .i64 n0) (.int .i64 n1) (.int .i64 n2) (.int .i64 n3) (.int .i64 n4) (.int .i64 n5) = v5 at *
          obtain ⟨q0, r0, q1, r1, q2, r2, q3, r3, q4, r4, q5, r5, zq⟩ := six_cells N9
          refine HeldX.last 7 (by kernel_rfl) (by kernel_rfl) rfl (by kernel_rfl) (fun K hK => ?_)
          go_simp
          refine hK _ _ ?_
          clear hK K q0 q1 q2 q3 q4 q5 r0 r1 r2 r3 r4 r5 zq
          change HeldX _ _ _ _ _ _ _ _ _ (six v5 g9 (.int .i64 m0) (.int .i64 m1) (.int .i64 m2) (.int .i64 m3) (.int .i64 m4) (.int .i64 m5))
          have N9 := six_blk N9 (.int .i64 m0) (.int .i64 m1) (.int .i64 m2) (.int .i64 m3) (.int .i64 m4) (.int .i64 m5)
          have G := six_gb v5 g9 (.int .i64 m0) (.int .i64 m1) (.int .i64 m2) (.int .i64 m3) (.int .i64 m4) (.int .i64 m5)
          have B := B.grown G B.size (fun k e => by injection e with e; omega)
          have A := A.grown G (fun e => by injection e with e; omega)
          have Bb := Bb.grown G (fun e => by injection e with e; omega)
          have U := U.grown G (fun e => by injection e with e; omega)
          have R := R.grown G (fun e => by injection e with e; omega)
          have V := V.grown G (fun e => by injection e with e; omega)
          have N8 := N8.grown G (fun e => by injection e with e; omega)
          clear G
          generalize six v5 g9 (.int .i64 m0) (.int .i64 m1) (.int .i64 m2) (.int .i64 m3) (.int .i64 m4) (.int .i64 m5) = v6 at *
          refine HeldX.done (by kernel_rfl) ?_ _
          go_wp2_with fail
          go_meet
          exact ⟨g8, g9, rfl, rfl, A, Bb, U, R, V, N8, N9, by omega, by omega, by omega, B⟩
        · go_simp
          have hb := (Below.refl v2.heap.size v2).alloc (Nat.le_refl _) (.cells #[.int .i64 0, .int .i64 0, .int .i64 0, .int .i64 0, .int .i64 0, .int .i64 0] 162)
          have N9 := Blk.new v2 #[.int .i64 0, .int .i64 0, .int .i64 0, .int .i64 0, .int .i64 0, .int .i64 0] 162
          have sA7 := A.size
          have sBb7 := Bb.size
          have sU7 := U.size
          have sR7 := R.size
          have sV7 := V.size
          have A := A.low hb
          have Bb := Bb.low hb
          have U := U.low hb
          have R := R.low hb
          have V := V.low hb
          have B := B.trans (hb.mono B.size)
          refine hK _ _ ⟨A.cell 0 rfl, A.cell 1 rfl, A.cell 2 rfl, A.cell 3 rfl, A.cell 4 rfl, A.cell 5 rfl, A.cell 6 rfl, Bb.cell 0 rfl, Bb.cell 1 rfl, Bb.cell 2 rfl, Bb.cell 3 rfl, Bb.cell 4 rfl, Bb.cell 5 rfl, Bb.cell 6 rfl⟩ ?_
          clear hK K hb
          generalize (v2.alloc (.cells #[.int .i64 0, .int .i64 0, .int .i64 0, .int .i64 0, .int .i64 0, .int .i64 0] 162)) = v7 at *
          generalize v2.heap.size = g9 at *
          refine HeldX.one 4 (by kernel_rfl) rfl (by kernel_rfl) (fun K hK => ?_)
          go_simp
          have hb := (Below.refl v7.heap.size v7).alloc (Nat.le_refl _) (.cells #[.int .i64 0, .int .i64 0, .int .i64 0, .int .i64 0, .int .i64 0, .int .i64 0] 162)
          have N8 := Blk.new v7 #[.int .i64 0, .int .i64 0, .int .i64 0, .int .i64 0, .int .i64 0, .int .i64 0] 162
          have sA8 := A.size
          have sBb8 := Bb.size
          have sU8 := U.size
          have sR8 := R.size
          have sV8 := V.size
          have sN98 := N9.size
          have A := A.low hb
          have Bb := Bb.low hb
          have U := U.low hb
          have R := R.low hb
          have V := V.low hb
          have N9 := N9.low hb
          have B := B.trans (hb.mono B.size)
          refine hK _ _ ⟨A.cell 0 rfl, A.cell 1 rfl, A.cell 2 rfl, A.cell 3 rfl, A.cell 4 rfl, A.cell 5 rfl, A.cell 6 rfl, Bb.cell 0 rfl, Bb.cell 1 rfl, Bb.cell 2 rfl, Bb.cell 3 rfl, Bb.cell 4 rfl, Bb.cell 5 rfl, Bb.cell 6 rfl⟩ ?_
          clear hK K hb
          generalize (v7.alloc (.cells #[.int .i64 0, .int .i64 0, .int .i64 0, .int .i64 0, .int .i64 0, .int .i64 0] 162)) = v8 at *
          generalize v7.heap.size = g8 at *
          obtain ⟨q0, r0, q1, r1, q2, r2, q3, r3, q4, r4, q5, r5, zq⟩ := six_cells N8
          refine HeldX.last 6 (by kernel_rfl) (by kernel_rfl) rfl (by kernel_rfl) (fun K hK => ?_)
          go_simp
          refine hK _ _ ?_
          clear hK K q0 q1 q2 q3 q4 q5 r0 r1 r2 r3 r4 r5 zq
          change HeldX _ _ _ _ _ _ _ _ _ (six v8 g8 (.int .i64 n0) (.int .i64 n1) (.int .i64 n2) (.int .i64 n3) (.int .i64 n4) (.int .i64 n5))
          have N8 := six_blk N8 (.int .i64 n0) (.int .i64 n1) (.int .i64 n2) (.int .i64 n3) (.int .i64 n4) (.int .i64 n5)
          have G := six_gb v8 g8 (.int .i64 n0) (.int .i64 n1) (.int .i64 n2) (.int .i64 n3) (.int .i64 n4) (.int .i64 n5)
          have B := B.grown G B.size (fun k e => by injection e with e; omega)
          have A := A.grown G (fun e => by injection e with e; omega)
          have Bb := Bb.grown G (fun e => by injection e with e; omega)
          have U := U.grown G (fun e => by injection e with e; omega)
          have R := R.grown G (fun e => by injection e with e; omega)
          have V := V.grown G (fun e => by injection e with e; omega)
          have N9 := N9.grown G (fun e => by injection e with e; omega)
          clear G
          generalize six v8 g8 (.int .i64 n0) (.int .i64 n1) (.int .i64 n2) (.int .i64 n3) (.int .i64 n4) (.int .i64 n5) = v9 at *
          obtain ⟨q0, r0, q1, r1, q2, r2, q3, r3, q4, r4, q5, r5, zq⟩ := six_cells N9
          refine HeldX.last 7 (by kernel_rfl) (by kernel_rfl) rfl (by kernel_rfl) (fun K hK => ?_)
          go_simp
          refine hK _ _ ?_
          clear hK K q0 q1 q2 q3 q4 q5 r0 r1 r2 r3 r4 r5 zq
          change HeldX _ _ _ _ _ _ _ _ _ (six v9 g9 (.int .i64 m0) (.int .i64 m1) (.int .i64 m2) (.int .i64 m3) (.int .i64 m4) (.int .i64 m5))
          have N9 := six_blk N9 (.int .i64 m0) (.int .i64 m1) (.int .i64 m2) (.int .i64 m3) (.int .i64 m4) (.int .i64 m5)
          have G := six_gb v9 g9 (.int .i64 m0) (.int .i64 m1) (.int .i64 m2) (.int .i64 m3) (.int .i64 m4) (.int .i64 m5)
          have B := B.grown G B.size (fun k e => by injection e with e; omega)
          have A := A.grown G (fun e => by injection e with e; omega)
          have Bb := Bb.grown G (fun e => by injection e with e; omega)
          have U := U.grown G (fun e => by injection e with e; omega)
          have R := R.grown G (fun e => by injection e with e; omega)
          have V := V.grown G (fun e => by injection e with e; omega)
          have N8 := N8.grown G (fun e => by injection e with e; omega)
          clear G
          generalize six v9 g9 (.int .i64 m0) (.int .i64 m1) (.int .i64 m2) (.int .i64 m3) (.int .i64 m4) (.int .i64 m5) = v10 at *
          refine HeldX.done (by kernel_rfl) ?_ _
          go_wp2_with fail
          go_meet
          exact ⟨g8, g9, rfl, rfl, A, Bb, U, R, V, N8, N9, by omega, by omega, by omega, B⟩
      · go_simp
        have hb := (Below.refl v1.heap.size v1).alloc (Nat.le_refl _) (.cells #[.int .i64 0, .int .i64 0, .int .i64 0, .int .i64 0, .int .i64 0, .int .i64 0] 162)
        have N8 := Blk.new v1 #[.int .i64 0, .int .i64 0, .int .i64 0, .int .i64 0, .int .i64 0, .int .i64 0] 162
        have sA11 := A.size
        have sBb11 := Bb.size
        have sU11 := U.size
        have sR11 := R.size
        have sV11 := V.size
        have A := A.low hb
        have Bb := Bb.low hb
        have U := U.low hb
        have R := R.low hb
        have V := V.low hb
        have B := B.trans (hb.mono B.size)
        refine hK _ _ ⟨A.cell 0 rfl, A.cell 1 rfl, A.cell 2 rfl, A.cell 3 rfl, A.cell 4 rfl, A.cell 5 rfl, A.cell 6 rfl, Bb.cell 0 rfl, Bb.cell 1 rfl, Bb.cell 2 rfl, Bb.cell 3 rfl, Bb.cell 4 rfl, Bb.cell 5 rfl, Bb.cell 6 rfl⟩ ?_
        clear hK K hb
        generalize (v1.alloc (.cells #[.int .i64 0, .int .i64 0, .int .i64 0, .int .i64 0, .int .i64 0, .int .i64 0] 162)) = v11 at *
        generalize v1.heap.size = g8 at *
        refine HeldX.all [3, 5] (by kernel_rfl) (by simp) (HeldXAll.cons rfl (by kernel_rfl) (fun K hK => ?_) (HeldXAll.cons rfl (by kernel_rfl) (fun K hK => ?_) HeldXAll.nil))
        · go_simp
          refine (HNB.out _).mono ?_
          rintro e v12 ⟨rfl, hb⟩
          have A := A.low hb
          have Bb := Bb.low hb
          have U := U.low hb
          have R := R.low hb
          have V := V.low hb
          have N8 := N8.low hb
          have B := B.trans (hb.mono B.size)
          refine hK _ _ ⟨A.cell 0 rfl, A.cell 1 rfl, A.cell 2 rfl, A.cell 3 rfl, A.cell 4 rfl, A.cell 5 rfl, A.cell 6 rfl, Bb.cell 0 rfl, Bb.cell 1 rfl, Bb.cell 2 rfl, Bb.cell 3 rfl, Bb.cell 4 rfl, Bb.cell 5 rfl, Bb.cell 6 rfl⟩ ?_
          clear hK K hb
          refine HeldX.one 5 (by kernel_rfl) rfl (by kernel_rfl) (fun K hK => ?_)
          go_simp
          have hb := (Below.refl v12.heap.size v12).alloc (Nat.le_refl _) (.cells #[.int .i64 0, .int .i64 0, .int .i64 0, .int .i64 0, .int .i64 0, .int .i64 0] 162)
          have N9 := Blk.new v12 #[.int .i64 0, .int .i64 0, .int .i64 0, .int .i64 0, .int .i64 0, .int .i64 0] 162
          have sA13 := A.size
          have sBb13 := Bb.size
          have sU13 := U.size
          have sR13 := R.size
          have sV13 := V.size
          have sN813 := N8.size
          have A := A.low hb
          have Bb := Bb.low hb
          have U := U.low hb
          have R := R.low hb
          have V := V.low hb
          have N8 := N8.low hb
          have B := B.trans (hb.mono B.size)
          refine hK _ _ ⟨A.cell 0 rfl, A.cell 1 rfl, A.cell 2 rfl, A.cell 3 rfl, A.cell 4 rfl, A.cell 5 rfl, A.cell 6 rfl, Bb.cell 0 rfl, Bb.cell 1 rfl, Bb.cell 2 rfl, Bb.cell 3 rfl, Bb.cell 4 rfl, Bb.cell 5 rfl, Bb.cell 6 rfl⟩ ?_
          clear hK K hb
          generalize (v12.alloc (.cells #[.int .i64 0, .int .i64 0, .int .i64 0, .int .i64 0, .int .i64 0, .int .i64 0] 162)) = v13 at *
          generalize v12.heap.size = g9 at *
          obtain ⟨q0, r0, q1, r1, q2, r2, q3, r3, q4, r4, q5, r5, zq⟩ := six_cells N8
          refine HeldX.last 6 (by kernel_rfl) (by kernel_rfl) rfl (by kernel_rfl) (fun K hK => ?_)
          go_simp
          refine hK _ _ ?_
          clear hK K q0 q1 q2 q3 q4 q5 r0 r1 r2 r3 r4 r5 zq
          change HeldX _ _ _ _ _ _ _ _ _ (six v13 g8 (.int .i64 n0) (.int .i64 n1) (.int .i64 n2) (.int .i64 n3) (.int .i64 n4) (.int .i64 n5))
          have N8 := six_blk N8 (.int .i64 n0) (.int .i64 n1) (.int .i64 n2) (.int .i64 n3) (.int .i64 n4) (.int .i64 n5)
          have G := six_gb v13 g8 (.int .i64 n0) (.int .i64 n1) (.int .i64 n2) (.int .i64 n3) (.int .i64 n4) (.int .i64 n5)
          have B := B.grown G B.size (fun k e => by injection e with e; omega)
          have A := A.grown G (fun e => by injection e with e; omega)
          have Bb := Bb.grown G (fun e => by injection e with e; omega)
          have U := U.grown G (fun e => by injection e with e; omega)
          have R := R.grown G (fun e => by injection e with e; omega)
          have V := V.grown G (fun e => by injection e with e; omega)
          have N9 := N9.grown G (fun e => by injection e with e; omega)
          clear G
          generalize six v13 g8 (.int .i64 n0) (.int .i64 n1) (.int .i64 n2) (.int .i64 n3) (.int .i64 n4) (.int .i64 n5) = v14 at *
          obtain ⟨q0, r0, q1, r1, q2, r2, q3, r3, q4, r4, q5, r5, zq⟩ := six_cells N9
          refine HeldX.last 7 (by kernel_rfl) (by kernel_rfl) rfl (by kernel_rfl) (fun K hK => ?_)
          go_simp
          refine hK _ _ ?_
          clear hK K q0 q1 q2 q3 q4 q5 r0 r1 r2 r3 r4 r5 zq
          change HeldX _ _ _ _ _ _ _ _ _ (six v14 g9 (.int .i64 m0) (.int .i64 m1) (.int .i64 m2) (.int .i64 m3) (.int .i64 m4) (.int .i64 m5))
          have N9 := six_blk N9 (.int .i64 m0) (.int .i64 m1) (.int .i64 m2) (.int .i64 m3) (.int .i64 m4) (.int .i64 m5)
          have G := six_gb v14 g9 (.int .i64 m0) (.int .i64 m1) (.int .i64 m2) (.int .i64 m3) (.int .i64 m4) (.int .i64 m5)
          have B := B.grown G B.size (fun k e => by injection e with e; omega)
          have A := A.grown G (fun e => by injection e with e; omega)
          have Bb := Bb.grown G (fun e => by injection e with e; omega)
          have U := U.grown G (fun e => by injection e with e; omega)
          have R := R.grown G (fun e => by injection e with e; omega)
          have V := V.grown G (fun e => by injection e with e; omega)
          have N8 := N8.grown G (fun e => by injection e with e; omega)
          clear G
          generalize six v14 g9 (.int .i64 m0) (.int .i64 m1) (.int .i64 m2) (.int .i64 m3) (.int .i64 m4) (.int .i64 m5) = v15 at *
          refine HeldX.done (by kernel_rfl) ?_ _
          go_wp2_with fail
          go_meet
          exact ⟨g8, g9, rfl, rfl, A, Bb, U, R, V, N8, N9, by omega, by omega, by omega, B⟩
        · go_simp
          have hb := (Below.refl v11.heap.size v11).alloc (Nat.le_refl _) (.cells #[.int .i64 0, .int .i64 0, .int .i64 0, .int .i64 0, .int .i64 0, .int .i64 0] 162)
          have N9 := Blk.new v11 #[.int .i64 0, .int .i64 0, .int .i64 0, .int .i64 0, .int .i64 0, .int .i64 0] 162
          have sA16 := A.size
          have sBb16 := Bb.size
          have sU16 := U.size
          have sR16 := R.size
          have sV16 := V.size
          have sN816 := N8.size
          have A := A.low hb
          have Bb := Bb.low hb
          have U := U.low hb
          have R := R.low hb
          have V := V.low hb
          have N8 := N8.low hb
          have B := B.trans (hb.mono B.size)
          refine hK _ _ ⟨A.cell 0 rfl, A.cell 1 rfl, A.cell 2 rfl, A.cell 3 rfl, A.cell 4 rfl, A.cell 5 rfl, A.cell 6 rfl, Bb.cell 0 rfl, Bb.cell 1 rfl, Bb.cell 2 rfl, Bb.cell 3 rfl, Bb.cell 4 rfl, Bb.cell 5 rfl, Bb.cell 6 rfl⟩ ?_
          clear hK K hb
          generalize (v11.alloc (.cells #[.int .i64 0, .int .i64 0, .int .i64 0, .int .i64 0, .int .i64 0, .int .i64 0] 162)) = v16 at *
          generalize v11.heap.size = g9 at *
          refine HeldX.one 3 (by kernel_rfl) rfl (by kernel_rfl) (fun K hK => ?_)
          go_simp
          refine (HNB.out _).mono ?_
          rintro e v17 ⟨rfl, hb⟩
          have A := A.low hb
          have Bb := Bb.low hb
          have U := U.low hb
          have R := R.low hb
          have V := V.low hb
          have N8 := N8.low hb
          have N9 := N9.low hb
          have B := B.trans (hb.mono B.size)
          refine hK _ _ ⟨A.cell 0 rfl, A.cell 1 rfl, A.cell 2 rfl, A.cell 3 rfl, A.cell 4 rfl, A.cell 5 rfl, A.cell 6 rfl, Bb.cell 0 rfl, Bb.cell 1 rfl, Bb.cell 2 rfl, Bb.cell 3 rfl, Bb.cell 4 rfl, Bb.cell 5 rfl, Bb.cell 6 rfl⟩ ?_
          clear hK K hb
          obtain ⟨q0, r0, q1, r1, q2, r2, q3, r3, q4, r4, q5, r5, zq⟩ := six_cells N8
          refine HeldX.last 6 (by kernel_rfl) (by kernel_rfl) rfl (by kernel_rfl) (fun K hK => ?_)
          go_simp
          refine hK _ _ ?_
          clear hK K q0 q1 q2 q3 q4 q5 r0 r1 r2 r3 r4 r5 zq
          change HeldX _ _ _ _ _ _ _ _ _ (six v17 g8 (.int .i64 n0) (.int .i64 n1) (.int .i64 n2) (.int .i64 n3) (.int .i64 n4) (.int .i64 n5))
          have N8 := six_blk N8 (.int .i64 n0) (.int .i64 n1) (.int .i64 n2) (.int .i64 n3) (.int .i64 n4) (.int .i64 n5)
          have G := six_gb v17 g8 (.int .i64 n0) (.int .i64 n1) (.int .i64 n2) (.int .i64 n3) (.int .i64 n4) (.int .i64 n5)
          have B := B.grown G B.size (fun k e => by injection e with e; omega)
          have A := A.grown G (fun e => by injection e with e; omega)
          have Bb := Bb.grown G (fun e => by injection e with e; omega)
          have U := U.grown G (fun e => by injection e with e; omega)
          have R := R.grown G (fun e => by injection e with e; omega)
          have V := V.grown G (fun e => by injection e with e; omega)
          have N9 := N9.grown G (fun e => by injection e with e; omega)
          clear G
          generalize six v17 g8 (.int .i64 n0) (.int .i64 n1) (.int .i64 n2) (.int .i64 n3) (.int .i64 n4) (.int .i64 n5) = v18 at *
          obtain ⟨q0, r0, q1, r1, q2, r2, q3, r3, q4, r4, q5, r5, zq⟩ := six_cells N9
          refine HeldX.last 7 (by kernel_rfl) (by kernel_rfl) rfl (by kernel_rfl) (fun K hK => ?_)
          go_simp
          refine hK _ _ ?_
          clear hK K q0 q1 q2 q3 q4 q5 r0 r1 r2 r3 r4 r5 zq
          change HeldX _ _ _ _ _ _ _ _ _ (six v18 g9 (.int .i64 m0) (.int .i64 m1) (.int .i64 m2) (.int .i64 m3) (.int .i64 m4) (.int .i64 m5))
          have N9 := six_blk N9 (.int .i64 m0) (.int .i64 m1) (.int .i64 m2) (.int .i64 m3) (.int .i64 m4) (.int .i64 m5)
          have G := six_gb v18 g9 (.int .i64 m0) (.int .i64 m1) (.int .i64 m2) (.int .i64 m3) (.int .i64 m4) (.int .i64 m5)
          have B := B.grown G B.size (fun k e => by injection e with e; omega)
          have A := A.grown G (fun e => by injection e with e; omega)
          have Bb := Bb.grown G (fun e => by injection e with e; omega)
          have U := U.grown G (fun e => by injection e with e; omega)
          have R := R.grown G (fun e => by injection e with e; omega)
          have V := V.grown G (fun e => by injection e with e; omega)
          have N8 := N8.grown G (fun e => by injection e with e; omega)
          clear G
          generalize six v18 g9 (.int .i64 m0) (.int .i64 m1) (.int .i64 m2) (.int .i64 m3) (.int .i64 m4) (.int .i64 m5) = v19 at *
          refine HeldX.done (by kernel_rfl) ?_ _
          go_wp2_with fail
          go_meet
          exact ⟨g8, g9, rfl, rfl, A, Bb, U, R, V, N8, N9, by omega, by omega, by omega, B⟩
      · go_simp
        have hb := (Below.refl v1.heap.size v1).alloc (Nat.le_refl _) (.cells #[.int .i64 0, .int .i64 0, .int .i64 0, .int .i64 0, .int .i64 0, .int .i64 0] 162)
        have N9 := Blk.new v1 #[.int .i64 0, .int .i64 0, .int .i64 0, .int .i64 0, .int .i64 0, .int .i64 0] 162
        have sA20 := A.size
        have sBb20 := Bb.size
        have sU20 := U.size
        have sR20 := R.size
        have sV20 := V.size
        have A := A.low hb
        have Bb := Bb.low hb
        have U := U.low hb
        have R := R.low hb
        have V := V.low hb
        have B := B.trans (hb.mono B.size)
        refine hK _ _ ⟨A.cell 0 rfl, A.cell 1 rfl, A.cell 2 rfl, A.cell 3 rfl, A.cell 4 rfl, A.cell 5 rfl, A.cell 6 rfl, Bb.cell 0 rfl, Bb.cell 1 rfl, Bb.cell 2 rfl, Bb.cell 3 rfl, Bb.cell 4 rfl, Bb.cell 5 rfl, Bb.cell 6 rfl⟩ ?_
        clear hK K hb
        generalize (v1.alloc (.cells #[.int .i64 0, .int .i64 0, .int .i64 0, .int .i64 0, .int .i64 0, .int .i64 0] 162)) = v20 at *
        generalize v1.heap.size = g9 at *
        refine HeldX.all [3, 4] (by kernel_rfl) (by simp) (HeldXAll.cons rfl (by kernel_rfl) (fun K hK => ?_) (HeldXAll.cons rfl (by kernel_rfl) (fun K hK => ?_) HeldXAll.nil))
        · go_simp
          refine (HNB.out _).mono ?_
          rintro e v21 ⟨rfl, hb⟩
          have A := A.low hb
          have Bb := Bb.low hb
          have U := U.low hb
          have R := R.low hb
          have V := V.low hb
          have N9 := N9.low hb
          have B := B.trans (hb.mono B.size)
          refine hK _ _ ⟨A.cell 0 rfl, A.cell 1 rfl, A.cell 2 rfl, A.cell 3 rfl, A.cell 4 rfl, A.cell 5 rfl, A.cell 6 rfl, Bb.cell 0 rfl, Bb.cell 1 rfl, Bb.cell 2 rfl, Bb.cell 3 rfl, Bb.cell 4 rfl, Bb.cell 5 rfl, Bb.cell 6 rfl⟩ ?_
          clear hK K hb
          refine HeldX.one 4 (by kernel_rfl) rfl (by kernel_rfl) (fun K hK => ?_)
          go_simp
          have hb := (Below.refl v21.heap.size v21).alloc (Nat.le_refl _) (.cells #[.int .i64 0, .int .i64 0, .int .i64 0, .int .i64 0, .int .i64 0, .int .i64 0] 162)
          have N8 := Blk.new v21 #[.int .i64 0, .int .i64 0, .int .i64 0, .int .i64 0, .int .i64 0, .int .i64 0] 162
          have sA22 := A.size
          have sBb22 := Bb.size
          have sU22 := U.size
          have sR22 := R.size
          have sV22 := V.size
          have sN922 := N9.size
          have A := A.low hb
          have Bb := Bb.low hb
          have U := U.low hb
          have R := R.low hb
          have V := V.low hb
          have N9 := N9.low hb
          have B := B.trans (hb.mono B.size)
          refine hK _ _ ⟨A.cell 0 rfl, A.cell 1 rfl, A.cell 2 rfl, A.cell 3 rfl, A.cell 4 rfl, A.cell 5 rfl, A.cell 6 rfl, Bb.cell 0 rfl, Bb.cell 1 rfl, Bb.cell 2 rfl, Bb.cell 3 rfl, Bb.cell 4 rfl, Bb.cell 5 rfl, Bb.cell 6 rfl⟩ ?_
          clear hK K hb
          generalize (v21.alloc (.cells #[.int .i64 0, .int .i64 0, .int .i64 0, .int .i64 0, .int .i64 0, .int .i64 0] 162)) = v22 at *
          generalize v21.heap.size = g8 at *
          obtain ⟨q0, r0, q1, r1, q2, r2, q3, r3, q4, r4, q5, r5, zq⟩ := six_cells N8
          refine HeldX.last 6 (by kernel_rfl) (by kernel_rfl) rfl (by kernel_rfl) (fun K hK => ?_)
          go_simp
          refine hK _ _ ?_
          clear hK K q0 q1 q2 q3 q4 q5 r0 r1 r2 r3 r4 r5 zq
          change HeldX _ _ _ _ _ _ _ _ _ (six v22 g8 (.int .i64 n0) (.int .i64 n1) (.int .i64 n2) (.int .i64 n3) (.int .i64 n4) (.int .i64 n5))
          have N8 := six_blk N8 (.int .i64 n0) (.int .i64 n1) (.int .i64 n2) (.int .i64 n3) (.int .i64 n4) (.int .i64 n5)
          have G := six_gb v22 g8 (.int .i64 n0) (.int .i64 n1) (.int .i64 n2) (.int .i64 n3) (.int .i64 n4) (.int .i64 n5)
          have B := B.grown G B.size (fun k e => by injection e with e; omega)
          have A := A.grown G (fun e => by injection e with e; omega)
          have Bb := Bb.grown G (fun e => by injection e with e; omega)
          have U := U.grown G (fun e => by injection e with e; omega)
          have R := R.grown G (fun e => by injection e with e; omega)
          have V := V.grown G (fun e => by injection e with e; omega)
          have N9 := N9.grown G (fun e => by injection e with e; omega)
          clear G
          generalize six v22 g8 (.int .i64 n0) (.int .i64 n1) (.int .i64 n2) (.int .i64 n3) (.int .i64 n4) (.int .i64 n5) = v23 at *
          obtain ⟨q0, r0, q1, r1, q2, r2, q3, r3, q4, r4, q5, r5, zq⟩ := six_cells N9
          refine HeldX.last 7 (by kernel_rfl) (by kernel_rfl) rfl (by kernel_rfl) (fun K hK => ?_)
          go_simp
          refine hK _ _ ?_
          clear hK K q0 q1 q2 q3 q4 q5 r0 r1 r2 r3 r4 r5 zq
          change HeldX _ _ _ _ _ _ _ _ _ (six v23 g9 (.int .i64 m0) (.int .i64 m1) (.int .i64 m2) (.int .i64 m3) (.int .i64 m4) (.int .i64 m5))
          have N9 := six_blk N9 (.int .i64 m0) (.int .i64 m1) (.int .i64 m2) (.int .i64 m3) (.int .i64 m4) (.int .i64 m5)
          have G := six_gb v23 g9 (.int .i64 m0) (.int .i64 m1) (.int .i64 m2) (.int .i64 m3) (.int .i64 m4) (.int .i64 m5)
          have B := B.grown G B.size (fun k e => by injection e with e; omega)
          have A := A.grown G (fun e => by injection e with e; omega)
          have Bb := Bb.grown G (fun e => by injection e with e; omega)
          have U := U.grown G (fun e => by injection e with e; omega)
          have R := R.grown G (fun e => by injection e with e; omega)
          have V := V.grown G (fun e => by injection e with e; omega)
          have N8 := N8.grown G (fun e => by injection e with e; omega)
          clear G
          generalize six v23 g9 (.int .i64 m0) (.int .i64 m1) (.int .i64 m2) (.int .i64 m3) (.int .i64 m4) (.int .i64 m5) = v24 at *
          refine HeldX.done (by kernel_rfl) ?_ _
          go_wp2_with fail
          go_meet
          exact ⟨g8, g9, rfl, rfl, A, Bb, U, R, V, N8, N9, by omega, by omega, by omega, B⟩
        · go_simp
          have hb := (Below.refl v20.heap.size v20).alloc (Nat.le_refl _) (.cells #[.int .i64 0, .int .i64 0, .int .i64 0, .int .i64 0, .int .i64 0, .int .i64 0] 162)
          have N8 := Blk.new v20 #[.int .i64 0, .int .i64 0, .int .i64 0, .int .i64 0, .int .i64 0, .int .i64 0] 162
          have sA25 := A.size
          have sBb25 := Bb.size
          have sU25 := U.size
          have sR25 := R.size
          have sV25 := V.size
          have sN925 := N9.size
          have A := A.low hb
          have Bb := Bb.low hb
          have U := U.low hb
          have R := R.low hb
          have V := V.low hb
          have N9 := N9.low hb
          have B := B.trans (hb.mono B.size)
          refine hK _ _ ⟨A.cell 0 rfl, A.cell 1 rfl, A.cell 2 rfl, A.cell 3 rfl, A.cell 4 rfl, A.cell 5 rfl, A.cell 6 rfl, Bb.cell 0 rfl, Bb.cell 1 rfl, Bb.cell 2 rfl, Bb.cell 3 rfl, Bb.cell 4 rfl, Bb.cell 5 rfl, Bb.cell 6 rfl⟩ ?_
          clear hK K hb
          generalize (v20.alloc (.cells #[.int .i64 0, .int .i64 0, .int .i64 0, .int .i64 0, .int .i64 0, .int .i64 0] 162)) = v25 at *
          generalize v20.heap.size = g8 at *
          refine HeldX.one 3 (by kernel_rfl) rfl (by kernel_rfl) (fun K hK => ?_)
          go_simp
          refine (HNB.out _).mono ?_
          rintro e v26 ⟨rfl, hb⟩
          have A := A.low hb
          have Bb := Bb.low hb
          have U := U.low hb
          have R := R.low hb
          have V := V.low hb
          have N9 := N9.low hb
          have N8 := N8.low hb
          have B := B.trans (hb.mono B.size)
          refine hK _ _ ⟨A.cell 0 rfl, A.cell 1 rfl, A.cell 2 rfl, A.cell 3 rfl, A.cell 4 rfl, A.cell 5 rfl, A.cell 6 rfl, Bb.cell 0 rfl, Bb.cell 1 rfl, Bb.cell 2 rfl, Bb.cell 3 rfl, Bb.cell 4 rfl, Bb.cell 5 rfl, Bb.cell 6 rfl⟩ ?_
          clear hK K hb
          obtain ⟨q0, r0, q1, r1, q2, r2, q3, r3, q4, r4, q5, r5, zq⟩ := six_cells N8
          refine HeldX.last 6 (by kernel_rfl) (by kernel_rfl) rfl (by kernel_rfl) (fun K hK => ?_)
          go_simp
          refine hK _ _ ?_
          clear hK K q0 q1 q2 q3 q4 q5 r0 r1 r2 r3 r4 r5 zq
          change HeldX _ _ _ _ _ _ _ _ _ (six v26 g8 (.int .i64 n0) (.int .i64 n1) (.int .i64 n2) (.int .i64 n3) (.int .i64 n4) (.int .i64 n5))
          have N8 := six_blk N8 (.int .i64 n0) (.int .i64 n1) (.int .i64 n2) (.int .i64 n3) (.int .i64 n4) (.int .i64 n5)
          have G := six_gb v26 g8 (.int .i64 n0) (.int .i64 n1) (.int .i64 n2) (.int .i64 n3) (.int .i64 n4) (.int .i64 n5)
          have B := B.grown G B.size (fun k e => by injection e with e; omega)
          have A := A.grown G (fun e => by injection e with e; omega)
          have Bb := Bb.grown G (fun e => by injection e with e; omega)
          have U := U.grown G (fun e => by injection e with e; omega)
          have R := R.grown G (fun e => by injection e with e; omega)
          have V := V.grown G (fun e => by injection e with e; omega)
          have N9 := N9.grown G (fun e => by injection e with e; omega)
          clear G
          generalize six v26 g8 (.int .i64 n0) (.int .i64 n1) (.int .i64 n2) (.int .i64 n3) (.int .i64 n4) (.int .i64 n5) = v27 at *
          obtain ⟨q0, r0, q1, r1, q2, r2, q3, r3, q4, r4, q5, r5, zq⟩ := six_cells N9
          refine HeldX.last 7 (by kernel_rfl) (by kernel_rfl) rfl (by kernel_rfl) (fun K hK => ?_)
          go_simp
          refine hK _ _ ?_
          clear hK K q0 q1 q2 q3 q4 q5 r0 r1 r2 r3 r4 r5 zq
          change HeldX _ _ _ _ _ _ _ _ _ (six v27 g9 (.int .i64 m0) (.int .i64 m1) (.int .i64 m2) (.int .i64 m3) (.int .i64 m4) (.int .i64 m5))
          have N9 := six_blk N9 (.int .i64 m0) (.int .i64 m1) (.int .i64 m2) (.int .i64 m3) (.int .i64 m4) (.int .i64 m5)
          have G := six_gb v27 g9 (.int .i64 m0) (.int .i64 m1) (.int .i64 m2) (.int .i64 m3) (.int .i64 m4) (.int .i64 m5)
          have B := B.grown G B.size (fun k e => by injection e with e; omega)
          have A := A.grown G (fun e => by injection e with e; omega)
          have Bb := Bb.grown G (fun e => by injection e with e; omega)
          have U := U.grown G (fun e => by injection e with e; omega)
          have R := R.grown G (fun e => by injection e with e; omega)
          have V := V.grown G (fun e => by injection e with e; omega)
          have N8 := N8.grown G (fun e => by injection e with e; omega)
          clear G
          generalize six v27 g9 (.int .i64 m0) (.int .i64 m1) (.int .i64 m2) (.int .i64 m3) (.int .i64 m4) (.int .i64 m5) = v28 at *
          refine HeldX.done (by kernel_rfl) ?_ _
          go_wp2_with fail
          go_meet
          exact ⟨g8, g9, rfl, rfl, A, Bb, U, R, V, N8, N9, by omega, by omega, by omega, B⟩
    · go_simp
      have hb := (Below.refl wd.heap.size wd).alloc (Nat.le_refl _) (.cells #[.int .i64 0, .int .i64 0, .int .i64 0, .int .i64 0, .int .i64 0, .int .i64 0] 162)
      have N8 := Blk.new wd #[.int .i64 0, .int .i64 0, .int .i64 0, .int .i64 0, .int .i64 0, .int .i64 0] 162
      have sA29 := A.size
      have sBb29 := Bb.size
      have sU29 := U.size
      have sR29 := R.size
      have sV29 := V.size
      have A := A.low hb
      have Bb := Bb.low hb
      have U := U.low hb
      have R := R.low hb
      have V := V.low hb
      have B := B.trans (hb.mono B.size)
      refine hK _ _ ⟨A.cell 0 rfl, A.cell 1 rfl, A.cell 2 rfl, A.cell 3 rfl, A.cell 4 rfl, A.cell 5 rfl, A.cell 6 rfl, Bb.cell 0 rfl, Bb.cell 1 rfl, Bb.cell 2 rfl, Bb.cell 3 rfl, Bb.cell 4 rfl, Bb.cell 5 rfl, Bb.cell 6 rfl⟩ ?_
      clear hK K hb
      generalize (wd.alloc (.cells #[.int .i64 0, .int .i64 0, .int .i64 0, .int .i64 0, .int .i64 0, .int .i64 0] 162)) = v29 at *
      generalize wd.heap.size = g8 at *
      refine HeldX.all [1, 5] (by kernel_rfl) (by simp) (HeldXAll.cons rfl (by kernel_rfl) (fun K hK => ?_) (HeldXAll.cons rfl (by kernel_rfl) (fun K hK => ?_) HeldXAll.nil))
      · go_simp
        refine (HNA.out _).mono ?_
        rintro e v30 ⟨rfl, hb⟩
        have A := A.low hb
        have Bb := Bb.low hb
        have U := U.low hb
        have R := R.low hb
        have V := V.low hb
        have N8 := N8.low hb
        have B := B.trans (hb.mono B.size)
        refine hK _ _ ⟨A.cell 0 rfl, A.cell 1 rfl, A.cell 2 rfl, A.cell 3 rfl, A.cell 4 rfl, A.cell 5 rfl, A.cell 6 rfl, Bb.cell 0 rfl, Bb.cell 1 rfl, Bb.cell 2 rfl, Bb.cell 3 rfl, Bb.cell 4 rfl, Bb.cell 5 rfl, Bb.cell 6 rfl⟩ ?_
        clear hK K hb
        refine HeldX.all [3, 5] (by kernel_rfl) (by simp) (HeldXAll.cons rfl (by kernel_rfl) (fun K hK => ?_) (HeldXAll.cons rfl (by kernel_rfl) (fun K hK => ?_) HeldXAll.nil))
        · go_simp
          refine (HNB.out _).mono ?_
          rintro e v31 ⟨rfl, hb⟩
          have A := A.low hb
          have Bb := Bb.low hb
          have U := U.low hb
          have R := R.low hb
          have V := V.low hb
          have N8 := N8.low hb
          have B := B.trans (hb.mono B.size)
          refine hK _ _ ⟨A.cell 0 rfl, A.cell 1 rfl, A.cell 2 rfl, A.cell 3 rfl, A.cell 4 rfl, A.cell 5 rfl, A.cell 6 rfl, Bb.cell 0 rfl, Bb.cell 1 rfl, Bb.cell 2 rfl, Bb.cell 3 rfl, Bb.cell 4 rfl, Bb.cell 5 rfl, Bb.cell 6 rfl⟩ ?_
          clear hK K hb
          refine HeldX.one 5 (by kernel_rfl) rfl (by kernel_rfl) (fun K hK => ?_)
          go_simp
          have hb := (Below.refl v31.heap.size v31).alloc (Nat.le_refl _) (.cells #[.int .i64 0, .int .i64 0, .int .i64 0, .int .i64 0, .int .i64 0, .int .i64 0] 162)
          have N9 := Blk.new v31 #[.int .i64 0, .int .i64 0, .int .i64 0, .int .i64 0, .int .i64 0, .int .i64 0] 162
          have sA32 := A.size
          have sBb32 := Bb.size
          have sU32 := U.size
          have sR32 := R.size
          have sV32 := V.size
          have sN832 := N8.size
          have A := A.low hb
          have Bb := Bb.low hb
          have U := U.low hb
          have R := R.low hb
          have V := V.low hb
          have N8 := N8.low hb
          have B := B.trans (hb.mono B.size)
          refine hK _ _ ⟨A.cell 0 rfl, A.cell 1 rfl, A.cell 2 rfl, A.cell 3 rfl, A.cell 4 rfl, A.cell 5 rfl, A.cell 6 rfl, Bb.cell 0 rfl, Bb.cell 1 rfl, Bb.cell 2 rfl, Bb.cell 3 rfl, Bb.cell 4 rfl, Bb.cell 5 rfl, Bb.cell 6 rfl⟩ ?_
          clear hK K hb
          generalize (v31.alloc (.cells #[.int .i64 0, .int .i64 0, .int .i64 0, .int .i64 0, .int .i64 0, .int .i64 0] 162)) = v32 at *
          generalize v31.heap.size = g9 at *
          obtain ⟨q0, r0, q1, r1, q2, r2, q3, r3, q4, r4, q5, r5, zq⟩ := six_cells N8
          refine HeldX.last 6 (by kernel_rfl) (by kernel_rfl) rfl (by kernel_rfl) (fun K hK => ?_)
          go_simp
          refine hK _ _ ?_
          clear hK K q0 q1 q2 q3 q4 q5 r0 r1 r2 r3 r4 r5 zq
          change HeldX _ _ _ _ _ _ _ _ _ (six v32 g8 (.int .i64 n0) (.int .i64 n1) (.int .i64 n2) (.int .i64 n3) (.int .i64 n4) (.int .i64 n5))
          have N8 := six_blk N8 (.int .i64 n0) (.int .i64 n1) (.int .i64 n2) (.int .i64 n3) (.int .i64 n4) (.int .i64 n5)
          have G := six_gb v32 g8 (.int .i64 n0) (.int .i64 n1) (.int .i64 n2) (.int .i64 n3) (.int .i64 n4) (.int .i64 n5)
          have B := B.grown G B.size (fun k e => by injection e with e; omega)
          have A := A.grown G (fun e => by injection e with e; omega)
          have Bb := Bb.grown G (fun e => by injection e with e; omega)
          have U := U.grown G (fun e => by injection e with e; omega)
          have R := R.grown G (fun e => by injection e with e; omega)
          have V := V.grown G (fun e => by injection e with e; omega)
          have N9 := N9.grown G (fun e => by injection e with e; omega)
          clear G
          generalize six v32 g8 (.int .i64 n0) (.int .i64 n1) (.int .i64 n2) (.int .i64 n3) (.int .i64 n4) (.int .i64 n5) = v33 at *
          obtain ⟨q0, r0, q1, r1, q2, r2, q3, r3, q4, r4, q5, r5, zq⟩ := six_cells N9
          refine HeldX.last 7 (by kernel_rfl) (by kernel_rfl) rfl (by kernel_rfl) (fun K hK => ?_)
          go_simp
          refine hK _ _ ?_
          clear hK K q0 q1 q2 q3 q4 q5 r0 r1 r2 r3 r4 r5 zq
          change HeldX _ _ _ _ _ _ _ _ _ (six v33 g9 (.int .i64 m0) (.int .i64 m1) (.int .i64 m2) (.int .i64 m3) (.int .i64 m4) (.int .i64 m5))
          have N9 := six_blk N9 (.int .i64 m0) (.int .i64 m1) (.int .i64 m2) (.int .i64 m3) (.int .i64 m4) (.int .i64 m5)
          have G := six_gb v33 g9 (.int .i64 m0) (.int .i64 m1) (.int .i64 m2) (.int .i64 m3) (.int .i64 m4) (.int .i64 m5)
          have B := B.grown G B.size (fun k e => by injection e with e; omega)
          have A := A.grown G (fun e => by injection e with e; omega)
          have Bb := Bb.grown G (fun e => by injection e with e; omega)
          have U := U.grown G (fun e => by injection e with e; omega)
          have R := R.grown G (fun e => by injection e with e; omega)
          have V := V.grown G (fun e => by injection e with e; omega)
          have N8 := N8.grown G (fun e => by injection e with e; omega)
          clear G
          generalize six v33 g9 (.int .i64 m0) (.int .i64 m1) (.int .i64 m2) (.int .i64 m3) (.int .i64 m4) (.int .i64 m5) = v34 at *
          refine HeldX.done (by kernel_rfl) ?_ _
          go_wp2_with fail
          go_meet
          exact ⟨g8, g9, rfl, rfl, A, Bb, U, R, V, N8, N9, by omega, by omega, by omega, B⟩
        · go_simp
          have hb := (Below.refl v30.heap.size v30).alloc (Nat.le_refl _) (.cells #[.int .i64 0, .int .i64 0, .int .i64 0, .int .i64 0, .int .i64 0, .int .i64 0] 162)
          have N9 := Blk.new v30 #[.int .i64 0, .int .i64 0, .int .i64 0, .int .i64 0, .int .i64 0, .int .i64 0] 162
          have sA35 := A.size
          have sBb35 := Bb.size
          have sU35 := U.size
          have sR35 := R.size
          have sV35 := V.size
          have sN835 := N8.size
          have A := A.low hb
          have Bb := Bb.low hb
          have U := U.low hb
          have R := R.low hb
          have V := V.low hb
          have N8 := N8.low hb
          have B := B.trans (hb.mono B.size)
          refine hK _ _ ⟨A.cell 0 rfl, A.cell 1 rfl, A.cell 2 rfl, A.cell 3 rfl, A.cell 4 rfl, A.cell 5 rfl, A.cell 6 rfl, Bb.cell 0 rfl, Bb.cell 1 rfl, Bb.cell 2 rfl, Bb.cell 3 rfl, Bb.cell 4 rfl, Bb.cell 5 rfl, Bb.cell 6 rfl⟩ ?_
          clear hK K hb
          generalize (v30.alloc (.cells #[.int .i64 0, .int .i64 0, .int .i64 0, .int .i64 0, .int .i64 0, .int .i64 0] 162)) = v35 at *
          generalize v30.heap.size = g9 at *
          refine HeldX.one 3 (by kernel_rfl) rfl (by kernel_rfl) (fun K hK => ?_)
          go_simp
          refine (HNB.out _).mono ?_
          rintro e v36 ⟨rfl, hb⟩
          have A := A.low hb
          have Bb := Bb.low hb
          have U := U.low hb
          have R := R.low hb
          have V := V.low hb
          have N8 := N8.low hb
          have N9 := N9.low hb
          have B := B.trans (hb.mono B.size)
          refine hK _ _ ⟨A.cell 0 rfl, A.cell 1 rfl, A.cell 2 rfl, A.cell 3 rfl, A.cell 4 rfl, A.cell 5 rfl, A.cell 6 rfl, Bb.cell 0 rfl, Bb.cell 1 rfl, Bb.cell 2 rfl, Bb.cell 3 rfl, Bb.cell 4 rfl, Bb.cell 5 rfl, Bb.cell 6 rfl⟩ ?_
          clear hK K hb
          obtain ⟨q0, r0, q1, r1, q2, r2, q3, r3, q4, r4, q5, r5, zq⟩ := six_cells N8
          refine HeldX.last 6 (by kernel_rfl) (by kernel_rfl) rfl (by kernel_rfl) (fun K hK => ?_)
          go_simp
          refine hK _ _ ?_
          clear hK K q0 q1 q2 q3 q4 q5 r0 r1 r2 r3 r4 r5 zq
          change HeldX _ _ _ _ _ _ _ _ _ (six v36 g8 (.int .i64 n0) (.int .i64 n1) (.int .i64 n2) (.int .i64 n3) (.int .i64 n4) (.int .i64 n5))
          have N8 := six_blk N8 (.int .i64 n0) (.int .i64 n1) (.int .i64 n2) (.int .i64 n3) (.int .i64 n4) (.int .i64 n5)
          have G := six_gb v36 g8 (.int .i64 n0) (.int .i64 n1) (.int .i64 n2) (.int .i64 n3) (.int .i64 n4) (.int .i64 n5)
          have B := B.grown G B.size (fun k e => by injection e with e; omega)
          have A := A.grown G (fun e => by injection e with e; omega)
          have Bb := Bb.grown G (fun e => by injection e with e; omega)
          have U := U.grown G (fun e => by injection e with e; omega)
          have R := R.grown G (fun e => by injection e with e; omega)
          have V := V.grown G (fun e => by injection e with e; omega)
          have N9 := N9.grown G (fun e => by injection e with e; omega)
          clear G
          generalize six v36 g8 (.int .i64 n0) (.int .i64 n1) (.int .i64 n2) (.int .i64 n3) (.int .i64 n4) (.int .i64 n5) = v37 at *
          obtain ⟨q0, r0, q1, r1, q2, r2, q3, r3, q4, r4, q5, r5, zq⟩ := six_cells N9
          refine HeldX.last 7 (by kernel_rfl) (by kernel_rfl) rfl (by kernel_rfl) (fun K hK => ?_)
          go_simp
          refine hK _ _ ?_
          clear hK K q0 q1 q2 q3 q4 q5 r0 r1 r2 r3 r4 r5 zq
          change HeldX _ _ _ _ _ _ _ _ _ (six v37 g9 (.int .i64 m0) (.int .i64 m1) (.int .i64 m2) (.int .i64 m3) (.int .i64 m4) (.int .i64 m5))
          have N9 := six_blk N9 (.int .i64 m0) (.int .i64 m1) (.int .i64 m2) (.int .i64 m3) (.int .i64 m4) (.int .i64 m5)
          have G := six_gb v37 g9 (.int .i64 m0) (.int .i64 m1) (.int .i64 m2) (.int .i64 m3) (.int .i64 m4) (.int .i64 m5)
          have B := B.grown G B.size (fun k e => by injection e with e; omega)
          have A := A.grown G (fun e => by injection e with e; omega)
          have Bb := Bb.grown G (fun e => by injection e with e; omega)
          have U := U.grown G (fun e => by injection e with e; omega)
          have R := R.grown G (fun e => by injection e with e; omega)
          have V := V.grown G (fun e => by injection e with e; omega)
          have N8 := N8.grown G (fun e => by injection e with e; omega)
          clear G
          generalize six v37 g9 (.int .i64 m0) (.int .i64 m1) (.int .i64 m2) (.int .i64 m3) (.int .i64 m4) (.int .i64 m5) = v38 at *
          refine HeldX.done (by kernel_rfl) ?_ _
          go_wp2_with fail
          go_meet
          exact ⟨g8, g9, rfl, rfl, A, Bb, U, R, V, N8, N9, by omega, by omega, by omega, B⟩
      · go_simp
        have hb := (Below.refl v29.heap.size v29).alloc (Nat.le_refl _) (.cells #[.int .i64 0, .int .i64 0, .int .i64 0, .int .i64 0, .int .i64 0, .int .i64 0] 162)
        have N9 := Blk.new v29 #[.int .i64 0, .int .i64 0, .int .i64 0, .int .i64 0, .int .i64 0, .int .i64 0] 162
        have sA39 := A.size
        have sBb39 := Bb.size
        have sU39 := U.size
        have sR39 := R.size
        have sV39 := V.size
        have sN839 := N8.size
        have A := A.low hb
        have Bb := Bb.low hb
        have U := U.low hb
        have R := R.low hb
        have V := V.low hb
        have N8 := N8.low hb
        have B := B.trans (hb.mono B.size)
        refine hK _ _ ⟨A.cell 0 rfl, A.cell 1 rfl, A.cell 2 rfl, A.cell 3 rfl, A.cell 4 rfl, A.cell 5 rfl, A.cell 6 rfl, Bb.cell 0 rfl, Bb.cell 1 rfl, Bb.cell 2 rfl, Bb.cell 3 rfl, Bb.cell 4 rfl, Bb.cell 5 rfl, Bb.cell 6 rfl⟩ ?_
        clear hK K hb
        generalize (v29.alloc (.cells #[.int .i64 0, .int .i64 0, .int .i64 0, .int .i64 0, .int .i64 0, .int .i64 0] 162)) = v39 at *
        generalize v29.heap.size = g9 at *
        refine HeldX.one 1 (by kernel_rfl) rfl (by kernel_rfl) (fun K hK => ?_)
        go_simp
        refine (HNA.out _).mono ?_
        rintro e v40 ⟨rfl, hb⟩
        have A := A.low hb
        have Bb := Bb.low hb
        have U := U.low hb
        have R := R.low hb
        have V := V.low hb
        have N8 := N8.low hb
        have N9 := N9.low hb
        have B := B.trans (hb.mono B.size)
        refine hK _ _ ⟨A.cell 0 rfl, A.cell 1 rfl, A.cell 2 rfl, A.cell 3 rfl, A.cell 4 rfl, A.cell 5 rfl, A.cell 6 rfl, Bb.cell 0 rfl, Bb.cell 1 rfl, Bb.cell 2 rfl, Bb.cell 3 rfl, Bb.cell 4 rfl, Bb.cell 5 rfl, Bb.cell 6 rfl⟩ ?_
        clear hK K hb
        refine HeldX.one 3 (by kernel_rfl) rfl (by kernel_rfl) (fun K hK => ?_)
        go_simp
        refine (HNB.out _).mono ?_
        rintro e v41 ⟨rfl, hb⟩
        have A := A.low hb
        have Bb := Bb.low hb
        have U := U.low hb
        have R := R.low hb
        have V := V.low hb
        have N8 := N8.low hb
        have N9 := N9.low hb
        have B := B.trans (hb.mono B.size)
        refine hK _ _ ⟨A.cell 0 rfl, A.cell 1 rfl, A.cell 2 rfl, A.cell 3 rfl, A.cell 4 rfl, A.cell 5 rfl, A.cell 6 rfl, Bb.cell 0 rfl, Bb.cell 1 rfl, Bb.cell 2 rfl, Bb.cell 3 rfl, Bb.cell 4 rfl, Bb.cell 5 rfl, Bb.cell 6 rfl⟩ ?_
        clear hK K hb
        obtain ⟨q0, r0, q1, r1, q2, r2, q3, r3, q4, r4, q5, r5, zq⟩ := six_cells N8
        refine HeldX.last 6 (by kernel_rfl) (by kernel_rfl) rfl (by kernel_rfl) (fun K hK => ?_)
        go_simp
        refine hK _ _ ?_
        clear hK K q0 q1 q2 q3 q4 q5 r0 r1 r2 r3 r4 r5 zq
        change HeldX _ _ _ _ _ _ _ _ _ (six v41 g8 (.int .i64 n0) (.int .i64 n1) (.int .i64 n2) (.int .i64 n3) (.int .i64 n4) (.int .i64 n5))
        have N8 := six_blk N8 (.int .i64 n0) (.int .i64 n1) (.int .i64 n2) (.int .i64 n3) (.int .i64 n4) (.int .i64 n5)
        have G := six_gb v41 g8 (.int .i64 n0) (.int .i64 n1) (.int .i64 n2) (.int .i64 n3) (.int .i64 n4) (.int .i64 n5)
        have B := B.grown G B.size (fun k e => by injection e with e; omega)
        have A := A.grown G (fun e => by injection e with e; omega)
        have Bb := Bb.grown G (fun e => by injection e with e; omega)
        have U := U.grown G (fun e => by injection e with e; omega)
        have R := R.grown G (fun e => by injection e with e; omega)
        have V := V.grown G (fun e => by injection e with e; omega)
        have N9 := N9.grown G (fun e => by injection e with e; omega)
        clear G
        generalize six v41 g8 (.int .i64 n0) (.int .i64 n1) (.int .i64 n2) (.int .i64 n3) (.int .i64 n4) (.int .i64 n5) = v42 at *
        obtain ⟨q0, r0, q1, r1, q2, r2, q3, r3, q4, r4, q5, r5, zq⟩ := six_cells N9
        refine HeldX.last 7 (by kernel_rfl) (by kernel_rfl) rfl (by kernel_rfl) (fun K hK => ?_)
        go_simp
        refine hK _ _ ?_
        clear hK K q0 q1 q2 q3 q4 q5 r0 r1 r2 r3 r4 r5 zq
        change HeldX _ _ _ _ _ _ _ _ _ (six v42 g9 (.int .i64 m0) (.int .i64 m1) (.int .i64 m2) (.int .i64 m3) (.int .i64 m4) (.int .i64 m5))
        have N9 := six_blk N9 (.int .i64 m0) (.int .i64 m1) (.int .i64 m2) (.int .i64 m3) (.int .i64 m4) (.int .i64 m5)
        have G := six_gb v42 g9 (.int .i64 m0) (.int .i64 m1) (.int .i64 m2) (.int .i64 m3) (.int .i64 m4) (.int .i64 m5)
        have B := B.grown G B.size (fun k e => by injection e with e; omega)
        have A := A.grown G (fun e => by injection e with e; omega)
        have Bb := Bb.grown G (fun e => by injection e with e; omega)
        have U := U.grown G (fun e => by injection e with e; omega)
        have R := R.grown G (fun e => by injection e with e; omega)
        have V := V.grown G (fun e => by injection e with e; omega)
        have N8 := N8.grown G (fun e => by injection e with e; omega)
        clear G
        generalize six v42 g9 (.int .i64 m0) (.int .i64 m1) (.int .i64 m2) (.int .i64 m3) (.int .i64 m4) (.int .i64 m5) = v43 at *
        refine HeldX.done (by kernel_rfl) ?_ _
        go_wp2_with fail
        go_meet
        exact ⟨g8, g9, rfl, rfl, A, Bb, U, R, V, N8, N9, by omega, by omega, by omega, B⟩
    · go_simp
      have hb := (Below.refl wd.heap.size wd).alloc (Nat.le_refl _) (.cells #[.int .i64 0, .int .i64 0, .int .i64 0, .int .i64 0, .int .i64 0, .int .i64 0] 162)
      have N9 := Blk.new wd #[.int .i64 0, .int .i64 0, .int .i64 0, .int .i64 0, .int .i64 0, .int .i64 0] 162
      have sA44 := A.size
      have sBb44 := Bb.size
      have sU44 := U.size
      have sR44 := R.size
      have sV44 := V.size
      have A := A.low hb
      have Bb := Bb.low hb
      have U := U.low hb
      have R := R.low hb
      have V := V.low hb
      have B := B.trans (hb.mono B.size)
      refine hK _ _ ⟨A.cell 0 rfl, A.cell 1 rfl, A.cell 2 rfl, A.cell 3 rfl, A.cell 4 rfl, A.cell 5 rfl, A.cell 6 rfl, Bb.cell 0 rfl, Bb.cell 1 rfl, Bb.cell 2 rfl, Bb.cell 3 rfl, Bb.cell 4 rfl, Bb.cell 5 rfl, Bb.cell 6 rfl⟩ ?_
      clear hK K hb
      generalize (wd.alloc (.cells #[.int .i64 0, .int .i64 0, .int .i64 0, .int .i64 0, .int .i64 0, .int .i64 0] 162)) = v44 at *
      generalize wd.heap.size = g9 at *
      refine HeldX.all [1, 4] (by kernel_rfl) (by simp) (HeldXAll.cons rfl (by kernel_rfl) (fun K hK => ?_) (HeldXAll.cons rfl (by kernel_rfl) (fun K hK => ?_) HeldXAll.nil))
      · go_simp
        refine (HNA.out _).mono ?_
        rintro e v45 ⟨rfl, hb⟩
        have A := A.low hb
        have Bb := Bb.low hb
        have U := U.low hb
        have R := R.low hb
        have V := V.low hb
        have N9 := N9.low hb
        have B := B.trans (hb.mono B.size)
        refine hK _ _ ⟨A.cell 0 rfl, A.cell 1 rfl, A.cell 2 rfl, A.cell 3 rfl, A.cell 4 rfl, A.cell 5 rfl, A.cell 6 rfl, Bb.cell 0 rfl, Bb.cell 1 rfl, Bb.cell 2 rfl, Bb.cell 3 rfl, Bb.cell 4 rfl, Bb.cell 5 rfl, Bb.cell 6 rfl⟩ ?_
        clear hK K hb
        refine HeldX.all [3, 4] (by kernel_rfl) (by simp) (HeldXAll.cons rfl (by kernel_rfl) (fun K hK => ?_) (HeldXAll.cons rfl (by kernel_rfl) (fun K hK => ?_) HeldXAll.nil))
        · go_simp
          refine (HNB.out _).mono ?_
          rintro e v46 ⟨rfl, hb⟩
          have A := A.low hb
          have Bb := Bb.low hb
          have U := U.low hb
          have R := R.low hb
          have V := V.low hb
          have N9 := N9.low hb
          have B := B.trans (hb.mono B.size)
          refine hK _ _ ⟨A.cell 0 rfl, A.cell 1 rfl, A.cell 2 rfl, A.cell 3 rfl, A.cell 4 rfl, A.cell 5 rfl, A.cell 6 rfl, Bb.cell 0 rfl, Bb.cell 1 rfl, Bb.cell 2 rfl, Bb.cell 3 rfl, Bb.cell 4 rfl, Bb.cell 5 rfl, Bb.cell 6 rfl⟩ ?_
          clear hK K hb
          refine HeldX.one 4 (by kernel_rfl) rfl (by kernel_rfl) (fun K hK => ?_)
          go_simp
          have hb := (Below.refl v46.heap.size v46).alloc (Nat.le_refl _) (.cells #[.int .i64 0, .int .i64 0, .int .i64 0, .int .i64 0, .int .i64 0, .int .i64 0] 162)
          have N8 := Blk.new v46 #[.int .i64 0, .int .i64 0, .int .i64 0, .int .i64 0, .int .i64 0, .int .i64 0] 162
          have sA47 := A.size
          have sBb47 := Bb.size
          have sU47 := U.size
          have sR47 := R.size
          have sV47 := V.size
          have sN947 := N9.size
          have A := A.low hb
          have Bb := Bb.low hb
          have U := U.low hb
          have R := R.low hb
          have V := V.low hb
          have N9 := N9.low hb
          have B := B.trans (hb.mono B.size)
          refine hK _ _ ⟨A.cell 0 rfl, A.cell 1 rfl, A.cell 2 rfl, A.cell 3 rfl, A.cell 4 rfl, A.cell 5 rfl, A.cell 6 rfl, Bb.cell 0 rfl, Bb.cell 1 rfl, Bb.cell 2 rfl, Bb.cell 3 rfl, Bb.cell 4 rfl, Bb.cell 5 rfl, Bb.cell 6 rfl⟩ ?_
          clear hK K hb
          generalize (v46.alloc (.cells #[.int .i64 0, .int .i64 0, .int .i64 0, .int .i64 0, .int .i64 0, .int .i64 0] 162)) = v47 at *
          generalize v46.heap.size = g8 at *
          obtain ⟨q0, r0, q1, r1, q2, r2, q3, r3, q4, r4, q5, r5, zq⟩ := six_cells N8
          refine HeldX.last 6 (by kernel_rfl) (by kernel_rfl) rfl (by kernel_rfl) (fun K hK => ?_)
          go_simp
          refine hK _ _ ?_
          clear hK K q0 q1 q2 q3 q4 q5 r0 r1 r2 r3 r4 r5 zq
          change HeldX _ _ _ _ _ _ _ _ _ (six v47 g8 (.int .i64 n0) (.int .i64 n1) (.int .i64 n2) (.int .i64 n3) (.int .i64 n4) (.int .i64 n5))
          have N8 := six_blk N8 (.int .i64 n0) (.int .i64 n1) (.int .i64 n2) (.int .i64 n3) (.int .i64 n4) (.int .i64 n5)
          have G := six_gb v47 g8 (.int .i64 n0) (.int .i64 n1) (.int .i64 n2) (.int .i64 n3) (.int .i64 n4) (.int .i64 n5)
          have B := B.grown G B.size (fun k e => by injection e with e; omega)
          have A := A.grown G (fun e => by injection e with e; omega)
          have Bb := Bb.grown G (fun e => by injection e with e; omega)
          have U := U.grown G (fun e => by injection e with e; omega)
          have R := R.grown G (fun e => by injection e with e; omega)
          have V := V.grown G (fun e => by injection e with e; omega)
          have N9 := N9.grown G (fun e => by injection e with e; omega)
          clear G
          generalize six v47 g8 (.int .i64 n0) (.int .i64 n1) (.int .i64 n2) (.int .i64 n3) (.int .i64 n4) (.int .i64 n5) = v48 at *
          obtain ⟨q0, r0, q1, r1, q2, r2, q3, r3, q4, r4, q5, r5, zq⟩ := six_cells N9
          refine HeldX.last 7 (by kernel_rfl) (by kernel_rfl) rfl (by kernel_rfl) (fun K hK => ?_)
          go_simp
          refine hK _ _ ?_
          clear hK K q0 q1 q2 q3 q4 q5 r0 r1 r2 r3 r4 r5 zq
          change HeldX _ _ _ _ _ _ _ _ _ (six v48 g9 (.int .i64 m0) (.int .i64 m1) (.int .i64 m2) (.int .i64 m3) (.int .i64 m4) (.int .i64 m5))
          have N9 := six_blk N9 (.int .i64 m0) (.int .i64 m1) (.int .i64 m2) (.int .i64 m3) (.int .i64 m4) (.int .i64 m5)
          have G := six_gb v48 g9 (.int .i64 m0) (.int .i64 m1) (.int .i64 m2) (.int .i64 m3) (.int .i64 m4) (.int .i64 m5)
          have B := B.grown G B.size (fun k e => by injection e with e; omega)
          have A := A.grown G (fun e => by injection e with e; omega)
          have Bb := Bb.grown G (fun e => by injection e with e; omega)
          have U := U.grown G (fun e => by injection e with e; omega)
          have R := R.grown G (fun e => by injection e with e; omega)
          have V := V.grown G (fun e => by injection e with e; omega)
          have N8 := N8.grown G (fun e => by injection e with e; omega)
          clear G
          generalize six v48 g9 (.int .i64 m0) (.int .i64 m1) (.int .i64 m2) (.int .i64 m3) (.int .i64 m4) (.int .i64 m5) = v49 at *
          refine HeldX.done (by kernel_rfl) ?_ _
          go_wp2_with fail
          go_meet
          exact ⟨g8, g9, rfl, rfl, A, Bb, U, R, V, N8, N9, by omega, by omega, by omega, B⟩
        · go_simp
          have hb := (Below.refl v45.heap.size v45).alloc (Nat.le_refl _) (.cells #[.int .i64 0, .int .i64 0, .int .i64 0, .int .i64 0, .int .i64 0, .int .i64 0] 162)
          have N8 := Blk.new v45 #[.int .i64 0, .int .i64 0, .int .i64 0, .int .i64 0, .int .i64 0, .int .i64 0] 162
          have sA50 := A.size
          have sBb50 := Bb.size
          have sU50 := U.size
          have sR50 := R.size
          have sV50 := V.size
          have sN950 := N9.size
          have A := A.low hb
          have Bb := Bb.low hb
          have U := U.low hb
          have R := R.low hb
          have V := V.low hb
          have N9 := N9.low hb
          have B := B.trans (hb.mono B.size)
          refine hK _ _ ⟨A.cell 0 rfl, A.cell 1 rfl, A.cell 2 rfl, A.cell 3 rfl, A.cell 4 rfl, A.cell 5 rfl, A.cell 6 rfl, Bb.cell 0 rfl, Bb.cell 1 rfl, Bb.cell 2 rfl, Bb.cell 3 rfl, Bb.cell 4 rfl, Bb.cell 5 rfl, Bb.cell 6 rfl⟩ ?_
          clear hK K hb
          generalize (v45.alloc (.cells #[.int .i64 0, .int .i64 0, .int .i64 0, .int .i64 0, .int .i64 0, .int .i64 0] 162)) = v50 at *
          generalize v45.heap.size = g8 at *
          refine HeldX.one 3 (by kernel_rfl) rfl (by kernel_rfl) (fun K hK => ?_)
          go_simp
          refine (HNB.out _).mono ?_
          rintro e v51 ⟨rfl, hb⟩
          have A := A.low hb
          have Bb := Bb.low hb
          have U := U.low hb
          have R := R.low hb
          have V := V.low hb
          have N9 := N9.low hb
          have N8 := N8.low hb
          have B := B.trans (hb.mono B.size)
          refine hK _ _ ⟨A.cell 0 rfl, A.cell 1 rfl, A.cell 2 rfl, A.cell 3 rfl, A.cell 4 rfl, A.cell 5 rfl, A.cell 6 rfl, Bb.cell 0 rfl, Bb.cell 1 rfl, Bb.cell 2 rfl, Bb.cell 3 rfl, Bb.cell 4 rfl, Bb.cell 5 rfl, Bb.cell 6 rfl⟩ ?_
          clear hK K hb
          obtain ⟨q0, r0, q1, r1, q2, r2, q3, r3, q4, r4, q5, r5, zq⟩ := six_cells N8
          refine HeldX.last 6 (by kernel_rfl) (by kernel_rfl) rfl (by kernel_rfl) (fun K hK => ?_)
          go_simp
          refine hK _ _ ?_
          clear hK K q0 q1 q2 q3 q4 q5 r0 r1 r2 r3 r4 r5 zq
          change HeldX _ _ _ _ _ _ _ _ _ (six v51 g8 (.int .i64 n0) (.int .i64 n1) (.int .i64 n2) (.int .i64 n3) (.int .i64 n4) (.int .i64 n5))
          have N8 := six_blk N8 (.int .i64 n0) (.int .i64 n1) (.int .i64 n2) (.int .i64 n3) (.int .i64 n4) (.int .i64 n5)
          have G := six_gb v51 g8 (.int .i64 n0) (.int .i64 n1) (.int .i64 n2) (.int .i64 n3) (.int .i64 n4) (.int .i64 n5)
          have B := B.grown G B.size (fun k e => by injection e with e; omega)
          have A := A.grown G (fun e => by injection e with e; omega)
          have Bb := Bb.grown G (fun e => by injection e with e; omega)
          have U := U.grown G (fun e => by injection e with e; omega)
          have R := R.grown G (fun e => by injection e with e; omega)
          have V := V.grown G (fun e => by injection e with e; omega)
          have N9 := N9.grown G (fun e => by injection e with e; omega)
          clear G
          generalize six v51 g8 (.int .i64 n0) (.int .i64 n1) (.int .i64 n2) (.int .i64 n3) (.int .i64 n4) (.int .i64 n5) = v52 at *
          obtain ⟨q0, r0, q1, r1, q2, r2, q3, r3, q4, r4, q5, r5, zq⟩ := six_cells N9
          refine HeldX.last 7 (by kernel_rfl) (by kernel_rfl) rfl (by kernel_rfl) (fun K hK => ?_)
          go_simp
          refine hK _ _ ?_
          clear hK K q0 q1 q2 q3 q4 q5 r0 r1 r2 r3 r4 r5 zq
          change HeldX _ _ _ _ _ _ _ _ _ (six v52 g9 (.int .i64 m0) (.int .i64 m1) (.int .i64 m2) (.int .i64 m3) (.int .i64 m4) (.int .i64 m5))
          have N9 := six_blk N9 (.int .i64 m0) (.int .i64 m1) (.int .i64 m2) (.int .i64 m3) (.int .i64 m4) (.int .i64 m5)
          have G := six_gb v52 g9 (.int .i64 m0) (.int .i64 m1) (.int .i64 m2) (.int .i64 m3) (.int .i64 m4) (.int .i64 m5)
          have B := B.grown G B.size (fun k e => by injection e with e; omega)
          have A := A.grown G (fun e => by injection e with e; omega)
          have Bb := Bb.grown G (fun e => by injection e with e; omega)
          have U := U.grown G (fun e => by injection e with e; omega)
          have R := R.grown G (fun e => by injection e with e; omega)
          have V := V.grown G (fun e => by injection e with e; omega)
          have N8 := N8.grown G (fun e => by injection e with e; omega)
          clear G
          generalize six v52 g9 (.int .i64 m0) (.int .i64 m1) (.int .i64 m2) (.int .i64 m3) (.int .i64 m4) (.int .i64 m5) = v53 at *
          refine HeldX.done (by kernel_rfl) ?_ _
          go_wp2_with fail
          go_meet
          exact ⟨g8, g9, rfl, rfl, A, Bb, U, R, V, N8, N9, by omega, by omega, by omega, B⟩
      · go_simp
        have hb := (Below.refl v44.heap.size v44).alloc (Nat.le_refl _) (.cells #[.int .i64 0, .int .i64 0, .int .i64 0, .int .i64 0, .int .i64 0, .int .i64 0] 162)
        have N8 := Blk.new v44 #[.int .i64 0, .int .i64 0, .int .i64 0, .int .i64 0, .int .i64 0, .int .i64 0] 162
        have sA54 := A.size
        have sBb54 := Bb.size
        have sU54 := U.size
        have sR54 := R.size
        have sV54 := V.size
        have sN954 := N9.size
        have A := A.low hb
        have Bb := Bb.low hb
        have U := U.low hb
        have R := R.low hb
        have V := V.low hb
        have N9 := N9.low hb
        have B := B.trans (hb.mono B.size)
        refine hK _ _ ⟨A.cell 0 rfl, A.cell 1 rfl, A.cell 2 rfl, A.cell 3 rfl, A.cell 4 rfl, A.cell 5 rfl, A.cell 6 rfl, Bb.cell 0 rfl, Bb.cell 1 rfl, Bb.cell 2 rfl, Bb.cell 3 rfl, Bb.cell 4 rfl, Bb.cell 5 rfl, Bb.cell 6 rfl⟩ ?_
        clear hK K hb
        generalize (v44.alloc (.cells #[.int .i64 0, .int .i64 0, .int .i64 0, .int .i64 0, .int .i64 0, .int .i64 0] 162)) = v54 at *
        generalize v44.heap.size = g8 at *
        refine HeldX.one 1 (by kernel_rfl) rfl (by kernel_rfl) (fun K hK => ?_)
        go_simp
        refine (HNA.out _).mono ?_
        rintro e v55 ⟨rfl, hb⟩
        have A := A.low hb
        have Bb := Bb.low hb
        have U := U.low hb
        have R := R.low hb
        have V := V.low hb
        have N9 := N9.low hb
        have N8 := N8.low hb
        have B := B.trans (hb.mono B.size)
        refine hK _ _ ⟨A.cell 0 rfl, A.cell 1 rfl, A.cell 2 rfl, A.cell 3 rfl, A.cell 4 rfl, A.cell 5 rfl, A.cell 6 rfl, Bb.cell 0 rfl, Bb.cell 1 rfl, Bb.cell 2 rfl, Bb.cell 3 rfl, Bb.cell 4 rfl, Bb.cell 5 rfl, Bb.cell 6 rfl⟩ ?_
        clear hK K hb
        refine HeldX.one 3 (by kernel_rfl) rfl (by kernel_rfl) (fun K hK => ?_)
        go_simp
        refine (HNB.out _).mono ?_
        rintro e v56 ⟨rfl, hb⟩
        have A := A.low hb
        have Bb := Bb.low hb
        have U := U.low hb
        have R := R.low hb
        have V := V.low hb
        have N9 := N9.low hb
        have N8 := N8.low hb
        have B := B.trans (hb.mono B.size)
        refine hK _ _ ⟨A.cell 0 rfl, A.cell 1 rfl, A.cell 2 rfl, A.cell 3 rfl, A.cell 4 rfl, A.cell 5 rfl, A.cell 6 rfl, Bb.cell 0 rfl, Bb.cell 1 rfl, Bb.cell 2 rfl, Bb.cell 3 rfl, Bb.cell 4 rfl, Bb.cell 5 rfl, Bb.cell 6 rfl⟩ ?_
        clear hK K hb
        obtain ⟨q0, r0, q1, r1, q2, r2, q3, r3, q4, r4, q5, r5, zq⟩ := six_cells N8
        refine HeldX.last 6 (by kernel_rfl) (by kernel_rfl) rfl (by kernel_rfl) (fun K hK => ?_)
        go_simp
        refine hK _ _ ?_
        clear hK K q0 q1 q2 q3 q4 q5 r0 r1 r2 r3 r4 r5 zq
        change HeldX _ _ _ _ _ _ _ _ _ (six v56 g8 (.int .i64 n0) (.int .i64 n1) (.int .i64 n2) (.int .i64 n3) (.int .i64 n4) (.int .i64 n5))
        have N8 := six_blk N8 (.int .i64 n0) (.int .i64 n1) (.int .i64 n2) (.int .i64 n3) (.int .i64 n4) (.int .i64 n5)
        have G := six_gb v56 g8 (.int .i64 n0) (.int .i64 n1) (.int .i64 n2) (.int .i64 n3) (.int .i64 n4) (.int .i64 n5)
        have B := B.grown G B.size (fun k e => by injection e with e; omega)
        have A := A.grown G (fun e => by injection e with e; omega)
        have Bb := Bb.grown G (fun e => by injection e with e; omega)
        have U := U.grown G (fun e => by injection e with e; omega)
        have R := R.grown G (fun e => by injection e with e; omega)
        have V := V.grown G (fun e => by injection e with e; omega)
        have N9 := N9.grown G (fun e => by injection e with e; omega)
        clear G
        generalize six v56 g8 (.int .i64 n0) (.int .i64 n1) (.int .i64 n2) (.int .i64 n3) (.int .i64 n4) (.int .i64 n5) = v57 at *
        obtain ⟨q0, r0, q1, r1, q2, r2, q3, r3, q4, r4, q5, r5, zq⟩ := six_cells N9
        refine HeldX.last 7 (by kernel_rfl) (by kernel_rfl) rfl (by kernel_rfl) (fun K hK => ?_)
        go_simp
        refine hK _ _ ?_
        clear hK K q0 q1 q2 q3 q4 q5 r0 r1 r2 r3 r4 r5 zq
        change HeldX _ _ _ _ _ _ _ _ _ (six v57 g9 (.int .i64 m0) (.int .i64 m1) (.int .i64 m2) (.int .i64 m3) (.int .i64 m4) (.int .i64 m5))
        have N9 := six_blk N9 (.int .i64 m0) (.int .i64 m1) (.int .i64 m2) (.int .i64 m3) (.int .i64 m4) (.int .i64 m5)
        have G := six_gb v57 g9 (.int .i64 m0) (.int .i64 m1) (.int .i64 m2) (.int .i64 m3) (.int .i64 m4) (.int .i64 m5)
        have B := B.grown G B.size (fun k e => by injection e with e; omega)
        have A := A.grown G (fun e => by injection e with e; omega)
        have Bb := Bb.grown G (fun e => by injection e with e; omega)
        have U := U.grown G (fun e => by injection e with e; omega)
        have R := R.grown G (fun e => by injection e with e; omega)
        have V := V.grown G (fun e => by injection e with e; omega)
        have N8 := N8.grown G (fun e => by injection e with e; omega)
        clear G
        generalize six v57 g9 (.int .i64 m0) (.int .i64 m1) (.int .i64 m2) (.int .i64 m3) (.int .i64 m4) (.int .i64 m5) = v58 at *
        refine HeldX.done (by kernel_rfl) ?_ _
        go_wp2_with fail
        go_meet
        exact ⟨g8, g9, rfl, rfl, A, Bb, U, R, V, N8, N9, by omega, by omega, by omega, B⟩
  case rest =>
    obtain ⟨g8, g9, rfl, rfl, F0⟩ := hcut
    clear A Bb U R V B qR
    generalize hhv : ofL n0 us x = hv at *
    have HHV := Lib.hid hhv
    clear hhv
    have HF0 := Lib.hid F0
    clear F0
    go_wp2_with fail
    go_loopw [28] (fun i wr => ∃ j : Nat, j ≤ 6 ∧ i = .int .i64 (j : Int) ∧ Hid (ChF w [.int .i64 n0, .int .i64 n1, .int .i64 n2, .int .i64 n3, .int .i64 n4, .int .i64 n5, .slice pu us.length cu] [.int .i64 m0, .int .i64 m1, .int .i64 m2, .int .i64 m3, .int .i64 m4, .int .i64 m5, .slice pt ts.length ct] x 0 hv [.int .i64 n0, .int .i64 n1, .int .i64 n2, .int .i64 n3, .int .i64 n4, .int .i64 n5] [.int .i64 m0, .int .i64 m1, .int .i64 m2, .int .i64 m3, .int .i64 m4, .int .i64 m5] g7 g8 g9 wr) ∧ Hid (0 < j → n0 = m0 ∨ m0 ≤ hv)) (fun i _ => 6 - (intOf i).toNat)
    case atStart => exact ⟨0, by omega, rfl, HF0, Lib.hid (fun h => absurd h (by omega))⟩
    case round =>
      obtain ⟨j, hj, rfl, HF, HJ⟩ := hrel
      by_cases hlt : j < 6
      · obtain rfl | rfl | rfl | rfl | rfl | rfl : j = 0 ∨ j = 1 ∨ j = 2 ∨ j = 3 ∨ j = 4 ∨ j = 5 := by omega
        · by_cases hnm : n0 = m0
          · have hnd : (n0 == m0) = true := by simpa using hnm
            have HX := Lib.hid hnm
            clear hnm
            go_wp2_with fail
            have S8 : (fun w' => w'.cell? ⟨g8, 0, none⟩ = some (.int .i64 n0) ∧ w'.cell? ⟨g9, 0, none⟩ = some (.int .i64 m0) ∧ w'.cell? ⟨g7, 0, none⟩ = some (.int .i64 hv)) wr.drew := ⟨HF.out.n8.cell 0 rfl, HF.out.n9.cell 0 rfl, HF.out.h.cell 0 rfl⟩
            refine wp_region_heldX (fun w' => w'.cell? ⟨g8, 0, none⟩ = some (.int .i64 n0) ∧ w'.cell? ⟨g9, 0, none⟩ = some (.int .i64 m0) ∧ w'.cell? ⟨g7, 0, none⟩ = some (.int .i64 hv)) [] hmo ?_
            refine HeldX.move 0 (v := .int .i64 0) rfl (by kernel_rfl) (by kernel_rfl) (by kernel_rfl) (by kernel_rfl) (fun _ _ _ h => h) S8 (.inl ⟨by kernel_rfl, fun w h => by go_simp⟩) ?_
            go_simp
            refine HeldX.move 1 (v := .pointer (some ⟨g8, 0, none⟩)) rfl (by kernel_rfl) (by kernel_rfl) (by kernel_rfl) (by kernel_rfl) (fun _ _ _ h => h) S8 (.inl ⟨by kernel_rfl, fun w h => by go_simp⟩) ?_
            go_simp
            refine HeldX.take 2 (v := .int .i64 n0) rfl (by kernel_rfl) (by kernel_rfl) (by kernel_rfl) (by kernel_rfl) (fun _ _ _ h => h) S8 (.inl ⟨by kernel_rfl, fun w h => by have h1 := h.1; go_simp⟩) ?_
            go_simp
            refine HeldX.move 3 (v := .int .i64 0) rfl (by kernel_rfl) (by kernel_rfl) (by kernel_rfl) (by kernel_rfl) (fun _ _ _ h => h) S8 (.inl ⟨by kernel_rfl, fun w h => by go_simp⟩) ?_
            go_simp
            refine HeldX.move 4 (v := .pointer (some ⟨g9, 0, none⟩)) rfl (by kernel_rfl) (by kernel_rfl) (by kernel_rfl) (by kernel_rfl) (fun _ _ _ h => h) S8 (.inl ⟨by kernel_rfl, fun w h => by go_simp⟩) ?_
            go_simp
            refine HeldX.take 5 (v := .int .i64 m0) rfl (by kernel_rfl) (by kernel_rfl) (by kernel_rfl) (by kernel_rfl) (fun _ _ _ h => h) S8 (.inl ⟨by kernel_rfl, fun w h => by have h1 := h.2.1; go_simp⟩) ?_
            go_simp
            refine HeldX.move 6 (v := .bool false) rfl (by kernel_rfl) (by kernel_rfl) (by kernel_rfl) (by kernel_rfl) (fun _ _ _ h => h) S8 (.inl ⟨by kernel_rfl, fun w h => by go_simp; exact HX.out⟩) ?_
            go_simp
            refine HeldX.move 7 (v := .bool false) rfl (by kernel_rfl) (by kernel_rfl) (by kernel_rfl) (by kernel_rfl) (fun _ _ _ h => h) S8 (.inl ⟨by kernel_rfl, fun w h => by go_simp⟩) ?_
            go_simp
            refine HeldX.move 8 (v := undef) rfl (by kernel_rfl) (by kernel_rfl) (by kernel_rfl) (by kernel_rfl) (fun _ _ _ h => h) S8 (.inr ⟨by kernel_rfl, rfl⟩) ?_
            go_simp
            refine HeldX.move 9 (v := undef) rfl (by kernel_rfl) (by kernel_rfl) (by kernel_rfl) (by kernel_rfl) (fun _ _ _ h => h) S8 (.inr ⟨by kernel_rfl, rfl⟩) ?_
            go_simp
            refine HeldX.move 10 (v := undef) rfl (by kernel_rfl) (by kernel_rfl) (by kernel_rfl) (by kernel_rfl) (fun _ _ _ h => h) S8 (.inr ⟨by kernel_rfl, rfl⟩) ?_
            go_simp
            refine HeldX.move 11 (v := undef) rfl (by kernel_rfl) (by kernel_rfl) (by kernel_rfl) (by kernel_rfl) (fun _ _ _ h => h) S8 (.inr ⟨by kernel_rfl, rfl⟩) ?_
            go_simp
            refine HeldX.move 12 (v := undef) rfl (by kernel_rfl) (by kernel_rfl) (by kernel_rfl) (by kernel_rfl) (fun _ _ _ h => h) S8 (.inr ⟨by kernel_rfl, rfl⟩) ?_
            go_simp
            refine HeldX.move 13 (v := undef) rfl (by kernel_rfl) (by kernel_rfl) (by kernel_rfl) (by kernel_rfl) (fun _ _ _ h => h) S8 (.inr ⟨by kernel_rfl, rfl⟩) ?_
            go_simp
            refine HeldX.move 14 (v := undef) rfl (by kernel_rfl) (by kernel_rfl) (by kernel_rfl) (by kernel_rfl) (fun _ _ _ h => h) S8 (.inr ⟨by kernel_rfl, rfl⟩) ?_
            go_simp
            refine HeldX.move 15 (v := undef) rfl (by kernel_rfl) (by kernel_rfl) (by kernel_rfl) (by kernel_rfl) (fun _ _ _ h => h) S8 (.inr ⟨by kernel_rfl, rfl⟩) ?_
            go_simp
            refine HeldX.move 16 (v := undef) rfl (by kernel_rfl) (by kernel_rfl) (by kernel_rfl) (by kernel_rfl) (fun _ _ _ h => h) S8 (.inr ⟨by kernel_rfl, rfl⟩) ?_
            go_simp
            refine HeldX.move 17 (v := .bool false) rfl (by kernel_rfl) (by kernel_rfl) (by kernel_rfl) (by kernel_rfl) (fun _ _ _ h => h) S8 (.inl ⟨by kernel_rfl, fun w h => by go_simp⟩) ?_
            go_simp
            refine HeldX.done (by kernel_rfl) ?_ _
            go_wp2_with fail
            go_roundw
            case rel => exact ⟨1, by omega, by go_num, Lib.hid (HF.out.low (Below.refl _ wr).drew), Lib.hid (fun _ => .inl HX.out)⟩
            case measure => simp [intOf]
          · have hnd : (n0 == m0) = false := by simpa using hnm
            have HX := Lib.hid hnm
            clear hnm
            by_cases hov : hv < (max n0 m0)
            · go_wp2_with fail
              have S8 : (fun w' => w'.cell? ⟨g8, 0, none⟩ = some (.int .i64 n0) ∧ w'.cell? ⟨g9, 0, none⟩ = some (.int .i64 m0) ∧ w'.cell? ⟨g7, 0, none⟩ = some (.int .i64 hv)) wr.drew := ⟨HF.out.n8.cell 0 rfl, HF.out.n9.cell 0 rfl, HF.out.h.cell 0 rfl⟩
              refine wp_region_heldX (fun w' => w'.cell? ⟨g8, 0, none⟩ = some (.int .i64 n0) ∧ w'.cell? ⟨g9, 0, none⟩ = some (.int .i64 m0) ∧ w'.cell? ⟨g7, 0, none⟩ = some (.int .i64 hv)) [] hmo ?_
              refine HeldX.move 0 (v := .int .i64 0) rfl (by kernel_rfl) (by kernel_rfl) (by kernel_rfl) (by kernel_rfl) (fun _ _ _ h => h) S8 (.inl ⟨by kernel_rfl, fun w h => by go_simp⟩) ?_
              go_simp
              refine HeldX.move 1 (v := .pointer (some ⟨g8, 0, none⟩)) rfl (by kernel_rfl) (by kernel_rfl) (by kernel_rfl) (by kernel_rfl) (fun _ _ _ h => h) S8 (.inl ⟨by kernel_rfl, fun w h => by go_simp⟩) ?_
              go_simp
              refine HeldX.take 2 (v := .int .i64 n0) rfl (by kernel_rfl) (by kernel_rfl) (by kernel_rfl) (by kernel_rfl) (fun _ _ _ h => h) S8 (.inl ⟨by kernel_rfl, fun w h => by have h1 := h.1; go_simp⟩) ?_
              go_simp
              refine HeldX.move 3 (v := .int .i64 0) rfl (by kernel_rfl) (by kernel_rfl) (by kernel_rfl) (by kernel_rfl) (fun _ _ _ h => h) S8 (.inl ⟨by kernel_rfl, fun w h => by go_simp⟩) ?_
              go_simp
              refine HeldX.move 4 (v := .pointer (some ⟨g9, 0, none⟩)) rfl (by kernel_rfl) (by kernel_rfl) (by kernel_rfl) (by kernel_rfl) (fun _ _ _ h => h) S8 (.inl ⟨by kernel_rfl, fun w h => by go_simp⟩) ?_
              go_simp
              refine HeldX.take 5 (v := .int .i64 m0) rfl (by kernel_rfl) (by kernel_rfl) (by kernel_rfl) (by kernel_rfl) (fun _ _ _ h => h) S8 (.inl ⟨by kernel_rfl, fun w h => by have h1 := h.2.1; go_simp⟩) ?_
              go_simp
              refine HeldX.move 6 (v := .bool true) rfl (by kernel_rfl) (by kernel_rfl) (by kernel_rfl) (by kernel_rfl) (fun _ _ _ h => h) S8 (.inl ⟨by kernel_rfl, fun w h => by go_simp; exact HX.out⟩) ?_
              go_simp
              refine HeldX.move 7 (v := .bool true) rfl (by kernel_rfl) (by kernel_rfl) (by kernel_rfl) (by kernel_rfl) (fun _ _ _ h => h) S8 (.inl ⟨by kernel_rfl, fun w h => by go_simp⟩) ?_
              go_simp
              refine HeldX.move 8 (v := .int .i64 0) rfl (by kernel_rfl) (by kernel_rfl) (by kernel_rfl) (by kernel_rfl) (fun _ _ _ h => h) S8 (.inl ⟨by kernel_rfl, fun w h => by go_simp⟩) ?_
              go_simp
              refine HeldX.move 9 (v := .pointer (some ⟨g8, 0, none⟩)) rfl (by kernel_rfl) (by kernel_rfl) (by kernel_rfl) (by kernel_rfl) (fun _ _ _ h => h) S8 (.inl ⟨by kernel_rfl, fun w h => by go_simp⟩) ?_
              go_simp
              refine HeldX.take 10 (v := .int .i64 n0) rfl (by kernel_rfl) (by kernel_rfl) (by kernel_rfl) (by kernel_rfl) (fun _ _ _ h => h) S8 (.inl ⟨by kernel_rfl, fun w h => by have h1 := h.1; go_simp⟩) ?_
              go_simp
              refine HeldX.move 11 (v := .int .i64 0) rfl (by kernel_rfl) (by kernel_rfl) (by kernel_rfl) (by kernel_rfl) (fun _ _ _ h => h) S8 (.inl ⟨by kernel_rfl, fun w h => by go_simp⟩) ?_
              go_simp
              refine HeldX.move 12 (v := .pointer (some ⟨g9, 0, none⟩)) rfl (by kernel_rfl) (by kernel_rfl) (by kernel_rfl) (by kernel_rfl) (fun _ _ _ h => h) S8 (.inl ⟨by kernel_rfl, fun w h => by go_simp⟩) ?_
              go_simp
              refine HeldX.take 13 (v := .int .i64 m0) rfl (by kernel_rfl) (by kernel_rfl) (by kernel_rfl) (by kernel_rfl) (fun _ _ _ h => h) S8 (.inl ⟨by kernel_rfl, fun w h => by have h1 := h.2.1; go_simp⟩) ?_
              go_simp
              refine HeldX.move 14 (v := .int .i64 (max n0 m0)) rfl (by kernel_rfl) (by kernel_rfl) (by kernel_rfl) (by kernel_rfl) (fun _ _ _ h => h) S8 (.inl ⟨by kernel_rfl, fun w h => by go_simp⟩) ?_
              go_simp
              refine HeldX.take 15 (v := .int .i64 hv) rfl (by kernel_rfl) (by kernel_rfl) (by kernel_rfl) (by kernel_rfl) (fun _ _ _ h => h) S8 (.inl ⟨by kernel_rfl, fun w h => by have h1 := h.2.2; go_simp⟩) ?_
              go_simp
              refine HeldX.move 16 (v := .bool true) rfl (by kernel_rfl) (by kernel_rfl) (by kernel_rfl) (by kernel_rfl) (fun _ _ _ h => h) S8 (.inl ⟨by kernel_rfl, fun w h => by go_simp⟩) ?_
              go_simp
              refine HeldX.move 17 (v := .bool true) rfl (by kernel_rfl) (by kernel_rfl) (by kernel_rfl) (by kernel_rfl) (fun _ _ _ h => h) S8 (.inl ⟨by kernel_rfl, fun w h => by go_simp⟩) ?_
              go_simp
              refine HeldX.done (by kernel_rfl) ?_ _
              have R := HF.out.r
              have B := HF.out.below
              have er := R.cell 0 rfl
              have fr := R.froz 0 (by simp)
              have zr := R.size
              go_wp2_with fail
              have R9 := (R.set 0 (by simp) (.int .i64 12)).drew
              have B9 := (B.setCell (p := ⟨w.heap.size + 1 + 1 + 1, 0, none⟩) (by show w.heap.size ≤ w.heap.size + 1 + 1 + 1; omega) (.int .i64 12)).drew
              generalize (wr.setCell ⟨w.heap.size + 1 + 1 + 1, 0, none⟩ (.int .i64 12)).drew = w9 at *
              have d0 := R9.cell 0 rfl
              show bodyPostM _ _ _ _ _ Exit.ret _ _
              refine ⟨.int .i64 12, by simp [results, Tryd.f30, go_sem, d0], ⟨12, rfl, fun h => absurd h (by decide)⟩, B9⟩
            · go_wp2_with fail
              have S8 : (fun w' => w'.cell? ⟨g8, 0, none⟩ = some (.int .i64 n0) ∧ w'.cell? ⟨g9, 0, none⟩ = some (.int .i64 m0) ∧ w'.cell? ⟨g7, 0, none⟩ = some (.int .i64 hv)) wr.drew := ⟨HF.out.n8.cell 0 rfl, HF.out.n9.cell 0 rfl, HF.out.h.cell 0 rfl⟩
              refine wp_region_heldX (fun w' => w'.cell? ⟨g8, 0, none⟩ = some (.int .i64 n0) ∧ w'.cell? ⟨g9, 0, none⟩ = some (.int .i64 m0) ∧ w'.cell? ⟨g7, 0, none⟩ = some (.int .i64 hv)) [] hmo ?_
              refine HeldX.move 0 (v := .int .i64 0) rfl (by kernel_rfl) (by kernel_rfl) (by kernel_rfl) (by kernel_rfl) (fun _ _ _ h => h) S8 (.inl ⟨by kernel_rfl, fun w h => by go_simp⟩) ?_
              go_simp
              refine HeldX.move 1 (v := .pointer (some ⟨g8, 0, none⟩)) rfl (by kernel_rfl) (by kernel_rfl) (by kernel_rfl) (by kernel_rfl) (fun _ _ _ h => h) S8 (.inl ⟨by kernel_rfl, fun w h => by go_simp⟩) ?_
              go_simp
              refine HeldX.take 2 (v := .int .i64 n0) rfl (by kernel_rfl) (by kernel_rfl) (by kernel_rfl) (by kernel_rfl) (fun _ _ _ h => h) S8 (.inl ⟨by kernel_rfl, fun w h => by have h1 := h.1; go_simp⟩) ?_
              go_simp
              refine HeldX.move 3 (v := .int .i64 0) rfl (by kernel_rfl) (by kernel_rfl) (by kernel_rfl) (by kernel_rfl) (fun _ _ _ h => h) S8 (.inl ⟨by kernel_rfl, fun w h => by go_simp⟩) ?_
              go_simp
              refine HeldX.move 4 (v := .pointer (some ⟨g9, 0, none⟩)) rfl (by kernel_rfl) (by kernel_rfl) (by kernel_rfl) (by kernel_rfl) (fun _ _ _ h => h) S8 (.inl ⟨by kernel_rfl, fun w h => by go_simp⟩) ?_
              go_simp
              refine HeldX.take 5 (v := .int .i64 m0) rfl (by kernel_rfl) (by kernel_rfl) (by kernel_rfl) (by kernel_rfl) (fun _ _ _ h => h) S8 (.inl ⟨by kernel_rfl, fun w h => by have h1 := h.2.1; go_simp⟩) ?_
              go_simp
              refine HeldX.move 6 (v := .bool true) rfl (by kernel_rfl) (by kernel_rfl) (by kernel_rfl) (by kernel_rfl) (fun _ _ _ h => h) S8 (.inl ⟨by kernel_rfl, fun w h => by go_simp; exact HX.out⟩) ?_
              go_simp
              refine HeldX.move 7 (v := .bool true) rfl (by kernel_rfl) (by kernel_rfl) (by kernel_rfl) (by kernel_rfl) (fun _ _ _ h => h) S8 (.inl ⟨by kernel_rfl, fun w h => by go_simp⟩) ?_
              go_simp
              refine HeldX.move 8 (v := .int .i64 0) rfl (by kernel_rfl) (by kernel_rfl) (by kernel_rfl) (by kernel_rfl) (fun _ _ _ h => h) S8 (.inl ⟨by kernel_rfl, fun w h => by go_simp⟩) ?_
              go_simp
              refine HeldX.move 9 (v := .pointer (some ⟨g8, 0, none⟩)) rfl (by kernel_rfl) (by kernel_rfl) (by kernel_rfl) (by kernel_rfl) (fun _ _ _ h => h) S8 (.inl ⟨by kernel_rfl, fun w h => by go_simp⟩) ?_
              go_simp
              refine HeldX.take 10 (v := .int .i64 n0) rfl (by kernel_rfl) (by kernel_rfl) (by kernel_rfl) (by kernel_rfl) (fun _ _ _ h => h) S8 (.inl ⟨by kernel_rfl, fun w h => by have h1 := h.1; go_simp⟩) ?_
              go_simp
              refine HeldX.move 11 (v := .int .i64 0) rfl (by kernel_rfl) (by kernel_rfl) (by kernel_rfl) (by kernel_rfl) (fun _ _ _ h => h) S8 (.inl ⟨by kernel_rfl, fun w h => by go_simp⟩) ?_
              go_simp
              refine HeldX.move 12 (v := .pointer (some ⟨g9, 0, none⟩)) rfl (by kernel_rfl) (by kernel_rfl) (by kernel_rfl) (by kernel_rfl) (fun _ _ _ h => h) S8 (.inl ⟨by kernel_rfl, fun w h => by go_simp⟩) ?_
              go_simp
              refine HeldX.take 13 (v := .int .i64 m0) rfl (by kernel_rfl) (by kernel_rfl) (by kernel_rfl) (by kernel_rfl) (fun _ _ _ h => h) S8 (.inl ⟨by kernel_rfl, fun w h => by have h1 := h.2.1; go_simp⟩) ?_
              go_simp
              refine HeldX.move 14 (v := .int .i64 (max n0 m0)) rfl (by kernel_rfl) (by kernel_rfl) (by kernel_rfl) (by kernel_rfl) (fun _ _ _ h => h) S8 (.inl ⟨by kernel_rfl, fun w h => by go_simp⟩) ?_
              go_simp
              refine HeldX.take 15 (v := .int .i64 hv) rfl (by kernel_rfl) (by kernel_rfl) (by kernel_rfl) (by kernel_rfl) (fun _ _ _ h => h) S8 (.inl ⟨by kernel_rfl, fun w h => by have h1 := h.2.2; go_simp⟩) ?_
              go_simp
              refine HeldX.move 16 (v := .bool false) rfl (by kernel_rfl) (by kernel_rfl) (by kernel_rfl) (by kernel_rfl) (fun _ _ _ h => h) S8 (.inl ⟨by kernel_rfl, fun w h => by go_simp⟩) ?_
              go_simp
              refine HeldX.move 17 (v := .bool false) rfl (by kernel_rfl) (by kernel_rfl) (by kernel_rfl) (by kernel_rfl) (fun _ _ _ h => h) S8 (.inl ⟨by kernel_rfl, fun w h => by go_simp⟩) ?_
              go_simp
              refine HeldX.done (by kernel_rfl) ?_ _
              go_wp2_with fail
              go_roundw
              case rel => exact ⟨1, by omega, by go_num, Lib.hid (HF.out.low (Below.refl _ wr).drew), Lib.hid (fun _ => .inr (by omega))⟩
              case measure => simp [intOf]
        · by_cases hnm : n1 = m1
          · have hnd : (n1 == m1) = true := by simpa using hnm
            have HX := Lib.hid hnm
            clear hnm
            go_wp2_with fail
            have S8 : (fun w' => w'.cell? ⟨g8, 1, none⟩ = some (.int .i64 n1) ∧ w'.cell? ⟨g9, 1, none⟩ = some (.int .i64 m1) ∧ w'.cell? ⟨g7, 0, none⟩ = some (.int .i64 hv)) wr.drew := ⟨HF.out.n8.cell 1 rfl, HF.out.n9.cell 1 rfl, HF.out.h.cell 0 rfl⟩
            refine wp_region_heldX (fun w' => w'.cell? ⟨g8, 1, none⟩ = some (.int .i64 n1) ∧ w'.cell? ⟨g9, 1, none⟩ = some (.int .i64 m1) ∧ w'.cell? ⟨g7, 0, none⟩ = some (.int .i64 hv)) [] hmo ?_
            refine HeldX.move 0 (v := .int .i64 1) rfl (by kernel_rfl) (by kernel_rfl) (by kernel_rfl) (by kernel_rfl) (fun _ _ _ h => h) S8 (.inl ⟨by kernel_rfl, fun w h => by go_simp⟩) ?_
            go_simp
            refine HeldX.move 1 (v := .pointer (some ⟨g8, 1, none⟩)) rfl (by kernel_rfl) (by kernel_rfl) (by kernel_rfl) (by kernel_rfl) (fun _ _ _ h => h) S8 (.inl ⟨by kernel_rfl, fun w h => by go_simp⟩) ?_
            go_simp
            refine HeldX.take 2 (v := .int .i64 n1) rfl (by kernel_rfl) (by kernel_rfl) (by kernel_rfl) (by kernel_rfl) (fun _ _ _ h => h) S8 (.inl ⟨by kernel_rfl, fun w h => by have h1 := h.1; go_simp⟩) ?_
            go_simp
            refine HeldX.move 3 (v := .int .i64 1) rfl (by kernel_rfl) (by kernel_rfl) (by kernel_rfl) (by kernel_rfl) (fun _ _ _ h => h) S8 (.inl ⟨by kernel_rfl, fun w h => by go_simp⟩) ?_
            go_simp
            refine HeldX.move 4 (v := .pointer (some ⟨g9, 1, none⟩)) rfl (by kernel_rfl) (by kernel_rfl) (by kernel_rfl) (by kernel_rfl) (fun _ _ _ h => h) S8 (.inl ⟨by kernel_rfl, fun w h => by go_simp⟩) ?_
            go_simp
            refine HeldX.take 5 (v := .int .i64 m1) rfl (by kernel_rfl) (by kernel_rfl) (by kernel_rfl) (by kernel_rfl) (fun _ _ _ h => h) S8 (.inl ⟨by kernel_rfl, fun w h => by have h1 := h.2.1; go_simp⟩) ?_
            go_simp
            refine HeldX.move 6 (v := .bool false) rfl (by kernel_rfl) (by kernel_rfl) (by kernel_rfl) (by kernel_rfl) (fun _ _ _ h => h) S8 (.inl ⟨by kernel_rfl, fun w h => by go_simp; exact HX.out⟩) ?_
            go_simp
            refine HeldX.move 7 (v := .bool false) rfl (by kernel_rfl) (by kernel_rfl) (by kernel_rfl) (by kernel_rfl) (fun _ _ _ h => h) S8 (.inl ⟨by kernel_rfl, fun w h => by go_simp⟩) ?_
            go_simp
            refine HeldX.move 8 (v := undef) rfl (by kernel_rfl) (by kernel_rfl) (by kernel_rfl) (by kernel_rfl) (fun _ _ _ h => h) S8 (.inr ⟨by kernel_rfl, rfl⟩) ?_
            go_simp
            refine HeldX.move 9 (v := undef) rfl (by kernel_rfl) (by kernel_rfl) (by kernel_rfl) (by kernel_rfl) (fun _ _ _ h => h) S8 (.inr ⟨by kernel_rfl, rfl⟩) ?_
            go_simp
            refine HeldX.move 10 (v := undef) rfl (by kernel_rfl) (by kernel_rfl) (by kernel_rfl) (by kernel_rfl) (fun _ _ _ h => h) S8 (.inr ⟨by kernel_rfl, rfl⟩) ?_
            go_simp
            refine HeldX.move 11 (v := undef) rfl (by kernel_rfl) (by kernel_rfl) (by kernel_rfl) (by kernel_rfl) (fun _ _ _ h => h) S8 (.inr ⟨by kernel_rfl, rfl⟩) ?_
            go_simp
            refine HeldX.move 12 (v := undef) rfl (by kernel_rfl) (by kernel_rfl) (by kernel_rfl) (by kernel_rfl) (fun _ _ _ h => h) S8 (.inr ⟨by kernel_rfl, rfl⟩) ?_
            go_simp
            refine HeldX.move 13 (v := undef) rfl (by kernel_rfl) (by kernel_rfl) (by kernel_rfl) (by kernel_rfl) (fun _ _ _ h => h) S8 (.inr ⟨by kernel_rfl, rfl⟩) ?_
            go_simp
            refine HeldX.move 14 (v := undef) rfl (by kernel_rfl) (by kernel_rfl) (by kernel_rfl) (by kernel_rfl) (fun _ _ _ h => h) S8 (.inr ⟨by kernel_rfl, rfl⟩) ?_
            go_simp
            refine HeldX.move 15 (v := undef) rfl (by kernel_rfl) (by kernel_rfl) (by kernel_rfl) (by kernel_rfl) (fun _ _ _ h => h) S8 (.inr ⟨by kernel_rfl, rfl⟩) ?_
            go_simp
            refine HeldX.move 16 (v := undef) rfl (by kernel_rfl) (by kernel_rfl) (by kernel_rfl) (by kernel_rfl) (fun _ _ _ h => h) S8 (.inr ⟨by kernel_rfl, rfl⟩) ?_
            go_simp
            refine HeldX.move 17 (v := .bool false) rfl (by kernel_rfl) (by kernel_rfl) (by kernel_rfl) (by kernel_rfl) (fun _ _ _ h => h) S8 (.inl ⟨by kernel_rfl, fun w h => by go_simp⟩) ?_
            go_simp
            refine HeldX.done (by kernel_rfl) ?_ _
            go_wp2_with fail
            go_roundw
            case rel => exact ⟨2, by omega, by go_num, Lib.hid (HF.out.low (Below.refl _ wr).drew), Lib.hid (fun _ => HJ.out (by omega))⟩
            case measure => simp [intOf]
          · have hnd : (n1 == m1) = false := by simpa using hnm
            have HX := Lib.hid hnm
            clear hnm
            by_cases hov : hv < (max n1 m1)
            · go_wp2_with fail
              have S8 : (fun w' => w'.cell? ⟨g8, 1, none⟩ = some (.int .i64 n1) ∧ w'.cell? ⟨g9, 1, none⟩ = some (.int .i64 m1) ∧ w'.cell? ⟨g7, 0, none⟩ = some (.int .i64 hv)) wr.drew := ⟨HF.out.n8.cell 1 rfl, HF.out.n9.cell 1 rfl, HF.out.h.cell 0 rfl⟩
              refine wp_region_heldX (fun w' => w'.cell? ⟨g8, 1, none⟩ = some (.int .i64 n1) ∧ w'.cell? ⟨g9, 1, none⟩ = some (.int .i64 m1) ∧ w'.cell? ⟨g7, 0, none⟩ = some (.int .i64 hv)) [] hmo ?_
              refine HeldX.move 0 (v := .int .i64 1) rfl (by kernel_rfl) (by kernel_rfl) (by kernel_rfl) (by kernel_rfl) (fun _ _ _ h => h) S8 (.inl ⟨by kernel_rfl, fun w h => by go_simp⟩) ?_
              go_simp
              refine HeldX.move 1 (v := .pointer (some ⟨g8, 1, none⟩)) rfl (by kernel_rfl) (by kernel_rfl) (by kernel_rfl) (by kernel_rfl) (fun _ _ _ h => h) S8 (.inl ⟨by kernel_rfl, fun w h => by go_simp⟩) ?_
              go_simp
              refine HeldX.take 2 (v := .int .i64 n1) rfl (by kernel_rfl) (by kernel_rfl) (by kernel_rfl) (by kernel_rfl) (fun _ _ _ h => h) S8 (.inl ⟨by kernel_rfl, fun w h => by have h1 := h.1; go_simp⟩) ?_
              go_simp
              refine HeldX.move 3 (v := .int .i64 1) rfl (by kernel_rfl) (by kernel_rfl) (by kernel_rfl) (by kernel_rfl) (fun _ _ _ h => h) S8 (.inl ⟨by kernel_rfl, fun w h => by go_simp⟩) ?_
              go_simp
              refine HeldX.move 4 (v := .pointer (some ⟨g9, 1, none⟩)) rfl (by kernel_rfl) (by kernel_rfl) (by kernel_rfl) (by kernel_rfl) (fun _ _ _ h => h) S8 (.inl ⟨by kernel_rfl, fun w h => by go_simp⟩) ?_
              go_simp
              refine HeldX.take 5 (v := .int .i64 m1) rfl (by kernel_rfl) (by kernel_rfl) (by kernel_rfl) (by kernel_rfl) (fun _ _ _ h => h) S8 (.inl ⟨by kernel_rfl, fun w h => by have h1 := h.2.1; go_simp⟩) ?_
              go_simp
              refine HeldX.move 6 (v := .bool true) rfl (by kernel_rfl) (by kernel_rfl) (by kernel_rfl) (by kernel_rfl) (fun _ _ _ h => h) S8 (.inl ⟨by kernel_rfl, fun w h => by go_simp; exact HX.out⟩) ?_
              go_simp
              refine HeldX.move 7 (v := .bool true) rfl (by kernel_rfl) (by kernel_rfl) (by kernel_rfl) (by kernel_rfl) (fun _ _ _ h => h) S8 (.inl ⟨by kernel_rfl, fun w h => by go_simp⟩) ?_
              go_simp
              refine HeldX.move 8 (v := .int .i64 1) rfl (by kernel_rfl) (by kernel_rfl) (by kernel_rfl) (by kernel_rfl) (fun _ _ _ h => h) S8 (.inl ⟨by kernel_rfl, fun w h => by go_simp⟩) ?_
              go_simp
              refine HeldX.move 9 (v := .pointer (some ⟨g8, 1, none⟩)) rfl (by kernel_rfl) (by kernel_rfl) (by kernel_rfl) (by kernel_rfl) (fun _ _ _ h => h) S8 (.inl ⟨by kernel_rfl, fun w h => by go_simp⟩) ?_
              go_simp
              refine HeldX.take 10 (v := .int .i64 n1) rfl (by kernel_rfl) (by kernel_rfl) (by kernel_rfl) (by kernel_rfl) (fun _ _ _ h => h) S8 (.inl ⟨by kernel_rfl, fun w h => by have h1 := h.1; go_simp⟩) ?_
              go_simp
              refine HeldX.move 11 (v := .int .i64 1) rfl (by kernel_rfl) (by kernel_rfl) (by kernel_rfl) (by kernel_rfl) (fun _ _ _ h => h) S8 (.inl ⟨by kernel_rfl, fun w h => by go_simp⟩) ?_
              go_simp
              refine HeldX.move 12 (v := .pointer (some ⟨g9, 1, none⟩)) rfl (by kernel_rfl) (by kernel_rfl) (by kernel_rfl) (by kernel_rfl) (fun _ _ _ h => h) S8 (.inl ⟨by kernel_rfl, fun w h => by go_simp⟩) ?_
              go_simp
              refine HeldX.take 13 (v := .int .i64 m1) rfl (by kernel_rfl) (by kernel_rfl) (by kernel_rfl) (by kernel_rfl) (fun _ _ _ h => h) S8 (.inl ⟨by kernel_rfl, fun w h => by have h1 := h.2.1; go_simp⟩) ?_
              go_simp
              refine HeldX.move 14 (v := .int .i64 (max n1 m1)) rfl (by kernel_rfl) (by kernel_rfl) (by kernel_rfl) (by kernel_rfl) (fun _ _ _ h => h) S8 (.inl ⟨by kernel_rfl, fun w h => by go_simp⟩) ?_
              go_simp
              refine HeldX.take 15 (v := .int .i64 hv) rfl (by kernel_rfl) (by kernel_rfl) (by kernel_rfl) (by kernel_rfl) (fun _ _ _ h => h) S8 (.inl ⟨by kernel_rfl, fun w h => by have h1 := h.2.2; go_simp⟩) ?_
              go_simp
              refine HeldX.move 16 (v := .bool true) rfl (by kernel_rfl) (by kernel_rfl) (by kernel_rfl) (by kernel_rfl) (fun _ _ _ h => h) S8 (.inl ⟨by kernel_rfl, fun w h => by go_simp⟩) ?_
              go_simp
              refine HeldX.move 17 (v := .bool true) rfl (by kernel_rfl) (by kernel_rfl) (by kernel_rfl) (by kernel_rfl) (fun _ _ _ h => h) S8 (.inl ⟨by kernel_rfl, fun w h => by go_simp⟩) ?_
              go_simp
              refine HeldX.done (by kernel_rfl) ?_ _
              have R := HF.out.r
              have B := HF.out.below
              have er := R.cell 0 rfl
              have fr := R.froz 0 (by simp)
              have zr := R.size
              go_wp2_with fail
              have R9 := (R.set 0 (by simp) (.int .i64 12)).drew
              have B9 := (B.setCell (p := ⟨w.heap.size + 1 + 1 + 1, 0, none⟩) (by show w.heap.size ≤ w.heap.size + 1 + 1 + 1; omega) (.int .i64 12)).drew
              generalize (wr.setCell ⟨w.heap.size + 1 + 1 + 1, 0, none⟩ (.int .i64 12)).drew = w9 at *
              have d0 := R9.cell 0 rfl
              show bodyPostM _ _ _ _ _ Exit.ret _ _
              refine ⟨.int .i64 12, by simp [results, Tryd.f30, go_sem, d0], ⟨12, rfl, fun h => absurd h (by decide)⟩, B9⟩
            · go_wp2_with fail
              have S8 : (fun w' => w'.cell? ⟨g8, 1, none⟩ = some (.int .i64 n1) ∧ w'.cell? ⟨g9, 1, none⟩ = some (.int .i64 m1) ∧ w'.cell? ⟨g7, 0, none⟩ = some (.int .i64 hv)) wr.drew := ⟨HF.out.n8.cell 1 rfl, HF.out.n9.cell 1 rfl, HF.out.h.cell 0 rfl⟩
              refine wp_region_heldX (fun w' => w'.cell? ⟨g8, 1, none⟩ = some (.int .i64 n1) ∧ w'.cell? ⟨g9, 1, none⟩ = some (.int .i64 m1) ∧ w'.cell? ⟨g7, 0, none⟩ = some (.int .i64 hv)) [] hmo ?_
              refine HeldX.move 0 (v := .int .i64 1) rfl (by kernel_rfl) (by kernel_rfl) (by kernel_rfl) (by kernel_rfl) (fun _ _ _ h => h) S8 (.inl ⟨by kernel_rfl, fun w h => by go_simp⟩) ?_
              go_simp
              refine HeldX.move 1 (v := .pointer (some ⟨g8, 1, none⟩)) rfl (by kernel_rfl) (by kernel_rfl) (by kernel_rfl) (by kernel_rfl) (fun _ _ _ h => h) S8 (.inl ⟨by kernel_rfl, fun w h => by go_simp⟩) ?_
              go_simp
              refine HeldX.take 2 (v := .int .i64 n1) rfl (by kernel_rfl) (by kernel_rfl) (by kernel_rfl) (by kernel_rfl) (fun _ _ _ h => h) S8 (.inl ⟨by kernel_rfl, fun w h => by have h1 := h.1; go_simp⟩) ?_
              go_simp
              refine HeldX.move 3 (v := .int .i64 1) rfl (by kernel_rfl) (by kernel_rfl) (by kernel_rfl) (by kernel_rfl) (fun _ _ _ h => h) S8 (.inl ⟨by kernel_rfl, fun w h => by go_simp⟩) ?_
              go_simp
              refine HeldX.move 4 (v := .pointer (some ⟨g9, 1, none⟩)) rfl (by kernel_rfl) (by kernel_rfl) (by kernel_rfl) (by kernel_rfl) (fun _ _ _ h => h) S8 (.inl ⟨by kernel_rfl, fun w h => by go_simp⟩) ?_
              go_simp
              refine HeldX.take 5 (v := .int .i64 m1) rfl (by kernel_rfl) (by kernel_rfl) (by kernel_rfl) (by kernel_rfl) (fun _ _ _ h => h) S8 (.inl ⟨by kernel_rfl, fun w h => by have h1 := h.2.1; go_simp⟩) ?_
              go_simp
              refine HeldX.move 6 (v := .bool true) rfl (by kernel_rfl) (by kernel_rfl) (by kernel_rfl) (by kernel_rfl) (fun _ _ _ h => h) S8 (.inl ⟨by kernel_rfl, fun w h => by go_simp; exact HX.out⟩) ?_
              go_simp
              refine HeldX.move 7 (v := .bool true) rfl (by kernel_rfl) (by kernel_rfl) (by kernel_rfl) (by kernel_rfl) (fun _ _ _ h => h) S8 (.inl ⟨by kernel_rfl, fun w h => by go_simp⟩) ?_
              go_simp
              refine HeldX.move 8 (v := .int .i64 1) rfl (by kernel_rfl) (by kernel_rfl) (by kernel_rfl) (by kernel_rfl) (fun _ _ _ h => h) S8 (.inl ⟨by kernel_rfl, fun w h => by go_simp⟩) ?_
              go_simp
              refine HeldX.move 9 (v := .pointer (some ⟨g8, 1, none⟩)) rfl (by kernel_rfl) (by kernel_rfl) (by kernel_rfl) (by kernel_rfl) (fun _ _ _ h => h) S8 (.inl ⟨by kernel_rfl, fun w h => by go_simp⟩) ?_
              go_simp
              refine HeldX.take 10 (v := .int .i64 n1) rfl (by kernel_rfl) (by kernel_rfl) (by kernel_rfl) (by kernel_rfl) (fun _ _ _ h => h) S8 (.inl ⟨by kernel_rfl, fun w h => by have h1 := h.1; go_simp⟩) ?_
              go_simp
              refine HeldX.move 11 (v := .int .i64 1) rfl (by kernel_rfl) (by kernel_rfl) (by kernel_rfl) (by kernel_rfl) (fun _ _ _ h => h) S8 (.inl ⟨by kernel_rfl, fun w h => by go_simp⟩) ?_
              go_simp
              refine HeldX.move 12 (v := .pointer (some ⟨g9, 1, none⟩)) rfl (by kernel_rfl) (by kernel_rfl) (by kernel_rfl) (by kernel_rfl) (fun _ _ _ h => h) S8 (.inl ⟨by kernel_rfl, fun w h => by go_simp⟩) ?_
              go_simp
              refine HeldX.take 13 (v := .int .i64 m1) rfl (by kernel_rfl) (by kernel_rfl) (by kernel_rfl) (by kernel_rfl) (fun _ _ _ h => h) S8 (.inl ⟨by kernel_rfl, fun w h => by have h1 := h.2.1; go_simp⟩) ?_
              go_simp
              refine HeldX.move 14 (v := .int .i64 (max n1 m1)) rfl (by kernel_rfl) (by kernel_rfl) (by kernel_rfl) (by kernel_rfl) (fun _ _ _ h => h) S8 (.inl ⟨by kernel_rfl, fun w h => by go_simp⟩) ?_
              go_simp
              refine HeldX.take 15 (v := .int .i64 hv) rfl (by kernel_rfl) (by kernel_rfl) (by kernel_rfl) (by kernel_rfl) (fun _ _ _ h => h) S8 (.inl ⟨by kernel_rfl, fun w h => by have h1 := h.2.2; go_simp⟩) ?_
              go_simp
              refine HeldX.move 16 (v := .bool false) rfl (by kernel_rfl) (by kernel_rfl) (by kernel_rfl) (by kernel_rfl) (fun _ _ _ h => h) S8 (.inl ⟨by kernel_rfl, fun w h => by go_simp⟩) ?_
              go_simp
              refine HeldX.move 17 (v := .bool false) rfl (by kernel_rfl) (by kernel_rfl) (by kernel_rfl) (by kernel_rfl) (fun _ _ _ h => h) S8 (.inl ⟨by kernel_rfl, fun w h => by go_simp⟩) ?_
              go_simp
              refine HeldX.done (by kernel_rfl) ?_ _
              go_wp2_with fail
              go_roundw
              case rel => exact ⟨2, by omega, by go_num, Lib.hid (HF.out.low (Below.refl _ wr).drew), Lib.hid (fun _ => HJ.out (by omega))⟩
              case measure => simp [intOf]
        · by_cases hnm : n2 = m2
          · have hnd : (n2 == m2) = true := by simpa using hnm
            have HX := Lib.hid hnm
            clear hnm
            go_wp2_with fail
            have S8 : (fun w' => w'.cell? ⟨g8, 2, none⟩ = some (.int .i64 n2) ∧ w'.cell? ⟨g9, 2, none⟩ = some (.int .i64 m2) ∧ w'.cell? ⟨g7, 0, none⟩ = some (.int .i64 hv)) wr.drew := ⟨HF.out.n8.cell 2 rfl, HF.out.n9.cell 2 rfl, HF.out.h.cell 0 rfl⟩
            refine wp_region_heldX (fun w' => w'.cell? ⟨g8, 2, none⟩ = some (.int .i64 n2) ∧ w'.cell? ⟨g9, 2, none⟩ = some (.int .i64 m2) ∧ w'.cell? ⟨g7, 0, none⟩ = some (.int .i64 hv)) [] hmo ?_
            refine HeldX.move 0 (v := .int .i64 2) rfl (by kernel_rfl) (by kernel_rfl) (by kernel_rfl) (by kernel_rfl) (fun _ _ _ h => h) S8 (.inl ⟨by kernel_rfl, fun w h => by go_simp⟩) ?_
            go_simp
            refine HeldX.move 1 (v := .pointer (some ⟨g8, 2, none⟩)) rfl (by kernel_rfl) (by kernel_rfl) (by kernel_rfl) (by kernel_rfl) (fun _ _ _ h => h) S8 (.inl ⟨by kernel_rfl, fun w h => by go_simp⟩) ?_
            go_simp
            refine HeldX.take 2 (v := .int .i64 n2) rfl (by kernel_rfl) (by kernel_rfl) (by kernel_rfl) (by kernel_rfl) (fun _ _ _ h => h) S8 (.inl ⟨by kernel_rfl, fun w h => by have h1 := h.1; go_simp⟩) ?_
            go_simp
            refine HeldX.move 3 (v := .int .i64 2) rfl (by kernel_rfl) (by kernel_rfl) (by kernel_rfl) (by kernel_rfl) (fun _ _ _ h => h) S8 (.inl ⟨by kernel_rfl, fun w h => by go_simp⟩) ?_
            go_simp
            refine HeldX.move 4 (v := .pointer (some ⟨g9, 2, none⟩)) rfl (by kernel_rfl) (by kernel_rfl) (by kernel_rfl) (by kernel_rfl) (fun _ _ _ h => h) S8 (.inl ⟨by kernel_rfl, fun w h => by go_simp⟩) ?_
            go_simp
            refine HeldX.take 5 (v := .int .i64 m2) rfl (by kernel_rfl) (by kernel_rfl) (by kernel_rfl) (by kernel_rfl) (fun _ _ _ h => h) S8 (.inl ⟨by kernel_rfl, fun w h => by have h1 := h.2.1; go_simp⟩) ?_
            go_simp
            refine HeldX.move 6 (v := .bool false) rfl (by kernel_rfl) (by kernel_rfl) (by kernel_rfl) (by kernel_rfl) (fun _ _ _ h => h) S8 (.inl ⟨by kernel_rfl, fun w h => by go_simp; exact HX.out⟩) ?_
            go_simp
            refine HeldX.move 7 (v := .bool false) rfl (by kernel_rfl) (by kernel_rfl) (by kernel_rfl) (by kernel_rfl) (fun _ _ _ h => h) S8 (.inl ⟨by kernel_rfl, fun w h => by go_simp⟩) ?_
            go_simp
            refine HeldX.move 8 (v := undef) rfl (by kernel_rfl) (by kernel_rfl) (by kernel_rfl) (by kernel_rfl) (fun _ _ _ h => h) S8 (.inr ⟨by kernel_rfl, rfl⟩) ?_
            go_simp
            refine HeldX.move 9 (v := undef) rfl (by kernel_rfl) (by kernel_rfl) (by kernel_rfl) (by kernel_rfl) (fun _ _ _ h => h) S8 (.inr ⟨by kernel_rfl, rfl⟩) ?_
            go_simp
            refine HeldX.move 10 (v := undef) rfl (by kernel_rfl) (by kernel_rfl) (by kernel_rfl) (by kernel_rfl) (fun _ _ _ h => h) S8 (.inr ⟨by kernel_rfl, rfl⟩) ?_
            go_simp
            refine HeldX.move 11 (v := undef) rfl (by kernel_rfl) (by kernel_rfl) (by kernel_rfl) (by kernel_rfl) (fun _ _ _ h => h) S8 (.inr ⟨by kernel_rfl, rfl⟩) ?_
            go_simp
            refine HeldX.move 12 (v := undef) rfl (by kernel_rfl) (by kernel_rfl) (by kernel_rfl) (by kernel_rfl) (fun _ _ _ h => h) S8 (.inr ⟨by kernel_rfl, rfl⟩) ?_
            go_simp
            refine HeldX.move 13 (v := undef) rfl (by kernel_rfl) (by kernel_rfl) (by kernel_rfl) (by kernel_rfl) (fun _ _ _ h => h) S8 (.inr ⟨by kernel_rfl, rfl⟩) ?_
            go_simp
            refine HeldX.move 14 (v := undef) rfl (by kernel_rfl) (by kernel_rfl) (by kernel_rfl) (by kernel_rfl) (fun _ _ _ h => h) S8 (.inr ⟨by kernel_rfl, rfl⟩) ?_
            go_simp
            refine HeldX.move 15 (v := undef) rfl (by kernel_rfl) (by kernel_rfl) (by kernel_rfl) (by kernel_rfl) (fun _ _ _ h => h) S8 (.inr ⟨by kernel_rfl, rfl⟩) ?_
            go_simp
            refine HeldX.move 16 (v := undef) rfl (by kernel_rfl) (by kernel_rfl) (by kernel_rfl) (by kernel_rfl) (fun _ _ _ h => h) S8 (.inr ⟨by kernel_rfl, rfl⟩) ?_
            go_simp
            refine HeldX.move 17 (v := .bool false) rfl (by kernel_rfl) (by kernel_rfl) (by kernel_rfl) (by kernel_rfl) (fun _ _ _ h => h) S8 (.inl ⟨by kernel_rfl, fun w h => by go_simp⟩) ?_
            go_simp
            refine HeldX.done (by kernel_rfl) ?_ _
            go_wp2_with fail
            go_roundw
            case rel => exact ⟨3, by omega, by go_num, Lib.hid (HF.out.low (Below.refl _ wr).drew), Lib.hid (fun _ => HJ.out (by omega))⟩
            case measure => simp [intOf]
          · have hnd : (n2 == m2) = false := by simpa using hnm
            have HX := Lib.hid hnm
            clear hnm
            by_cases hov : hv < (max n2 m2)
            · go_wp2_with fail
              have S8 : (fun w' => w'.cell? ⟨g8, 2, none⟩ = some (.int .i64 n2) ∧ w'.cell? ⟨g9, 2, none⟩ = some (.int .i64 m2) ∧ w'.cell? ⟨g7, 0, none⟩ = some (.int .i64 hv)) wr.drew := ⟨HF.out.n8.cell 2 rfl, HF.out.n9.cell 2 rfl, HF.out.h.cell 0 rfl⟩
              refine wp_region_heldX (fun w' => w'.cell? ⟨g8, 2, none⟩ = some (.int .i64 n2) ∧ w'.cell? ⟨g9, 2, none⟩ = some (.int .i64 m2) ∧ w'.cell? ⟨g7, 0, none⟩ = some (.int .i64 hv)) [] hmo ?_
              refine HeldX.move 0 (v := .int .i64 2) rfl (by kernel_rfl) (by kernel_rfl) (by kernel_rfl) (by kernel_rfl) (fun _ _ _ h => h) S8 (.inl ⟨by kernel_rfl, fun w h => by go_simp⟩) ?_
              go_simp
              refine HeldX.move 1 (v := .pointer (some ⟨g8, 2, none⟩)) rfl (by kernel_rfl) (by kernel_rfl) (by kernel_rfl) (by kernel_rfl) (fun _ _ _ h => h) S8 (.inl ⟨by kernel_rfl, fun w h => by go_simp⟩) ?_
              go_simp
              refine HeldX.take 2 (v := .int .i64 n2) rfl (by kernel_rfl) (by kernel_rfl) (by kernel_rfl) (by kernel_rfl) (fun _ _ _ h => h) S8 (.inl ⟨by kernel_rfl, fun w h => by have h1 := h.1; go_simp⟩) ?_
              go_simp
              refine HeldX.move 3 (v := .int .i64 2) rfl (by kernel_rfl) (by kernel_rfl) (by kernel_rfl) (by kernel_rfl) (fun _ _ _ h => h) S8 (.inl ⟨by kernel_rfl, fun w h => by go_simp⟩) ?_
              go_simp
              refine HeldX.move 4 (v := .pointer (some ⟨g9, 2, none⟩)) rfl (by kernel_rfl) (by kernel_rfl) (by kernel_rfl) (by kernel_rfl) (fun _ _ _ h => h) S8 (.inl ⟨by kernel_rfl, fun w h => by go_simp⟩) ?_
              go_simp
              refine HeldX.take 5 (v := .int .i64 m2) rfl (by kernel_rfl) (by kernel_rfl) (by kernel_rfl) (by kernel_rfl) (fun _ _ _ h => h) S8 (.inl ⟨by kernel_rfl, fun w h => by have h1 := h.2.1; go_simp⟩) ?_
              go_simp
              refine HeldX.move 6 (v := .bool true) rfl (by kernel_rfl) (by kernel_rfl) (by kernel_rfl) (by kernel_rfl) (fun _ _ _ h => h) S8 (.inl ⟨by kernel_rfl, fun w h => by go_simp; exact HX.out⟩) ?_
              go_simp
              refine HeldX.move 7 (v := .bool true) rfl (by kernel_rfl) (by kernel_rfl) (by kernel_rfl) (by kernel_rfl) (fun _ _ _ h => h) S8 (.inl ⟨by kernel_rfl, fun w h => by go_simp⟩) ?_
              go_simp
              refine HeldX.move 8 (v := .int .i64 2) rfl (by kernel_rfl) (by kernel_rfl) (by kernel_rfl) (by kernel_rfl) (fun _ _ _ h => h) S8 (.inl ⟨by kernel_rfl, fun w h => by go_simp⟩) ?_
              go_simp
              refine HeldX.move 9 (v := .pointer (some ⟨g8, 2, none⟩)) rfl (by kernel_rfl) (by kernel_rfl) (by kernel_rfl) (by kernel_rfl) (fun _ _ _ h => h) S8 (.inl ⟨by kernel_rfl, fun w h => by go_simp⟩) ?_
              go_simp
              refine HeldX.take 10 (v := .int .i64 n2) rfl (by kernel_rfl) (by kernel_rfl) (by kernel_rfl) (by kernel_rfl) (fun _ _ _ h => h) S8 (.inl ⟨by kernel_rfl, fun w h => by have h1 := h.1; go_simp⟩) ?_
              go_simp
              refine HeldX.move 11 (v := .int .i64 2) rfl (by kernel_rfl) (by kernel_rfl) (by kernel_rfl) (by kernel_rfl) (fun _ _ _ h => h) S8 (.inl ⟨by kernel_rfl, fun w h => by go_simp⟩) ?_
              go_simp
              refine HeldX.move 12 (v := .pointer (some ⟨g9, 2, none⟩)) rfl (by kernel_rfl) (by kernel_rfl) (by kernel_rfl) (by kernel_rfl) (fun _ _ _ h => h) S8 (.inl ⟨by kernel_rfl, fun w h => by go_simp⟩) ?_
              go_simp
              refine HeldX.take 13 (v := .int .i64 m2) rfl (by kernel_rfl) (by kernel_rfl) (by kernel_rfl) (by kernel_rfl) (fun _ _ _ h => h) S8 (.inl ⟨by kernel_rfl, fun w h => by have h1 := h.2.1; go_simp⟩) ?_
              go_simp
              refine HeldX.move 14 (v := .int .i64 (max n2 m2)) rfl (by kernel_rfl) (by kernel_rfl) (by kernel_rfl) (by kernel_rfl) (fun _ _ _ h => h) S8 (.inl ⟨by kernel_rfl, fun w h => by go_simp⟩) ?_
              go_simp
              refine HeldX.take 15 (v := .int .i64 hv) rfl (by kernel_rfl) (by kernel_rfl) (by kernel_rfl) (by kernel_rfl) (fun _ _ _ h => h) S8 (.inl ⟨by kernel_rfl, fun w h => by have h1 := h.2.2; go_simp⟩) ?_
              go_simp
              refine HeldX.move 16 (v := .bool true) rfl (by kernel_rfl) (by kernel_rfl) (by kernel_rfl) (by kernel_rfl) (fun _ _ _ h => h) S8 (.inl ⟨by kernel_rfl, fun w h => by go_simp⟩) ?_
              go_simp
              refine HeldX.move 17 (v := .bool true) rfl (by kernel_rfl) (by kernel_rfl) (by kernel_rfl) (by kernel_rfl) (fun _ _ _ h => h) S8 (.inl ⟨by kernel_rfl, fun w h => by go_simp⟩) ?_
              go_simp
              refine HeldX.done (by kernel_rfl) ?_ _
              have R := HF.out.r
              have B := HF.out.below
              have er := R.cell 0 rfl
              have fr := R.froz 0 (by simp)
              have zr := R.size
              go_wp2_with fail
              have R9 := (R.set 0 (by simp) (.int .i64 12)).drew
              have B9 := (B.setCell (p := ⟨w.heap.size + 1 + 1 + 1, 0, none⟩) (by show w.heap.size ≤ w.heap.size + 1 + 1 + 1; omega) (.int .i64 12)).drew
              generalize (wr.setCell ⟨w.heap.size + 1 + 1 + 1, 0, none⟩ (.int .i64 12)).drew = w9 at *
              have d0 := R9.cell 0 rfl
              show bodyPostM _ _ _ _ _ Exit.ret _ _
              refine ⟨.int .i64 12, by simp [results, Tryd.f30, go_sem, d0], ⟨12, rfl, fun h => absurd h (by decide)⟩, B9⟩
            · go_wp2_with fail
              have S8 : (fun w' => w'.cell? ⟨g8, 2, none⟩ = some (.int .i64 n2) ∧ w'.cell? ⟨g9, 2, none⟩ = some (.int .i64 m2) ∧ w'.cell? ⟨g7, 0, none⟩ = some (.int .i64 hv)) wr.drew := ⟨HF.out.n8.cell 2 rfl, HF.out.n9.cell 2 rfl, HF.out.h.cell 0 rfl⟩
              refine wp_region_heldX (fun w' => w'.cell? ⟨g8, 2, none⟩ = some (.int .i64 n2) ∧ w'.cell? ⟨g9, 2, none⟩ = some (.int .i64 m2) ∧ w'.cell? ⟨g7, 0, none⟩ = some (.int .i64 hv)) [] hmo ?_
              refine HeldX.move 0 (v := .int .i64 2) rfl (by kernel_rfl) (by kernel_rfl) (by kernel_rfl) (by kernel_rfl) (fun _ _ _ h => h) S8 (.inl ⟨by kernel_rfl, fun w h => by go_simp⟩) ?_
              go_simp
              refine HeldX.move 1 (v := .pointer (some ⟨g8, 2, none⟩)) rfl (by kernel_rfl) (by kernel_rfl) (by kernel_rfl) (by kernel_rfl) (fun _ _ _ h => h) S8 (.inl ⟨by kernel_rfl, fun w h => by go_simp⟩) ?_
              go_simp
              refine HeldX.take 2 (v := .int .i64 n2) rfl (by kernel_rfl) (by kernel_rfl) (by kernel_rfl) (by kernel_rfl) (fun _ _ _ h => h) S8 (.inl ⟨by kernel_rfl, fun w h => by have h1 := h.1; go_simp⟩) ?_
              go_simp
              refine HeldX.move 3 (v := .int .i64 2) rfl (by kernel_rfl) (by kernel_rfl) (by kernel_rfl) (by kernel_rfl) (fun _ _ _ h => h) S8 (.inl ⟨by kernel_rfl, fun w h => by go_simp⟩) ?_
              go_simp
              refine HeldX.move 4 (v := .pointer (some ⟨g9, 2, none⟩)) rfl (by kernel_rfl) (by kernel_rfl) (by kernel_rfl) (by kernel_rfl) (fun _ _ _ h => h) S8 (.inl ⟨by kernel_rfl, fun w h => by go_simp⟩) ?_
              go_simp
              refine HeldX.take 5 (v := .int .i64 m2) rfl (by kernel_rfl) (by kernel_rfl) (by kernel_rfl) (by kernel_rfl) (fun _ _ _ h => h) S8 (.inl ⟨by kernel_rfl, fun w h => by have h1 := h.2.1; go_simp⟩) ?_
              go_simp
              refine HeldX.move 6 (v := .bool true) rfl (by kernel_rfl) (by kernel_rfl) (by kernel_rfl) (by kernel_rfl) (fun _ _ _ h => h) S8 (.inl ⟨by kernel_rfl, fun w h => by go_simp; exact HX.out⟩) ?_
              go_simp
              refine HeldX.move 7 (v := .bool true) rfl (by kernel_rfl) (by kernel_rfl) (by kernel_rfl) (by kernel_rfl) (fun _ _ _ h => h) S8 (.inl ⟨by kernel_rfl, fun w h => by go_simp⟩) ?_
              go_simp
              refine HeldX.move 8 (v := .int .i64 2) rfl (by kernel_rfl) (by kernel_rfl) (by kernel_rfl) (by kernel_rfl) (fun _ _ _ h => h) S8 (.inl ⟨by kernel_rfl, fun w h => by go_simp⟩) ?_
              go_simp
              refine HeldX.move 9 (v := .pointer (some ⟨g8, 2, none⟩)) rfl (by kernel_rfl) (by kernel_rfl) (by kernel_rfl) (by kernel_rfl) (fun _ _ _ h => h) S8 (.inl ⟨by kernel_rfl, fun w h => by go_simp⟩) ?_
              go_simp
              refine HeldX.take 10 (v := .int .i64 n2) rfl (by kernel_rfl) (by kernel_rfl) (by kernel_rfl) (by kernel_rfl) (fun _ _ _ h => h) S8 (.inl ⟨by kernel_rfl, fun w h => by have h1 := h.1; go_simp⟩) ?_
              go_simp
              refine HeldX.move 11 (v := .int .i64 2) rfl (by kernel_rfl) (by kernel_rfl) (by kernel_rfl) (by kernel_rfl) (fun _ _ _ h => h) S8 (.inl ⟨by kernel_rfl, fun w h => by go_simp⟩) ?_
              go_simp
              refine HeldX.move 12 (v := .pointer (some ⟨g9, 2, none⟩)) rfl (by kernel_rfl) (by kernel_rfl) (by kernel_rfl) (by kernel_rfl) (fun _ _ _ h => h) S8 (.inl ⟨by kernel_rfl, fun w h => by go_simp⟩) ?_
              go_simp
              refine HeldX.take 13 (v := .int .i64 m2) rfl (by kernel_rfl) (by kernel_rfl) (by kernel_rfl) (by kernel_rfl) (fun _ _ _ h => h) S8 (.inl ⟨by kernel_rfl, fun w h => by have h1 := h.2.1; go_simp⟩) ?_
              go_simp
              refine HeldX.move 14 (v := .int .i64 (max n2 m2)) rfl (by kernel_rfl) (by kernel_rfl) (by kernel_rfl) (by kernel_rfl) (fun _ _ _ h => h) S8 (.inl ⟨by kernel_rfl, fun w h => by go_simp⟩) ?_
              go_simp
              refine HeldX.take 15 (v := .int .i64 hv) rfl (by kernel_rfl) (by kernel_rfl) (by kernel_rfl) (by kernel_rfl) (fun _ _ _ h => h) S8 (.inl ⟨by kernel_rfl, fun w h => by have h1 := h.2.2; go_simp⟩) ?_
              go_simp
              refine HeldX.move 16 (v := .bool false) rfl (by kernel_rfl) (by kernel_rfl) (by kernel_rfl) (by kernel_rfl) (fun _ _ _ h => h) S8 (.inl ⟨by kernel_rfl, fun w h => by go_simp⟩) ?_
              go_simp
              refine HeldX.move 17 (v := .bool false) rfl (by kernel_rfl) (by kernel_rfl) (by kernel_rfl) (by kernel_rfl) (fun _ _ _ h => h) S8 (.inl ⟨by kernel_rfl, fun w h => by go_simp⟩) ?_
              go_simp
              refine HeldX.done (by kernel_rfl) ?_ _
              go_wp2_with fail
              go_roundw
              case rel => exact ⟨3, by omega, by go_num, Lib.hid (HF.out.low (Below.refl _ wr).drew), Lib.hid (fun _ => HJ.out (by omega))⟩
              case measure => simp [intOf]
        · by_cases hnm : n3 = m3
          · have hnd : (n3 == m3) = true := by simpa using hnm
            have HX := Lib.hid hnm
            clear hnm
            go_wp2_with fail
            have S8 : (fun w' => w'.cell? ⟨g8, 3, none⟩ = some (.int .i64 n3) ∧ w'.cell? ⟨g9, 3, none⟩ = some (.int .i64 m3) ∧ w'.cell? ⟨g7, 0, none⟩ = some (.int .i64 hv)) wr.drew := ⟨HF.out.n8.cell 3 rfl, HF.out.n9.cell 3 rfl, HF.out.h.cell 0 rfl⟩
            refine wp_region_heldX (fun w' => w'.cell? ⟨g8, 3, none⟩ = some (.int .i64 n3) ∧ w'.cell? ⟨g9, 3, none⟩ = some (.int .i64 m3) ∧ w'.cell? ⟨g7, 0, none⟩ = some (.int .i64 hv)) [] hmo ?_
            refine HeldX.move 0 (v := .int .i64 3) rfl (by kernel_rfl) (by kernel_rfl) (by kernel_rfl) (by kernel_rfl) (fun _ _ _ h => h) S8 (.inl ⟨by kernel_rfl, fun w h => by go_simp⟩) ?_
            go_simp
            refine HeldX.move 1 (v := .pointer (some ⟨g8, 3, none⟩)) rfl (by kernel_rfl) (by kernel_rfl) (by kernel_rfl) (by kernel_rfl) (fun _ _ _ h => h) S8 (.inl ⟨by kernel_rfl, fun w h => by go_simp⟩) ?_
            go_simp
            refine HeldX.take 2 (v := .int .i64 n3) rfl (by kernel_rfl) (by kernel_rfl) (by kernel_rfl) (by kernel_rfl) (fun _ _ _ h => h) S8 (.inl ⟨by kernel_rfl, fun w h => by have h1 := h.1; go_simp⟩) ?_
            go_simp
            refine HeldX.move 3 (v := .int .i64 3) rfl (by kernel_rfl) (by kernel_rfl) (by kernel_rfl) (by kernel_rfl) (fun _ _ _ h => h) S8 (.inl ⟨by kernel_rfl, fun w h => by go_simp⟩) ?_
            go_simp
            refine HeldX.move 4 (v := .pointer (some ⟨g9, 3, none⟩)) rfl (by kernel_rfl) (by kernel_rfl) (by kernel_rfl) (by kernel_rfl) (fun _ _ _ h => h) S8 (.inl ⟨by kernel_rfl, fun w h => by go_simp⟩) ?_
            go_simp
            refine HeldX.take 5 (v := .int .i64 m3) rfl (by kernel_rfl) (by kernel_rfl) (by kernel_rfl) (by kernel_rfl) (fun _ _ _ h => h) S8 (.inl ⟨by kernel_rfl, fun w h => by have h1 := h.2.1; go_simp⟩) ?_
            go_simp
            refine HeldX.move 6 (v := .bool false) rfl (by kernel_rfl) (by kernel_rfl) (by kernel_rfl) (by kernel_rfl) (fun _ _ _ h => h) S8 (.inl ⟨by kernel_rfl, fun w h => by go_simp; exact HX.out⟩) ?_
            go_simp
            refine HeldX.move 7 (v := .bool false) rfl (by kernel_rfl) (by kernel_rfl) (by kernel_rfl) (by kernel_rfl) (fun _ _ _ h => h) S8 (.inl ⟨by kernel_rfl, fun w h => by go_simp⟩) ?_
            go_simp
            refine HeldX.move 8 (v := undef) rfl (by kernel_rfl) (by kernel_rfl) (by kernel_rfl) (by kernel_rfl) (fun _ _ _ h => h) S8 (.inr ⟨by kernel_rfl, rfl⟩) ?_
            go_simp
            refine HeldX.move 9 (v := undef) rfl (by kernel_rfl) (by kernel_rfl) (by kernel_rfl) (by kernel_rfl) (fun _ _ _ h => h) S8 (.inr ⟨by kernel_rfl, rfl⟩) ?_
            go_simp
            refine HeldX.move 10 (v := undef) rfl (by kernel_rfl) (by kernel_rfl) (by kernel_rfl) (by kernel_rfl) (fun _ _ _ h => h) S8 (.inr ⟨by kernel_rfl, rfl⟩) ?_
            go_simp
            refine HeldX.move 11 (v := undef) rfl (by kernel_rfl) (by kernel_rfl) (by kernel_rfl) (by kernel_rfl) (fun _ _ _ h => h) S8 (.inr ⟨by kernel_rfl, rfl⟩) ?_
            go_simp
            refine HeldX.move 12 (v := undef) rfl (by kernel_rfl) (by kernel_rfl) (by kernel_rfl) (by kernel_rfl) (fun _ _ _ h => h) S8 (.inr ⟨by kernel_rfl, rfl⟩) ?_
            go_simp
            refine HeldX.move 13 (v := undef) rfl (by kernel_rfl) (by kernel_rfl) (by kernel_rfl) (by kernel_rfl) (fun _ _ _ h => h) S8 (.inr ⟨by kernel_rfl, rfl⟩) ?_
            go_simp
            refine HeldX.move 14 (v := undef) rfl (by kernel_rfl) (by kernel_rfl) (by kernel_rfl) (by kernel_rfl) (fun _ _ _ h => h) S8 (.inr ⟨by kernel_rfl, rfl⟩) ?_
            go_simp
            refine HeldX.move 15 (v := undef) rfl (by kernel_rfl) (by kernel_rfl) (by kernel_rfl) (by kernel_rfl) (fun _ _ _ h => h) S8 (.inr ⟨by kernel_rfl, rfl⟩) ?_
            go_simp
            refine HeldX.move 16 (v := undef) rfl (by kernel_rfl) (by kernel_rfl) (by kernel_rfl) (by kernel_rfl) (fun _ _ _ h => h) S8 (.inr ⟨by kernel_rfl, rfl⟩) ?_
            go_simp
            refine HeldX.move 17 (v := .bool false) rfl (by kernel_rfl) (by kernel_rfl) (by kernel_rfl) (by kernel_rfl) (fun _ _ _ h => h) S8 (.inl ⟨by kernel_rfl, fun w h => by go_simp⟩) ?_
            go_simp
            refine HeldX.done (by kernel_rfl) ?_ _
            go_wp2_with fail
            go_roundw
            case rel => exact ⟨4, by omega, by go_num, Lib.hid (HF.out.low (Below.refl _ wr).drew), Lib.hid (fun _ => HJ.out (by omega))⟩
            case measure => simp [intOf]
          · have hnd : (n3 == m3) = false := by simpa using hnm
            have HX := Lib.hid hnm
            clear hnm
            by_cases hov : hv < (max n3 m3)
            · go_wp2_with fail
              have S8 : (fun w' => w'.cell? ⟨g8, 3, none⟩ = some (.int .i64 n3) ∧ w'.cell? ⟨g9, 3, none⟩ = some (.int .i64 m3) ∧ w'.cell? ⟨g7, 0, none⟩ = some (.int .i64 hv)) wr.drew := ⟨HF.out.n8.cell 3 rfl, HF.out.n9.cell 3 rfl, HF.out.h.cell 0 rfl⟩
              refine wp_region_heldX (fun w' => w'.cell? ⟨g8, 3, none⟩ = some (.int .i64 n3) ∧ w'.cell? ⟨g9, 3, none⟩ = some (.int .i64 m3) ∧ w'.cell? ⟨g7, 0, none⟩ = some (.int .i64 hv)) [] hmo ?_
              refine HeldX.move 0 (v := .int .i64 3) rfl (by kernel_rfl) (by kernel_rfl) (by kernel_rfl) (by kernel_rfl) (fun _ _ _ h => h) S8 (.inl ⟨by kernel_rfl, fun w h => by go_simp⟩) ?_
              go_simp
              refine HeldX.move 1 (v := .pointer (some ⟨g8, 3, none⟩)) rfl (by kernel_rfl) (by kernel_rfl) (by kernel_rfl) (by kernel_rfl) (fun _ _ _ h => h) S8 (.inl ⟨by kernel_rfl, fun w h => by go_simp⟩) ?_
              go_simp
              refine HeldX.take 2 (v := .int .i64 n3) rfl (by kernel_rfl) (by kernel_rfl) (by kernel_rfl) (by kernel_rfl) (fun _ _ _ h => h) S8 (.inl ⟨by kernel_rfl, fun w h => by have h1 := h.1; go_simp⟩) ?_
              go_simp
              refine HeldX.move 3 (v := .int .i64 3) rfl (by kernel_rfl) (by kernel_rfl) (by kernel_rfl) (by kernel_rfl) (fun _ _ _ h => h) S8 (.inl ⟨by kernel_rfl, fun w h => by go_simp⟩) ?_
              go_simp
              refine HeldX.move 4 (v := .pointer (some ⟨g9, 3, none⟩)) rfl (by kernel_rfl) (by kernel_rfl) (by kernel_rfl) (by kernel_rfl) (fun _ _ _ h => h) S8 (.inl ⟨by kernel_rfl, fun w h => by go_simp⟩) ?_
              go_simp
              refine HeldX.take 5 (v := .int .i64 m3) rfl (by kernel_rfl) (by kernel_rfl) (by kernel_rfl) (by kernel_rfl) (fun _ _ _ h => h) S8 (.inl ⟨by kernel_rfl, fun w h => by have h1 := h.2.1; go_simp⟩) ?_
              go_simp
              refine HeldX.move 6 (v := .bool true) rfl (by kernel_rfl) (by kernel_rfl) (by kernel_rfl) (by kernel_rfl) (fun _ _ _ h => h) S8 (.inl ⟨by kernel_rfl, fun w h => by go_simp; exact HX.out⟩) ?_
              go_simp
              refine HeldX.move 7 (v := .bool true) rfl (by kernel_rfl) (by kernel_rfl) (by kernel_rfl) (by kernel_rfl) (fun _ _ _ h => h) S8 (.inl ⟨by kernel_rfl, fun w h => by go_simp⟩) ?_
              go_simp
              refine HeldX.move 8 (v := .int .i64 3) rfl (by kernel_rfl) (by kernel_rfl) (by kernel_rfl) (by kernel_rfl) (fun _ _ _ h => h) S8 (.inl ⟨by kernel_rfl, fun w h => by go_simp⟩) ?_
              go_simp
              refine HeldX.move 9 (v := .pointer (some ⟨g8, 3, none⟩)) rfl (by kernel_rfl) (by kernel_rfl) (by kernel_rfl) (by kernel_rfl) (fun _ _ _ h => h) S8 (.inl ⟨by kernel_rfl, fun w h => by go_simp⟩) ?_
              go_simp
              refine HeldX.take 10 (v := .int .i64 n3) rfl (by kernel_rfl) (by kernel_rfl) (by kernel_rfl) (by kernel_rfl) (fun _ _ _ h => h) S8 (.inl ⟨by kernel_rfl, fun w h => by have h1 := h.1; go_simp⟩) ?_
              go_simp
              refine HeldX.move 11 (v := .int .i64 3) rfl (by kernel_rfl) (by kernel_rfl) (by kernel_rfl) (by kernel_rfl) (fun _ _ _ h => h) S8 (.inl ⟨by kernel_rfl, fun w h => by go_simp⟩) ?_
              go_simp
              refine HeldX.move 12 (v := .pointer (some ⟨g9, 3, none⟩)) rfl (by kernel_rfl) (by kernel_rfl) (by kernel_rfl) (by kernel_rfl) (fun _ _ _ h => h) S8 (.inl ⟨by kernel_rfl, fun w h => by go_simp⟩) ?_
              go_simp
              refine HeldX.take 13 (v := .int .i64 m3) rfl (by kernel_rfl) (by kernel_rfl) (by kernel_rfl) (by kernel_rfl) (fun _ _ _ h => h) S8 (.inl ⟨by kernel_rfl, fun w h => by have h1 := h.2.1; go_simp⟩) ?_
              go_simp
              refine HeldX.move 14 (v := .int .i64 (max n3 m3)) rfl (by kernel_rfl) (by kernel_rfl) (by kernel_rfl) (by kernel_rfl) (fun _ _ _ h => h) S8 (.inl ⟨by kernel_rfl, fun w h => by go_simp⟩) ?_
              go_simp
              refine HeldX.take 15 (v := .int .i64 hv) rfl (by kernel_rfl) (by kernel_rfl) (by kernel_rfl) (by kernel_rfl) (fun _ _ _ h => h) S8 (.inl ⟨by kernel_rfl, fun w h => by have h1 := h.2.2; go_simp⟩) ?_
              go_simp
              refine HeldX.move 16 (v := .bool true) rfl (by kernel_rfl) (by kernel_rfl) (by kernel_rfl) (by kernel_rfl) (fun _ _ _ h => h) S8 (.inl ⟨by kernel_rfl, fun w h => by go_simp⟩) ?_
              go_simp
              refine HeldX.move 17 (v := .bool true) rfl (by kernel_rfl) (by kernel_rfl) (by kernel_rfl) (by kernel_rfl) (fun _ _ _ h => h) S8 (.inl ⟨by kernel_rfl, fun w h => by go_simp⟩) ?_
              go_simp
              refine HeldX.done (by kernel_rfl) ?_ _
              have R := HF.out.r
              have B := HF.out.below
              have er := R.cell 0 rfl
              have fr := R.froz 0 (by simp)
              have zr := R.size
              go_wp2_with fail
              have R9 := (R.set 0 (by simp) (.int .i64 12)).drew
              have B9 := (B.setCell (p := ⟨w.heap.size + 1 + 1 + 1, 0, none⟩) (by show w.heap.size ≤ w.heap.size + 1 + 1 + 1; omega) (.int .i64 12)).drew
              generalize (wr.setCell ⟨w.heap.size + 1 + 1 + 1, 0, none⟩ (.int .i64 12)).drew = w9 at *
              have d0 := R9.cell 0 rfl
              show bodyPostM _ _ _ _ _ Exit.ret _ _
              refine ⟨.int .i64 12, by simp [results, Tryd.f30, go_sem, d0], ⟨12, rfl, fun h => absurd h (by decide)⟩, B9⟩
            · go_wp2_with fail
              have S8 : (fun w' => w'.cell? ⟨g8, 3, none⟩ = some (.int .i64 n3) ∧ w'.cell? ⟨g9, 3, none⟩ = some (.int .i64 m3) ∧ w'.cell? ⟨g7, 0, none⟩ = some (.int .i64 hv)) wr.drew := ⟨HF.out.n8.cell 3 rfl, HF.out.n9.cell 3 rfl, HF.out.h.cell 0 rfl⟩
              refine wp_region_heldX (fun w' => w'.cell? ⟨g8, 3, none⟩ = some (.int .i64 n3) ∧ w'.cell? ⟨g9, 3, none⟩ = some (.int .i64 m3) ∧ w'.cell? ⟨g7, 0, none⟩ = some (.int .i64 hv)) [] hmo ?_
              refine HeldX.move 0 (v := .int .i64 3) rfl (by kernel_rfl) (by kernel_rfl) (by kernel_rfl) (by kernel_rfl) (fun _ _ _ h => h) S8 (.inl ⟨by kernel_rfl, fun w h => by go_simp⟩) ?_
              go_simp
              refine HeldX.move 1 (v := .pointer (some ⟨g8, 3, none⟩)) rfl (by kernel_rfl) (by kernel_rfl) (by kernel_rfl) (by kernel_rfl) (fun _ _ _ h => h) S8 (.inl ⟨by kernel_rfl, fun w h => by go_simp⟩) ?_
              go_simp
              refine HeldX.take 2 (v := .int .i64 n3) rfl (by kernel_rfl) (by kernel_rfl) (by kernel_rfl) (by kernel_rfl) (fun _ _ _ h => h) S8 (.inl ⟨by kernel_rfl, fun w h => by have h1 := h.1; go_simp⟩) ?_
              go_simp
              refine HeldX.move 3 (v := .int .i64 3) rfl (by kernel_rfl) (by kernel_rfl) (by kernel_rfl) (by kernel_rfl) (fun _ _ _ h => h) S8 (.inl ⟨by kernel_rfl, fun w h => by go_simp⟩) ?_
              go_simp
              refine HeldX.move 4 (v := .pointer (some ⟨g9, 3, none⟩)) rfl (by kernel_rfl) (by kernel_rfl) (by kernel_rfl) (by kernel_rfl) (fun _ _ _ h => h) S8 (.inl ⟨by kernel_rfl, fun w h => by go_simp⟩) ?_
              go_simp
              refine HeldX.take 5 (v := .int .i64 m3) rfl (by kernel_rfl) (by kernel_rfl) (by kernel_rfl) (by kernel_rfl) (fun _ _ _ h => h) S8 (.inl ⟨by kernel_rfl, fun w h => by have h1 := h.2.1; go_simp⟩) ?_
              go_simp
              refine HeldX.move 6 (v := .bool true) rfl (by kernel_rfl) (by kernel_rfl) (by kernel_rfl) (by kernel_rfl) (fun _ _ _ h => h) S8 (.inl ⟨by kernel_rfl, fun w h => by go_simp; exact HX.out⟩) ?_
              go_simp
              refine HeldX.move 7 (v := .bool true) rfl (by kernel_rfl) (by kernel_rfl) (by kernel_rfl) (by kernel_rfl) (fun _ _ _ h => h) S8 (.inl ⟨by kernel_rfl, fun w h => by go_simp⟩) ?_
              go_simp
              refine HeldX.move 8 (v := .int .i64 3) rfl (by kernel_rfl) (by kernel_rfl) (by kernel_rfl) (by kernel_rfl) (fun _ _ _ h => h) S8 (.inl ⟨by kernel_rfl, fun w h => by go_simp⟩) ?_
              go_simp
              refine HeldX.move 9 (v := .pointer (some ⟨g8, 3, none⟩)) rfl (by kernel_rfl) (by kernel_rfl) (by kernel_rfl) (by kernel_rfl) (fun _ _ _ h => h) S8 (.inl ⟨by kernel_rfl, fun w h => by go_simp⟩) ?_
              go_simp
              refine HeldX.take 10 (v := .int .i64 n3) rfl (by kernel_rfl) (by kernel_rfl) (by kernel_rfl) (by kernel_rfl) (fun _ _ _ h => h) S8 (.inl ⟨by kernel_rfl, fun w h => by have h1 := h.1; go_simp⟩) ?_
              go_simp
              refine HeldX.move 11 (v := .int .i64 3) rfl (by kernel_rfl) (by kernel_rfl) (by kernel_rfl) (by kernel_rfl) (fun _ _ _ h => h) S8 (.inl ⟨by kernel_rfl, fun w h => by go_simp⟩) ?_
              go_simp
              refine HeldX.move 12 (v := .pointer (some ⟨g9, 3, none⟩)) rfl (by kernel_rfl) (by kernel_rfl) (by kernel_rfl) (by kernel_rfl) (fun _ _ _ h => h) S8 (.inl ⟨by kernel_rfl, fun w h => by go_simp⟩) ?_
              go_simp
              refine HeldX.take 13 (v := .int .i64 m3) rfl (by kernel_rfl) (by kernel_rfl) (by kernel_rfl) (by kernel_rfl) (fun _ _ _ h => h) S8 (.inl ⟨by kernel_rfl, fun w h => by have h1 := h.2.1; go_simp⟩) ?_
              go_simp
              refine HeldX.move 14 (v := .int .i64 (max n3 m3)) rfl (by kernel_rfl) (by kernel_rfl) (by kernel_rfl) (by kernel_rfl) (fun _ _ _ h => h) S8 (.inl ⟨by kernel_rfl, fun w h => by go_simp⟩) ?_
              go_simp
              refine HeldX.take 15 (v := .int .i64 hv) rfl (by kernel_rfl) (by kernel_rfl) (by kernel_rfl) (by kernel_rfl) (fun _ _ _ h => h) S8 (.inl ⟨by kernel_rfl, fun w h => by have h1 := h.2.2; go_simp⟩) ?_
              go_simp
              refine HeldX.move 16 (v := .bool false) rfl (by kernel_rfl) (by kernel_rfl) (by kernel_rfl) (by kernel_rfl) (fun _ _ _ h => h) S8 (.inl ⟨by kernel_rfl, fun w h => by go_simp⟩) ?_
              go_simp
              refine HeldX.move 17 (v := .bool false) rfl (by kernel_rfl) (by kernel_rfl) (by kernel_rfl) (by kernel_rfl) (fun _ _ _ h => h) S8 (.inl ⟨by kernel_rfl, fun w h => by go_simp⟩) ?_
              go_simp
              refine HeldX.done (by kernel_rfl) ?_ _
              go_wp2_with fail
              go_roundw
              case rel => exact ⟨4, by omega, by go_num, Lib.hid (HF.out.low (Below.refl _ wr).drew), Lib.hid (fun _ => HJ.out (by omega))⟩
              case measure => simp [intOf]
        · by_cases hnm : n4 = m4
          · have hnd : (n4 == m4) = true := by simpa using hnm
            have HX := Lib.hid hnm
            clear hnm
            go_wp2_with fail
            have S8 : (fun w' => w'.cell? ⟨g8, 4, none⟩ = some (.int .i64 n4) ∧ w'.cell? ⟨g9, 4, none⟩ = some (.int .i64 m4) ∧ w'.cell? ⟨g7, 0, none⟩ = some (.int .i64 hv)) wr.drew := ⟨HF.out.n8.cell 4 rfl, HF.out.n9.cell 4 rfl, HF.out.h.cell 0 rfl⟩
            refine wp_region_heldX (fun w' => w'.cell? ⟨g8, 4, none⟩ = some (.int .i64 n4) ∧ w'.cell? ⟨g9, 4, none⟩ = some (.int .i64 m4) ∧ w'.cell? ⟨g7, 0, none⟩ = some (.int .i64 hv)) [] hmo ?_
            refine HeldX.move 0 (v := .int .i64 4) rfl (by kernel_rfl) (by kernel_rfl) (by kernel_rfl) (by kernel_rfl) (fun _ _ _ h => h) S8 (.inl ⟨by kernel_rfl, fun w h => by go_simp⟩) ?_
            go_simp
            refine HeldX.move 1 (v := .pointer (some ⟨g8, 4, none⟩)) rfl (by kernel_rfl) (by kernel_rfl) (by kernel_rfl) (by kernel_rfl) (fun _ _ _ h => h) S8 (.inl ⟨by kernel_rfl, fun w h => by go_simp⟩) ?_
            go_simp
            refine HeldX.take 2 (v := .int .i64 n4) rfl (by kernel_rfl) (by kernel_rfl) (by kernel_rfl) (by kernel_rfl) (fun _ _ _ h => h) S8 (.inl ⟨by kernel_rfl, fun w h => by have h1 := h.1; go_simp⟩) ?_
            go_simp
            refine HeldX.move 3 (v := .int .i64 4) rfl (by kernel_rfl) (by kernel_rfl) (by kernel_rfl) (by kernel_rfl) (fun _ _ _ h => h) S8 (.inl ⟨by kernel_rfl, fun w h => by go_simp⟩) ?_
            go_simp
            refine HeldX.move 4 (v := .pointer (some ⟨g9, 4, none⟩)) rfl (by kernel_rfl) (by kernel_rfl) (by kernel_rfl) (by kernel_rfl) (fun _ _ _ h => h) S8 (.inl ⟨by kernel_rfl, fun w h => by go_simp⟩) ?_
            go_simp
            refine HeldX.take 5 (v := .int .i64 m4) rfl (by kernel_rfl) (by kernel_rfl) (by kernel_rfl) (by kernel_rfl) (fun _ _ _ h => h) S8 (.inl ⟨by kernel_rfl, fun w h => by have h1 := h.2.1; go_simp⟩) ?_
            go_simp
            refine HeldX.move 6 (v := .bool false) rfl (by kernel_rfl) (by kernel_rfl) (by kernel_rfl) (by kernel_rfl) (fun _ _ _ h => h) S8 (.inl ⟨by kernel_rfl, fun w h => by go_simp; exact HX.out⟩) ?_
            go_simp
            refine HeldX.move 7 (v := .bool false) rfl (by kernel_rfl) (by kernel_rfl) (by kernel_rfl) (by kernel_rfl) (fun _ _ _ h => h) S8 (.inl ⟨by kernel_rfl, fun w h => by go_simp⟩) ?_
            go_simp
            refine HeldX.move 8 (v := undef) rfl (by kernel_rfl) (by kernel_rfl) (by kernel_rfl) (by kernel_rfl) (fun _ _ _ h => h) S8 (.inr ⟨by kernel_rfl, rfl⟩) ?_
            go_simp
            refine HeldX.move 9 (v := undef) rfl (by kernel_rfl) (by kernel_rfl) (by kernel_rfl) (by kernel_rfl) (fun _ _ _ h => h) S8 (.inr ⟨by kernel_rfl, rfl⟩) ?_
            go_simp
            refine HeldX.move 10 (v := undef) rfl (by kernel_rfl) (by kernel_rfl) (by kernel_rfl) (by kernel_rfl) (fun _ _ _ h => h) S8 (.inr ⟨by kernel_rfl, rfl⟩) ?_
            go_simp
            refine HeldX.move 11 (v := undef) rfl (by kernel_rfl) (by kernel_rfl) (by kernel_rfl) (by kernel_rfl) (fun _ _ _ h => h) S8 (.inr ⟨by kernel_rfl, rfl⟩) ?_
            go_simp
            refine HeldX.move 12 (v := undef) rfl (by kernel_rfl) (by kernel_rfl) (by kernel_rfl) (by kernel_rfl) (fun _ _ _ h => h) S8 (.inr ⟨by kernel_rfl, rfl⟩) ?_
            go_simp
            refine HeldX.move 13 (v := undef) rfl (by kernel_rfl) (by kernel_rfl) (by kernel_rfl) (by kernel_rfl) (fun _ _ _ h => h) S8 (.inr ⟨by kernel_rfl, rfl⟩) ?_
            go_simp
            refine HeldX.move 14 (v := undef) rfl (by kernel_rfl) (by kernel_rfl) (by kernel_rfl) (by kernel_rfl) (fun _ _ _ h => h) S8 (.inr ⟨by kernel_rfl, rfl⟩) ?_
            go_simp
            refine HeldX.move 15 (v := undef) rfl (by kernel_rfl) (by kernel_rfl) (by kernel_rfl) (by kernel_rfl) (fun _ _ _ h => h) S8 (.inr ⟨by kernel_rfl, rfl⟩) ?_
            go_simp
            refine HeldX.move 16 (v := undef) rfl (by kernel_rfl) (by kernel_rfl) (by kernel_rfl) (by kernel_rfl) (fun _ _ _ h => h) S8 (.inr ⟨by kernel_rfl, rfl⟩) ?_
            go_simp
            refine HeldX.move 17 (v := .bool false) rfl (by kernel_rfl) (by kernel_rfl) (by kernel_rfl) (by kernel_rfl) (fun _ _ _ h => h) S8 (.inl ⟨by kernel_rfl, fun w h => by go_simp⟩) ?_
            go_simp
            refine HeldX.done (by kernel_rfl) ?_ _
            go_wp2_with fail
            go_roundw
            case rel => exact ⟨5, by omega, by go_num, Lib.hid (HF.out.low (Below.refl _ wr).drew), Lib.hid (fun _ => HJ.out (by omega))⟩
            case measure => simp [intOf]
          · have hnd : (n4 == m4) = false := by simpa using hnm
            have HX := Lib.hid hnm
            clear hnm
            by_cases hov : hv < (max n4 m4)
            · go_wp2_with fail
              have S8 : (fun w' => w'.cell? ⟨g8, 4, none⟩ = some (.int .i64 n4) ∧ w'.cell? ⟨g9, 4, none⟩ = some (.int .i64 m4) ∧ w'.cell? ⟨g7, 0, none⟩ = some (.int .i64 hv)) wr.drew := ⟨HF.out.n8.cell 4 rfl, HF.out.n9.cell 4 rfl, HF.out.h.cell 0 rfl⟩
              refine wp_region_heldX (fun w' => w'.cell? ⟨g8, 4, none⟩ = some (.int .i64 n4) ∧ w'.cell? ⟨g9, 4, none⟩ = some (.int .i64 m4) ∧ w'.cell? ⟨g7, 0, none⟩ = some (.int .i64 hv)) [] hmo ?_
              refine HeldX.move 0 (v := .int .i64 4) rfl (by kernel_rfl) (by kernel_rfl) (by kernel_rfl) (by kernel_rfl) (fun _ _ _ h => h) S8 (.inl ⟨by kernel_rfl, fun w h => by go_simp⟩) ?_
              go_simp
              refine HeldX.move 1 (v := .pointer (some ⟨g8, 4, none⟩)) rfl (by kernel_rfl) (by kernel_rfl) (by kernel_rfl) (by kernel_rfl) (fun _ _ _ h => h) S8 (.inl ⟨by kernel_rfl, fun w h => by go_simp⟩) ?_
              go_simp
              refine HeldX.take 2 (v := .int .i64 n4) rfl (by kernel_rfl) (by kernel_rfl) (by kernel_rfl) (by kernel_rfl) (fun _ _ _ h => h) S8 (.inl ⟨by kernel_rfl, fun w h => by have h1 := h.1; go_simp⟩) ?_
              go_simp
              refine HeldX.move 3 (v := .int .i64 4) rfl (by kernel_rfl) (by kernel_rfl) (by kernel_rfl) (by kernel_rfl) (fun _ _ _ h => h) S8 (.inl ⟨by kernel_rfl, fun w h => by go_simp⟩) ?_
              go_simp
              refine HeldX.move 4 (v := .pointer (some ⟨g9, 4, none⟩)) rfl (by kernel_rfl) (by kernel_rfl) (by kernel_rfl) (by kernel_rfl) (fun _ _ _ h => h) S8 (.inl ⟨by kernel_rfl, fun w h => by go_simp⟩) ?_
              go_simp
              refine HeldX.take 5 (v := .int .i64 m4) rfl (by kernel_rfl) (by kernel_rfl) (by kernel_rfl) (by kernel_rfl) (fun _ _ _ h => h) S8 (.inl ⟨by kernel_rfl, fun w h => by have h1 := h.2.1; go_simp⟩) ?_
              go_simp
              refine HeldX.move 6 (v := .bool true) rfl (by kernel_rfl) (by kernel_rfl) (by kernel_rfl) (by kernel_rfl) (fun _ _ _ h => h) S8 (.inl ⟨by kernel_rfl, fun w h => by go_simp; exact HX.out⟩) ?_
              go_simp
              refine HeldX.move 7 (v := .bool true) rfl (by kernel_rfl) (by kernel_rfl) (by kernel_rfl) (by kernel_rfl) (fun _ _ _ h => h) S8 (.inl ⟨by kernel_rfl, fun w h => by go_simp⟩) ?_
              go_simp
              refine HeldX.move 8 (v := .int .i64 4) rfl (by kernel_rfl) (by kernel_rfl) (by kernel_rfl) (by kernel_rfl) (fun _ _ _ h => h) S8 (.inl ⟨by kernel_rfl, fun w h => by go_simp⟩) ?_
              go_simp
              refine HeldX.move 9 (v := .pointer (some ⟨g8, 4, none⟩)) rfl (by kernel_rfl) (by kernel_rfl) (by kernel_rfl) (by kernel_rfl) (fun _ _ _ h => h) S8 (.inl ⟨by kernel_rfl, fun w h => by go_simp⟩) ?_
              go_simp
              refine HeldX.take 10 (v := .int .i64 n4) rfl (by kernel_rfl) (by kernel_rfl) (by kernel_rfl) (by kernel_rfl) (fun _ _ _ h => h) S8 (.inl ⟨by kernel_rfl, fun w h => by have h1 := h.1; go_simp⟩) ?_
              go_simp
              refine HeldX.move 11 (v := .int .i64 4) rfl (by kernel_rfl) (by kernel_rfl) (by kernel_rfl) (by kernel_rfl) (fun _ _ _ h => h) S8 (.inl ⟨by kernel_rfl, fun w h => by go_simp⟩) ?_
              go_simp
              refine HeldX.move 12 (v := .pointer (some ⟨g9, 4, none⟩)) rfl (by kernel_rfl) (by kernel_rfl) (by kernel_rfl) (by kernel_rfl) (fun _ _ _ h => h) S8 (.inl ⟨by kernel_rfl, fun w h => by go_simp⟩) ?_
              go_simp
              refine HeldX.take 13 (v := .int .i64 m4) rfl (by kernel_rfl) (by kernel_rfl) (by kernel_rfl) (by kernel_rfl) (fun _ _ _ h => h) S8 (.inl ⟨by kernel_rfl, fun w h => by have h1 := h.2.1; go_simp⟩) ?_
              go_simp
              refine HeldX.move 14 (v := .int .i64 (max n4 m4)) rfl (by kernel_rfl) (by kernel_rfl) (by kernel_rfl) (by kernel_rfl) (fun _ _ _ h => h) S8 (.inl ⟨by kernel_rfl, fun w h => by go_simp⟩) ?_
              go_simp
              refine HeldX.take 15 (v := .int .i64 hv) rfl (by kernel_rfl) (by kernel_rfl) (by kernel_rfl) (by kernel_rfl) (fun _ _ _ h => h) S8 (.inl ⟨by kernel_rfl, fun w h => by have h1 := h.2.2; go_simp⟩) ?_
              go_simp
              refine HeldX.move 16 (v := .bool true) rfl (by kernel_rfl) (by kernel_rfl) (by kernel_rfl) (by kernel_rfl) (fun _ _ _ h => h) S8 (.inl ⟨by kernel_rfl, fun w h => by go_simp⟩) ?_
              go_simp
              refine HeldX.move 17 (v := .bool true) rfl (by kernel_rfl) (by kernel_rfl) (by kernel_rfl) (by kernel_rfl) (fun _ _ _ h => h) S8 (.inl ⟨by kernel_rfl, fun w h => by go_simp⟩) ?_
              go_simp
              refine HeldX.done (by kernel_rfl) ?_ _
              have R := HF.out.r
              have B := HF.out.below
              have er := R.cell 0 rfl
              have fr := R.froz 0 (by simp)
              have zr := R.size
              go_wp2_with fail
              have R9 := (R.set 0 (by simp) (.int .i64 12)).drew
              have B9 := (B.setCell (p := ⟨w.heap.size + 1 + 1 + 1, 0, none⟩) (by show w.heap.size ≤ w.heap.size + 1 + 1 + 1; omega) (.int .i64 12)).drew
              generalize (wr.setCell ⟨w.heap.size + 1 + 1 + 1, 0, none⟩ (.int .i64 12)).drew = w9 at *
              have d0 := R9.cell 0 rfl
              show bodyPostM _ _ _ _ _ Exit.ret _ _
              refine ⟨.int .i64 12, by simp [results, Tryd.f30, go_sem, d0], ⟨12, rfl, fun h => absurd h (by decide)⟩, B9⟩
            · go_wp2_with fail
              have S8 : (fun w' => w'.cell? ⟨g8, 4, none⟩ = some (.int .i64 n4) ∧ w'.cell? ⟨g9, 4, none⟩ = some (.int .i64 m4) ∧ w'.cell? ⟨g7, 0, none⟩ = some (.int .i64 hv)) wr.drew := ⟨HF.out.n8.cell 4 rfl, HF.out.n9.cell 4 rfl, HF.out.h.cell 0 rfl⟩
              refine wp_region_heldX (fun w' => w'.cell? ⟨g8, 4, none⟩ = some (.int .i64 n4) ∧ w'.cell? ⟨g9, 4, none⟩ = some (.int .i64 m4) ∧ w'.cell? ⟨g7, 0, none⟩ = some (.int .i64 hv)) [] hmo ?_
              refine HeldX.move 0 (v := .int .i64 4) rfl (by kernel_rfl) (by kernel_rfl) (by kernel_rfl) (by kernel_rfl) (fun _ _ _ h => h) S8 (.inl ⟨by kernel_rfl, fun w h => by go_simp⟩) ?_
              go_simp
              refine HeldX.move 1 (v := .pointer (some ⟨g8, 4, none⟩)) rfl (by kernel_rfl) (by kernel_rfl) (by kernel_rfl) (by kernel_rfl) (fun _ _ _ h => h) S8 (.inl ⟨by kernel_rfl, fun w h => by go_simp⟩) ?_
              go_simp
              refine HeldX.take 2 (v := .int .i64 n4) rfl (by kernel_rfl) (by kernel_rfl) (by kernel_rfl) (by kernel_rfl) (fun _ _ _ h => h) S8 (.inl ⟨by kernel_rfl, fun w h => by have h1 := h.1; go_simp⟩) ?_
              go_simp
              refine HeldX.move 3 (v := .int .i64 4) rfl (by kernel_rfl) (by kernel_rfl) (by kernel_rfl) (by kernel_rfl) (fun _ _ _ h => h) S8 (.inl ⟨by kernel_rfl, fun w h => by go_simp⟩) ?_
              go_simp
              refine HeldX.move 4 (v := .pointer (some ⟨g9, 4, none⟩)) rfl (by kernel_rfl) (by kernel_rfl) (by kernel_rfl) (by kernel_rfl) (fun _ _ _ h => h) S8 (.inl ⟨by kernel_rfl, fun w h => by go_simp⟩) ?_
              go_simp
              refine HeldX.take 5 (v := .int .i64 m4) rfl (by kernel_rfl) (by kernel_rfl) (by kernel_rfl) (by kernel_rfl) (fun _ _ _ h => h) S8 (.inl ⟨by kernel_rfl, fun w h => by have h1 := h.2.1; go_simp⟩) ?_
              go_simp
              refine HeldX.move 6 (v := .bool true) rfl (by kernel_rfl) (by kernel_rfl) (by kernel_rfl) (by kernel_rfl) (fun _ _ _ h => h) S8 (.inl ⟨by kernel_rfl, fun w h => by go_simp; exact HX.out⟩) ?_
              go_simp
              refine HeldX.move 7 (v := .bool true) rfl (by kernel_rfl) (by kernel_rfl) (by kernel_rfl) (by kernel_rfl) (fun _ _ _ h => h) S8 (.inl ⟨by kernel_rfl, fun w h => by go_simp⟩) ?_
              go_simp
              refine HeldX.move 8 (v := .int .i64 4) rfl (by kernel_rfl) (by kernel_rfl) (by kernel_rfl) (by kernel_rfl) (fun _ _ _ h => h) S8 (.inl ⟨by kernel_rfl, fun w h => by go_simp⟩) ?_
              go_simp
              refine HeldX.move 9 (v := .pointer (some ⟨g8, 4, none⟩)) rfl (by kernel_rfl) (by kernel_rfl) (by kernel_rfl) (by kernel_rfl) (fun _ _ _ h => h) S8 (.inl ⟨by kernel_rfl, fun w h => by go_simp⟩) ?_
              go_simp
              refine HeldX.take 10 (v := .int .i64 n4) rfl (by kernel_rfl) (by kernel_rfl) (by kernel_rfl) (by kernel_rfl) (fun _ _ _ h => h) S8 (.inl ⟨by kernel_rfl, fun w h => by have h1 := h.1; go_simp⟩) ?_
              go_simp
              refine HeldX.move 11 (v := .int .i64 4) rfl (by kernel_rfl) (by kernel_rfl) (by kernel_rfl) (by kernel_rfl) (fun _ _ _ h => h) S8 (.inl ⟨by kernel_rfl, fun w h => by go_simp⟩) ?_
              go_simp
              refine HeldX.move 12 (v := .pointer (some ⟨g9, 4, none⟩)) rfl (by kernel_rfl) (by kernel_rfl) (by kernel_rfl) (by kernel_rfl) (fun _ _ _ h => h) S8 (.inl ⟨by kernel_rfl, fun w h => by go_simp⟩) ?_
              go_simp
              refine HeldX.take 13 (v := .int .i64 m4) rfl (by kernel_rfl) (by kernel_rfl) (by kernel_rfl) (by kernel_rfl) (fun _ _ _ h => h) S8 (.inl ⟨by kernel_rfl, fun w h => by have h1 := h.2.1; go_simp⟩) ?_
              go_simp
              refine HeldX.move 14 (v := .int .i64 (max n4 m4)) rfl (by kernel_rfl) (by kernel_rfl) (by kernel_rfl) (by kernel_rfl) (fun _ _ _ h => h) S8 (.inl ⟨by kernel_rfl, fun w h => by go_simp⟩) ?_
              go_simp
              refine HeldX.take 15 (v := .int .i64 hv) rfl (by kernel_rfl) (by kernel_rfl) (by kernel_rfl) (by kernel_rfl) (fun _ _ _ h => h) S8 (.inl ⟨by kernel_rfl, fun w h => by have h1 := h.2.2; go_simp⟩) ?_
              go_simp
              refine HeldX.move 16 (v := .bool false) rfl (by kernel_rfl) (by kernel_rfl) (by kernel_rfl) (by kernel_rfl) (fun _ _ _ h => h) S8 (.inl ⟨by kernel_rfl, fun w h => by go_simp⟩) ?_
              go_simp
              refine HeldX.move 17 (v := .bool false) rfl (by kernel_rfl) (by kernel_rfl) (by kernel_rfl) (by kernel_rfl) (fun _ _ _ h => h) S8 (.inl ⟨by kernel_rfl, fun w h => by go_simp⟩) ?_
              go_simp
              refine HeldX.done (by kernel_rfl) ?_ _
              go_wp2_with fail
              go_roundw
              case rel => exact ⟨5, by omega, by go_num, Lib.hid (HF.out.low (Below.refl _ wr).drew), Lib.hid (fun _ => HJ.out (by omega))⟩
              case measure => simp [intOf]
        · by_cases hnm : n5 = m5
          · have hnd : (n5 == m5) = true := by simpa using hnm
            have HX := Lib.hid hnm
            clear hnm
            go_wp2_with fail
            have S8 : (fun w' => w'.cell? ⟨g8, 5, none⟩ = some (.int .i64 n5) ∧ w'.cell? ⟨g9, 5, none⟩ = some (.int .i64 m5) ∧ w'.cell? ⟨g7, 0, none⟩ = some (.int .i64 hv)) wr.drew := ⟨HF.out.n8.cell 5 rfl, HF.out.n9.cell 5 rfl, HF.out.h.cell 0 rfl⟩
            refine wp_region_heldX (fun w' => w'.cell? ⟨g8, 5, none⟩ = some (.int .i64 n5) ∧ w'.cell? ⟨g9, 5, none⟩ = some (.int .i64 m5) ∧ w'.cell? ⟨g7, 0, none⟩ = some (.int .i64 hv)) [] hmo ?_
            refine HeldX.move 0 (v := .int .i64 5) rfl (by kernel_rfl) (by kernel_rfl) (by kernel_rfl) (by kernel_rfl) (fun _ _ _ h => h) S8 (.inl ⟨by kernel_rfl, fun w h => by go_simp⟩) ?_
            go_simp
            refine HeldX.move 1 (v := .pointer (some ⟨g8, 5, none⟩)) rfl (by kernel_rfl) (by kernel_rfl) (by kernel_rfl) (by kernel_rfl) (fun _ _ _ h => h) S8 (.inl ⟨by kernel_rfl, fun w h => by go_simp⟩) ?_
            go_simp
            refine HeldX.take 2 (v := .int .i64 n5) rfl (by kernel_rfl) (by kernel_rfl) (by kernel_rfl) (by kernel_rfl) (fun _ _ _ h => h) S8 (.inl ⟨by kernel_rfl, fun w h => by have h1 := h.1; go_simp⟩) ?_
            go_simp
            refine HeldX.move 3 (v := .int .i64 5) rfl (by kernel_rfl) (by kernel_rfl) (by kernel_rfl) (by kernel_rfl) (fun _ _ _ h => h) S8 (.inl ⟨by kernel_rfl, fun w h => by go_simp⟩) ?_
            go_simp
            refine HeldX.move 4 (v := .pointer (some ⟨g9, 5, none⟩)) rfl (by kernel_rfl) (by kernel_rfl) (by kernel_rfl) (by kernel_rfl) (fun _ _ _ h => h) S8 (.inl ⟨by kernel_rfl, fun w h => by go_simp⟩) ?_
            go_simp
            refine HeldX.take 5 (v := .int .i64 m5) rfl (by kernel_rfl) (by kernel_rfl) (by kernel_rfl) (by kernel_rfl) (fun _ _ _ h => h) S8 (.inl ⟨by kernel_rfl, fun w h => by have h1 := h.2.1; go_simp⟩) ?_
            go_simp
            refine HeldX.move 6 (v := .bool false) rfl (by kernel_rfl) (by kernel_rfl) (by kernel_rfl) (by kernel_rfl) (fun _ _ _ h => h) S8 (.inl ⟨by kernel_rfl, fun w h => by go_simp; exact HX.out⟩) ?_
            go_simp
            refine HeldX.move 7 (v := .bool false) rfl (by kernel_rfl) (by kernel_rfl) (by kernel_rfl) (by kernel_rfl) (fun _ _ _ h => h) S8 (.inl ⟨by kernel_rfl, fun w h => by go_simp⟩) ?_
            go_simp
            refine HeldX.move 8 (v := undef) rfl (by kernel_rfl) (by kernel_rfl) (by kernel_rfl) (by kernel_rfl) (fun _ _ _ h => h) S8 (.inr ⟨by kernel_rfl, rfl⟩) ?_
            go_simp
            refine HeldX.move 9 (v := undef) rfl (by kernel_rfl) (by kernel_rfl) (by kernel_rfl) (by kernel_rfl) (fun _ _ _ h => h) S8 (.inr ⟨by kernel_rfl, rfl⟩) ?_
            go_simp
            refine HeldX.move 10 (v := undef) rfl (by kernel_rfl) (by kernel_rfl) (by kernel_rfl) (by kernel_rfl) (fun _ _ _ h => h) S8 (.inr ⟨by kernel_rfl, rfl⟩) ?_
            go_simp
            refine HeldX.move 11 (v := undef) rfl (by kernel_rfl) (by kernel_rfl) (by kernel_rfl) (by kernel_rfl) (fun _ _ _ h => h) S8 (.inr ⟨by kernel_rfl, rfl⟩) ?_
            go_simp
            refine HeldX.move 12 (v := undef) rfl (by kernel_rfl) (by kernel_rfl) (by kernel_rfl) (by kernel_rfl) (fun _ _ _ h => h) S8 (.inr ⟨by kernel_rfl, rfl⟩) ?_
            go_simp
            refine HeldX.move 13 (v := undef) rfl (by kernel_rfl) (by kernel_rfl) (by kernel_rfl) (by kernel_rfl) (fun _ _ _ h => h) S8 (.inr ⟨by kernel_rfl, rfl⟩) ?_
            go_simp
            refine HeldX.move 14 (v := undef) rfl (by kernel_rfl) (by kernel_rfl) (by kernel_rfl) (by kernel_rfl) (fun _ _ _ h => h) S8 (.inr ⟨by kernel_rfl, rfl⟩) ?_
            go_simp
            refine HeldX.move 15 (v := undef) rfl (by kernel_rfl) (by kernel_rfl) (by kernel_rfl) (by kernel_rfl) (fun _ _ _ h => h) S8 (.inr ⟨by kernel_rfl, rfl⟩) ?_
            go_simp
            refine HeldX.move 16 (v := undef) rfl (by kernel_rfl) (by kernel_rfl) (by kernel_rfl) (by kernel_rfl) (fun _ _ _ h => h) S8 (.inr ⟨by kernel_rfl, rfl⟩) ?_
            go_simp
            refine HeldX.move 17 (v := .bool false) rfl (by kernel_rfl) (by kernel_rfl) (by kernel_rfl) (by kernel_rfl) (fun _ _ _ h => h) S8 (.inl ⟨by kernel_rfl, fun w h => by go_simp⟩) ?_
            go_simp
            refine HeldX.done (by kernel_rfl) ?_ _
            go_wp2_with fail
            go_roundw
            case rel => exact ⟨6, by omega, by go_num, Lib.hid (HF.out.low (Below.refl _ wr).drew), Lib.hid (fun _ => HJ.out (by omega))⟩
            case measure => simp [intOf]
          · have hnd : (n5 == m5) = false := by simpa using hnm
            have HX := Lib.hid hnm
            clear hnm
            by_cases hov : hv < (max n5 m5)
            · go_wp2_with fail
              have S8 : (fun w' => w'.cell? ⟨g8, 5, none⟩ = some (.int .i64 n5) ∧ w'.cell? ⟨g9, 5, none⟩ = some (.int .i64 m5) ∧ w'.cell? ⟨g7, 0, none⟩ = some (.int .i64 hv)) wr.drew := ⟨HF.out.n8.cell 5 rfl, HF.out.n9.cell 5 rfl, HF.out.h.cell 0 rfl⟩
              refine wp_region_heldX (fun w' => w'.cell? ⟨g8, 5, none⟩ = some (.int .i64 n5) ∧ w'.cell? ⟨g9, 5, none⟩ = some (.int .i64 m5) ∧ w'.cell? ⟨g7, 0, none⟩ = some (.int .i64 hv)) [] hmo ?_
              refine HeldX.move 0 (v := .int .i64 5) rfl (by kernel_rfl) (by kernel_rfl) (by kernel_rfl) (by kernel_rfl) (fun _ _ _ h => h) S8 (.inl ⟨by kernel_rfl, fun w h => by go_simp⟩) ?_
              go_simp
              refine HeldX.move 1 (v := .pointer (some ⟨g8, 5, none⟩)) rfl (by kernel_rfl) (by kernel_rfl) (by kernel_rfl) (by kernel_rfl) (fun _ _ _ h => h) S8 (.inl ⟨by kernel_rfl, fun w h => by go_simp⟩) ?_
              go_simp
              refine HeldX.take 2 (v := .int .i64 n5) rfl (by kernel_rfl) (by kernel_rfl) (by kernel_rfl) (by kernel_rfl) (fun _ _ _ h => h) S8 (.inl ⟨by kernel_rfl, fun w h => by have h1 := h.1; go_simp⟩) ?_
              go_simp
              refine HeldX.move 3 (v := .int .i64 5) rfl (by kernel_rfl) (by kernel_rfl) (by kernel_rfl) (by kernel_rfl) (fun _ _ _ h => h) S8 (.inl ⟨by kernel_rfl, fun w h => by go_simp⟩) ?_
              go_simp
              refine HeldX.move 4 (v := .pointer (some ⟨g9, 5, none⟩)) rfl (by kernel_rfl) (by kernel_rfl) (by kernel_rfl) (by kernel_rfl) (fun _ _ _ h => h) S8 (.inl ⟨by kernel_rfl, fun w h => by go_simp⟩) ?_
              go_simp
              refine HeldX.take 5 (v := .int .i64 m5) rfl (by kernel_rfl) (by kernel_rfl) (by kernel_rfl) (by kernel_rfl) (fun _ _ _ h => h) S8 (.inl ⟨by kernel_rfl, fun w h => by have h1 := h.2.1; go_simp⟩) ?_
              go_simp
              refine HeldX.move 6 (v := .bool true) rfl (by kernel_rfl) (by kernel_rfl) (by kernel_rfl) (by kernel_rfl) (fun _ _ _ h => h) S8 (.inl ⟨by kernel_rfl, fun w h => by go_simp; exact HX.out⟩) ?_
              go_simp
              refine HeldX.move 7 (v := .bool true) rfl (by kernel_rfl) (by kernel_rfl) (by kernel_rfl) (by kernel_rfl) (fun _ _ _ h => h) S8 (.inl ⟨by kernel_rfl, fun w h => by go_simp⟩) ?_
              go_simp
              refine HeldX.move 8 (v := .int .i64 5) rfl (by kernel_rfl) (by kernel_rfl) (by kernel_rfl) (by kernel_rfl) (fun _ _ _ h => h) S8 (.inl ⟨by kernel_rfl, fun w h => by go_simp⟩) ?_
              go_simp
              refine HeldX.move 9 (v := .pointer (some ⟨g8, 5, none⟩)) rfl (by kernel_rfl) (by kernel_rfl) (by kernel_rfl) (by kernel_rfl) (fun _ _ _ h => h) S8 (.inl ⟨by kernel_rfl, fun w h => by go_simp⟩) ?_
              go_simp
              refine HeldX.take 10 (v := .int .i64 n5) rfl (by kernel_rfl) (by kernel_rfl) (by kernel_rfl) (by kernel_rfl) (fun _ _ _ h => h) S8 (.inl ⟨by kernel_rfl, fun w h => by have h1 := h.1; go_simp⟩) ?_
              go_simp
              refine HeldX.move 11 (v := .int .i64 5) rfl (by kernel_rfl) (by kernel_rfl) (by kernel_rfl) (by kernel_rfl) (fun _ _ _ h => h) S8 (.inl ⟨by kernel_rfl, fun w h => by go_simp⟩) ?_
              go_simp
              refine HeldX.move 12 (v := .pointer (some ⟨g9, 5, none⟩)) rfl (by kernel_rfl) (by kernel_rfl) (by kernel_rfl) (by kernel_rfl) (fun _ _ _ h => h) S8 (.inl ⟨by kernel_rfl, fun w h => by go_simp⟩) ?_
              go_simp
              refine HeldX.take 13 (v := .int .i64 m5) rfl (by kernel_rfl) (by kernel_rfl) (by kernel_rfl) (by kernel_rfl) (fun _ _ _ h => h) S8 (.inl ⟨by kernel_rfl, fun w h => by have h1 := h.2.1; go_simp⟩) ?_
              go_simp
              refine HeldX.move 14 (v := .int .i64 (max n5 m5)) rfl (by kernel_rfl) (by kernel_rfl) (by kernel_rfl) (by kernel_rfl) (fun _ _ _ h => h) S8 (.inl ⟨by kernel_rfl, fun w h => by go_simp⟩) ?_
              go_simp
              refine HeldX.take 15 (v := .int .i64 hv) rfl (by kernel_rfl) (by kernel_rfl) (by kernel_rfl) (by kernel_rfl) (fun _ _ _ h => h) S8 (.inl ⟨by kernel_rfl, fun w h => by have h1 := h.2.2; go_simp⟩) ?_
              go_simp
              refine HeldX.move 16 (v := .bool true) rfl (by kernel_rfl) (by kernel_rfl) (by kernel_rfl) (by kernel_rfl) (fun _ _ _ h => h) S8 (.inl ⟨by kernel_rfl, fun w h => by go_simp⟩) ?_
              go_simp
              refine HeldX.move 17 (v := .bool true) rfl (by kernel_rfl) (by kernel_rfl) (by kernel_rfl) (by kernel_rfl) (fun _ _ _ h => h) S8 (.inl ⟨by kernel_rfl, fun w h => by go_simp⟩) ?_
              go_simp
              refine HeldX.done (by kernel_rfl) ?_ _
              have R := HF.out.r
              have B := HF.out.below
              have er := R.cell 0 rfl
              have fr := R.froz 0 (by simp)
              have zr := R.size
              go_wp2_with fail
              have R9 := (R.set 0 (by simp) (.int .i64 12)).drew
              have B9 := (B.setCell (p := ⟨w.heap.size + 1 + 1 + 1, 0, none⟩) (by show w.heap.size ≤ w.heap.size + 1 + 1 + 1; omega) (.int .i64 12)).drew
              generalize (wr.setCell ⟨w.heap.size + 1 + 1 + 1, 0, none⟩ (.int .i64 12)).drew = w9 at *
              have d0 := R9.cell 0 rfl
              show bodyPostM _ _ _ _ _ Exit.ret _ _
              refine ⟨.int .i64 12, by simp [results, Tryd.f30, go_sem, d0], ⟨12, rfl, fun h => absurd h (by decide)⟩, B9⟩
            · go_wp2_with fail
              have S8 : (fun w' => w'.cell? ⟨g8, 5, none⟩ = some (.int .i64 n5) ∧ w'.cell? ⟨g9, 5, none⟩ = some (.int .i64 m5) ∧ w'.cell? ⟨g7, 0, none⟩ = some (.int .i64 hv)) wr.drew := ⟨HF.out.n8.cell 5 rfl, HF.out.n9.cell 5 rfl, HF.out.h.cell 0 rfl⟩
              refine wp_region_heldX (fun w' => w'.cell? ⟨g8, 5, none⟩ = some (.int .i64 n5) ∧ w'.cell? ⟨g9, 5, none⟩ = some (.int .i64 m5) ∧ w'.cell? ⟨g7, 0, none⟩ = some (.int .i64 hv)) [] hmo ?_
              refine HeldX.move 0 (v := .int .i64 5) rfl (by kernel_rfl) (by kernel_rfl) (by kernel_rfl) (by kernel_rfl) (fun _ _ _ h => h) S8 (.inl ⟨by kernel_rfl, fun w h => by go_simp⟩) ?_
              go_simp
              refine HeldX.move 1 (v := .pointer (some ⟨g8, 5, none⟩)) rfl (by kernel_rfl) (by kernel_rfl) (by kernel_rfl) (by kernel_rfl) (fun _ _ _ h => h) S8 (.inl ⟨by kernel_rfl, fun w h => by go_simp⟩) ?_
              go_simp
              refine HeldX.take 2 (v := .int .i64 n5) rfl (by kernel_rfl) (by kernel_rfl) (by kernel_rfl) (by kernel_rfl) (fun _ _ _ h => h) S8 (.inl ⟨by kernel_rfl, fun w h => by have h1 := h.1; go_simp⟩) ?_
              go_simp
              refine HeldX.move 3 (v := .int .i64 5) rfl (by kernel_rfl) (by kernel_rfl) (by kernel_rfl) (by kernel_rfl) (fun _ _ _ h => h) S8 (.inl ⟨by kernel_rfl, fun w h => by go_simp⟩) ?_
              go_simp
              refine HeldX.move 4 (v := .pointer (some ⟨g9, 5, none⟩)) rfl (by kernel_rfl) (by kernel_rfl) (by kernel_rfl) (by kernel_rfl) (fun _ _ _ h => h) S8 (.inl ⟨by kernel_rfl, fun w h => by go_simp⟩) ?_
              go_simp
              refine HeldX.take 5 (v := .int .i64 m5) rfl (by kernel_rfl) (by kernel_rfl) (by kernel_rfl) (by kernel_rfl) (fun _ _ _ h => h) S8 (.inl ⟨by kernel_rfl, fun w h => by have h1 := h.2.1; go_simp⟩) ?_
              go_simp
              refine HeldX.move 6 (v := .bool true) rfl (by kernel_rfl) (by kernel_rfl) (by kernel_rfl) (by kernel_rfl) (fun _ _ _ h => h) S8 (.inl ⟨by kernel_rfl, fun w h => by go_simp; exact HX.out⟩) ?_
              go_simp
              refine HeldX.move 7 (v := .bool true) rfl (by kernel_rfl) (by kernel_rfl) (by kernel_rfl) (by kernel_rfl) (fun _ _ _ h => h) S8 (.inl ⟨by kernel_rfl, fun w h => by go_simp⟩) ?_
              go_simp
              refine HeldX.move 8 (v := .int .i64 5) rfl (by kernel_rfl) (by kernel_rfl) (by kernel_rfl) (by kernel_rfl) (fun _ _ _ h => h) S8 (.inl ⟨by kernel_rfl, fun w h => by go_simp⟩) ?_
              go_simp
              refine HeldX.move 9 (v := .pointer (some ⟨g8, 5, none⟩)) rfl (by kernel_rfl) (by kernel_rfl) (by kernel_rfl) (by kernel_rfl) (fun _ _ _ h => h) S8 (.inl ⟨by kernel_rfl, fun w h => by go_simp⟩) ?_
              go_simp
              refine HeldX.take 10 (v := .int .i64 n5) rfl (by kernel_rfl) (by kernel_rfl) (by kernel_rfl) (by kernel_rfl) (fun _ _ _ h => h) S8 (.inl ⟨by kernel_rfl, fun w h => by have h1 := h.1; go_simp⟩) ?_
              go_simp
              refine HeldX.move 11 (v := .int .i64 5) rfl (by kernel_rfl) (by kernel_rfl) (by kernel_rfl) (by kernel_rfl) (fun _ _ _ h => h) S8 (.inl ⟨by kernel_rfl, fun w h => by go_simp⟩) ?_
              go_simp
              refine HeldX.move 12 (v := .pointer (some ⟨g9, 5, none⟩)) rfl (by kernel_rfl) (by kernel_rfl) (by kernel_rfl) (by kernel_rfl) (fun _ _ _ h => h) S8 (.inl ⟨by kernel_rfl, fun w h => by go_simp⟩) ?_
              go_simp
              refine HeldX.take 13 (v := .int .i64 m5) rfl (by kernel_rfl) (by kernel_rfl) (by kernel_rfl) (by kernel_rfl) (fun _ _ _ h => h) S8 (.inl ⟨by kernel_rfl, fun w h => by have h1 := h.2.1; go_simp⟩) ?_
              go_simp
              refine HeldX.move 14 (v := .int .i64 (max n5 m5)) rfl (by kernel_rfl) (by kernel_rfl) (by kernel_rfl) (by kernel_rfl) (fun _ _ _ h => h) S8 (.inl ⟨by kernel_rfl, fun w h => by go_simp⟩) ?_
              go_simp
              refine HeldX.take 15 (v := .int .i64 hv) rfl (by kernel_rfl) (by kernel_rfl) (by kernel_rfl) (by kernel_rfl) (fun _ _ _ h => h) S8 (.inl ⟨by kernel_rfl, fun w h => by have h1 := h.2.2; go_simp⟩) ?_
              go_simp
              refine HeldX.move 16 (v := .bool false) rfl (by kernel_rfl) (by kernel_rfl) (by kernel_rfl) (by kernel_rfl) (fun _ _ _ h => h) S8 (.inl ⟨by kernel_rfl, fun w h => by go_simp⟩) ?_
              go_simp
              refine HeldX.move 17 (v := .bool false) rfl (by kernel_rfl) (by kernel_rfl) (by kernel_rfl) (by kernel_rfl) (fun _ _ _ h => h) S8 (.inl ⟨by kernel_rfl, fun w h => by go_simp⟩) ?_
              go_simp
              refine HeldX.done (by kernel_rfl) ?_ _
              go_wp2_with fail
              go_roundw
              case rel => exact ⟨6, by omega, by go_num, Lib.hid (HF.out.low (Below.refl _ wr).drew), Lib.hid (fun _ => HJ.out (by omega))⟩
              case measure => simp [intOf]
      · obtain rfl : j = 6 := by omega
        rw [show ((6 : Nat) : Int) = 6 from rfl]
        clear hlt hj
        have HN0 := Lib.hid (HJ.out (by omega))
        have a0 := HF.out.a.cell 0 rfl
        have b0 := HF.out.b.cell 0 rfl
        have a1 := HF.out.a.cell 1 rfl
        have b1 := HF.out.b.cell 1 rfl
        have a2 := HF.out.a.cell 2 rfl
        have b2 := HF.out.b.cell 2 rfl
        have a3 := HF.out.a.cell 3 rfl
        have b3 := HF.out.b.cell 3 rfl
        have a4 := HF.out.a.cell 4 rfl
        have b4 := HF.out.b.cell 4 rfl
        have a5 := HF.out.a.cell 5 rfl
        have b5 := HF.out.b.cell 5 rfl
        have a6 := HF.out.a.cell 6 rfl
        have b6 := HF.out.b.cell 6 rfl
        have zr := HF.out.b.size
        go_wp2_with fail
        refine (changed_maker n0 n1 n2 n3 n4 n5 m0 m1 m2 m3 m4 m5 pu pt cu ct us ts wr).mono ?_
        rintro e w7 ⟨rfl, rfl⟩
        have C1 := (Blk.new wr #[.int .i64 n0, .int .i64 n1, .int .i64 n2, .int .i64 n3, .int .i64 n4, .int .i64 n5, .slice pu us.length cu] 72).alloc (.cells #[.int .i64 m0, .int .i64 m1, .int .i64 m2, .int .i64 m3, .int .i64 m4, .int .i64 m5, .slice pt ts.length ct] 72)
        have C2 := Blk.new (wr.alloc (.cells #[.int .i64 n0, .int .i64 n1, .int .i64 n2, .int .i64 n3, .int .i64 n4, .int .i64 n5, .slice pu us.length cu] 72)) #[.int .i64 m0, .int .i64 m1, .int .i64 m2, .int .i64 m3, .int .i64 m4, .int .i64 m5, .slice pt ts.length ct] 72
        simp only [World.size_alloc] at C2
        have hbw := ((Below.refl wr.heap.size wr).alloc (Nat.le_refl _) (.cells #[.int .i64 n0, .int .i64 n1, .int .i64 n2, .int .i64 n3, .int .i64 n4, .int .i64 n5, .slice pu us.length cu] 72)).alloc (by simp) (.cells #[.int .i64 m0, .int .i64 m1, .int .i64 m2, .int .i64 m3, .int .i64 m4, .int .i64 m5, .slice pt ts.length ct] 72)
        have F7 := HF.out.low hbw
        have HU7 := HU.out.low F7.below
        have HT7 := HT.out.low F7.below
        have hz7 : ((wr.alloc (.cells #[.int .i64 n0, .int .i64 n1, .int .i64 n2, .int .i64 n3, .int .i64 n4, .int .i64 n5, .slice pu us.length cu] 72)).alloc (.cells #[.int .i64 m0, .int .i64 m1, .int .i64 m2, .int .i64 m3, .int .i64 m4, .int .i64 m5, .slice pt ts.length ct] 72)).heap.size = wr.heap.size + 2 := by simp
        have hz0 := HF.out.below.size
        have hzc := HF.out.n9.size
        clear a0 b0 a1 b1 a2 b2 a3 b3 a4 b4 a5 b5 a6 b6 zr hbw HF0
        generalize (wr.alloc (.cells #[.int .i64 n0, .int .i64 n1, .int .i64 n2, .int .i64 n3, .int .i64 n4, .int .i64 n5, .slice pu us.length cu] 72)).alloc (.cells #[.int .i64 m0, .int .i64 m1, .int .i64 m2, .int .i64 m3, .int .i64 m4, .int .i64 m5, .slice pt ts.length ct] 72) = W0 at *
        go_wp2_with fail
        generalize wr.heap.size = h1 at *
        have hseq := changed_stops 8 (by omega) n0 n1 n2 n3 n4 n5 m0 m1 m2 m3 m4 m5 pu pt cu ct us ts h1 (h1 + 1) W0 C1 C2 HU7 HT7 hul htl
        clear hz7
        refine (wpIn_wide (n := 9)).1 ?_
        refine wpIn_rangeFunc_ownF (n := 9) (α := List UInt8) (ps := #[53]) (a := { tmps := ?tm, defers := ?df }) (encs := fun y => #[Value.string ⟨y.toArray⟩]) rfl (by omega) (gf := 119) (lb := #[.pointer (some ⟨h1, 0, none⟩), .pointer (some ⟨h1 + 1, 0, none⟩)]) ?hg trivial (enters_of Tryd.func119 (by kernel_rfl) rfl) hseq belowK_t (belowK_b (Nat.le_refl _)) (Below.refl _ _) (fun _ => rfl)
          (fun pre W => (∀ y ∈ pre, ofL m0 ts y ≤ hv) ∧ Below W0.heap.size W0 W)
          (fun c pre W => (c = .ret ∧ W.cell? ⟨w.heap.size + 1 + 1 + 1, 0, none⟩ = some (.int .i64 12)) ∧ Below w.heap.size w W)
          (OwnFrom.and (fun s A B row hs hg hr => hs) (ownFrom_below (Nat.le_refl _) (Nat.le_refl _)))
          (fun c => OwnFrom.and (Own.from (fun s A B row hs hg hr => ⟨hs.1, cell_kept hs.2 hg hr⟩) _) (ownFrom_below (Nat.le_refl _) F7.below.size))
          ⟨(fun y hy => by cases hy), Below.refl _ _⟩
          (fun y => { tmps := ((?tm).setIfInBounds 53 (.string ⟨y.toArray⟩)).setIfInBounds 11 (.string ⟨y.toArray⟩), defers := [] }) ?assign ?body ?done ?stop
        case hg => rfl
        case assign =>
          intro l y W K hK
          gi_wp2
          exact hK
        case body =>
          rintro l pre y W ⟨hI1, hB⟩ _
          have F8 := F7.low hB
          have HI1 := Lib.hid hI1
          have HB8 := Lib.hid hB
          have HF8 := Lib.hid F8
          clear hI1 hB
          have a0 := F8.a.cell 0 rfl
          have a1 := F8.a.cell 1 rfl
          have a2 := F8.a.cell 2 rfl
          have a3 := F8.a.cell 3 rfl
          have a4 := F8.a.cell 4 rfl
          have a5 := F8.a.cell 5 rfl
          have a6 := F8.a.cell 6 rfl
          have z8 := F8.a.size
          gi_wp2_with fail
          refine ⟨trivial, (CallsIn.inRound l (callsIn_wide.2 (HFA.out y W HF8.out.below))).mono ?_⟩
          rintro e W1 ⟨rfl, hb⟩
          have F9 := HF8.out.low hb
          have HB9 := Lib.hid (HB8.out.trans (hb.mono HB8.out.size))
          have HKO := Lib.hid (keepsO hb)
          have HBW := Lib.hid (hb.mono HB8.out.size)
          have HF9 := Lib.hid F9
          clear F9 hb F8 a0 a1 a2 a3 a4 a5 a6 z8
          generalize ofL n0 us y = a1 at *
          have HFY := Lib.hid (fun w' (hb : Below w.heap.size w w') => HFB.out y w' hb)
          have HOY : Hid (∃ a2, a2 = ofL m0 ts y) := Lib.hid ⟨_, rfl⟩
          generalize ho2 : ofL m0 ts y = a2 at HFY
          have HO2 := Lib.hid ho2
          clear ho2
          have S9 : (fun w' => w'.cell? ⟨g7, 0, none⟩ = some (.int .i64 hv) ∧ w'.cell? ⟨w.heap.size + 1 + 1, 0, none⟩ = some (.string ⟨x.toArray⟩) ∧ w'.cell? ⟨w.heap.size + 1, 0, none⟩ = some (.int .i64 m0) ∧ w'.cell? ⟨w.heap.size + 1, 1, none⟩ = some (.int .i64 m1) ∧ w'.cell? ⟨w.heap.size + 1, 2, none⟩ = some (.int .i64 m2) ∧ w'.cell? ⟨w.heap.size + 1, 3, none⟩ = some (.int .i64 m3) ∧ w'.cell? ⟨w.heap.size + 1, 4, none⟩ = some (.int .i64 m4) ∧ w'.cell? ⟨w.heap.size + 1, 5, none⟩ = some (.int .i64 m5) ∧ w'.cell? ⟨w.heap.size + 1, 6, none⟩ = some (.slice pt ts.length ct)) W1.drew := ⟨HF9.out.h.cell 0 rfl, HF9.out.u.cell 0 rfl, HF9.out.b.cell 0 rfl, HF9.out.b.cell 1 rfl, HF9.out.b.cell 2 rfl, HF9.out.b.cell 3 rfl, HF9.out.b.cell 4 rfl, HF9.out.b.cell 5 rfl, HF9.out.b.cell 6 rfl⟩
          gi_wp2_with fail
          refine wpIn_region_held (fun w' => w'.cell? ⟨g7, 0, none⟩ = some (.int .i64 hv) ∧ w'.cell? ⟨w.heap.size + 1 + 1, 0, none⟩ = some (.string ⟨x.toArray⟩) ∧ w'.cell? ⟨w.heap.size + 1, 0, none⟩ = some (.int .i64 m0) ∧ w'.cell? ⟨w.heap.size + 1, 1, none⟩ = some (.int .i64 m1) ∧ w'.cell? ⟨w.heap.size + 1, 2, none⟩ = some (.int .i64 m2) ∧ w'.cell? ⟨w.heap.size + 1, 3, none⟩ = some (.int .i64 m3) ∧ w'.cell? ⟨w.heap.size + 1, 4, none⟩ = some (.int .i64 m4) ∧ w'.cell? ⟨w.heap.size + 1, 5, none⟩ = some (.int .i64 m5) ∧ w'.cell? ⟨w.heap.size + 1, 6, none⟩ = some (.slice pt ts.length ct)) hmo ?_
          by_cases hov : hv < a1
          · have HX := Lib.hid hov
            refine HeldIn.takeX (Plainly.of (by kernel_rfl)) 0 _ (.int .i64 a1) rfl (by kernel_rfl) (by kernel_rfl) (fun _ _ _ h => h) S9 (.inl ⟨by kernel_rfl, fun w h => by go_simp, fun _ => rfl⟩) ?_
            go_simp
            refine HeldIn.takeX (Plainly.of (by kernel_rfl)) 1 _ (.int .i64 hv) rfl (by kernel_rfl) (by kernel_rfl) (fun _ _ _ h => h) S9 (.inl ⟨by kernel_rfl, fun w h => by have h1 := h.1; go_simp, fun _ => rfl⟩) ?_
            go_simp
            refine HeldIn.takeX (Plainly.of (by kernel_rfl)) 2 _ (.bool true) rfl (by kernel_rfl) (by kernel_rfl) (fun _ _ _ h => h) S9 (.inl ⟨by kernel_rfl, fun w h => by go_simp; try (first | omega | exact HX.out), fun _ => rfl⟩) ?_
            go_simp
            refine HeldIn.takeX (Plainly.of (by kernel_rfl)) 3 _ (.bool true) rfl (by kernel_rfl) (by kernel_rfl) (fun _ _ _ h => h) S9 (.inl ⟨by kernel_rfl, fun w h => by go_simp, fun _ => rfl⟩) ?_
            go_simp
            refine HeldIn.takeX (Plainly.of (by kernel_rfl)) 4 _ undef rfl (by kernel_rfl) (by kernel_rfl) (fun _ _ _ h => h) S9 (.inr ⟨by kernel_rfl, rfl, fun _ _ _ => trivial⟩) ?_
            go_simp
            refine HeldIn.takeX (Plainly.of (by kernel_rfl)) 5 _ undef rfl (by kernel_rfl) (by kernel_rfl) (fun _ _ _ h => h) S9 (.inr ⟨by kernel_rfl, rfl, fun _ _ _ => trivial⟩) ?_
            go_simp
            refine HeldIn.takeX (Plainly.of (by kernel_rfl)) 6 _ undef rfl (by kernel_rfl) (by kernel_rfl) (fun _ _ _ h => h) S9 (.inr ⟨by kernel_rfl, rfl, fun _ _ _ => trivial⟩) ?_
            go_simp
            refine HeldIn.takeX (Plainly.of (by kernel_rfl)) 7 _ undef rfl (by kernel_rfl) (by kernel_rfl) (fun _ _ _ h => h) S9 (.inr ⟨by kernel_rfl, rfl, fun _ _ _ => trivial⟩) ?_
            go_simp
            refine HeldIn.takeX (Plainly.of (by kernel_rfl)) 8 _ undef rfl (by kernel_rfl) (by kernel_rfl) (fun _ _ _ h => h) S9 (.inr ⟨by kernel_rfl, rfl, fun _ _ _ => trivial⟩) ?_
            go_simp
            refine HeldIn.takeX (Plainly.of (by kernel_rfl)) 9 _ undef rfl (by kernel_rfl) (by kernel_rfl) (fun _ _ _ h => h) S9 (.inr ⟨by kernel_rfl, rfl, fun _ _ _ => trivial⟩) ?_
            go_simp
            refine HeldIn.takeX (Plainly.of (by kernel_rfl)) 10 _ undef rfl (by kernel_rfl) (by kernel_rfl) (fun _ _ _ h => h) S9 (.inr ⟨by kernel_rfl, rfl, fun _ _ _ => trivial⟩) ?_
            go_simp
            refine HeldIn.takeX (Plainly.of (by kernel_rfl)) 11 _ undef rfl (by kernel_rfl) (by kernel_rfl) (fun _ _ _ h => h) S9 (.inr ⟨by kernel_rfl, rfl, fun _ _ _ => trivial⟩) ?_
            go_simp
            refine HeldIn.takeX (Plainly.of (by kernel_rfl)) 12 _ (.bool true) rfl (by kernel_rfl) (by kernel_rfl) (fun _ _ _ h => h) S9 (.inl ⟨by kernel_rfl, fun w h => by go_simp, fun _ => rfl⟩) ?_
            go_simp
            refine HeldIn.takeX (Plainly.of (by kernel_rfl)) 13 _ (.bool true) rfl (by kernel_rfl) (by kernel_rfl) (fun _ _ _ h => h) S9 (.inl ⟨by kernel_rfl, fun w h => by go_simp, fun _ => rfl⟩) ?_
            go_simp
            refine HeldIn.takeX (Plainly.of (by kernel_rfl)) 14 _ undef rfl (by kernel_rfl) (by kernel_rfl) (fun _ _ _ h => h) S9 (.inr ⟨by kernel_rfl, rfl, fun _ _ _ => trivial⟩) ?_
            go_simp
            refine HeldIn.takeX (Plainly.of (by kernel_rfl)) 15 _ undef rfl (by kernel_rfl) (by kernel_rfl) (fun _ _ _ h => h) S9 (.inr ⟨by kernel_rfl, rfl, fun _ _ _ => trivial⟩) ?_
            go_simp
            refine HeldIn.takeX (Plainly.of (by kernel_rfl)) 16 _ undef rfl (by kernel_rfl) (by kernel_rfl) (fun _ _ _ h => h) S9 (.inr ⟨by kernel_rfl, rfl, fun _ _ _ => trivial⟩) ?_
            go_simp
            refine HeldIn.takeX (Plainly.of (by kernel_rfl)) 17 _ undef rfl (by kernel_rfl) (by kernel_rfl) (fun _ _ _ h => h) S9 (.inr ⟨by kernel_rfl, rfl, fun _ _ _ => trivial⟩) ?_
            go_simp
            refine HeldIn.takeX (Plainly.of (by kernel_rfl)) 18 _ undef rfl (by kernel_rfl) (by kernel_rfl) (fun _ _ _ h => h) S9 (.inr ⟨by kernel_rfl, rfl, fun _ _ _ => trivial⟩) ?_
            go_simp
            refine HeldIn.takeX (Plainly.of (by kernel_rfl)) 19 _ (.bool true) rfl (by kernel_rfl) (by kernel_rfl) (fun _ _ _ h => h) S9 (.inl ⟨by kernel_rfl, fun w h => by go_simp, fun _ => rfl⟩) ?_
            go_simp
            refine HeldIn.done (by kernel_rfl) ?_ _
            have er := HF9.out.r.cell 0 rfl
            have fr := HF9.out.r.froz 0 (by simp)
            have zr := HF9.out.r.size
            gi_wp2
            have R9 := (HF9.out.r.set 0 (by simp) (.int .i64 12)).drew
            have B9 := (HF9.out.below.setCell (p := ⟨w.heap.size + 1 + 1 + 1, 0, none⟩) (by show w.heap.size ≤ w.heap.size + 1 + 1 + 1; omega) (.int .i64 12)).drew
            exact ⟨HKO.out.trans ((KeepsOthers.setCell W1 ⟨w.heap.size + 1 + 1 + 1, 0, none⟩ (.int .i64 12)).trans (KeepsOthers.drew _)), ⟨rfl, R9.cell 0 rfl⟩, B9⟩
          · have HX := Lib.hid hov
            refine HeldIn.takeX (Plainly.of (by kernel_rfl)) 0 _ (.int .i64 a1) rfl (by kernel_rfl) (by kernel_rfl) (fun _ _ _ h => h) S9 (.inl ⟨by kernel_rfl, fun w h => by go_simp, fun _ => rfl⟩) ?_
            go_simp
            refine HeldIn.takeX (Plainly.of (by kernel_rfl)) 1 _ (.int .i64 hv) rfl (by kernel_rfl) (by kernel_rfl) (fun _ _ _ h => h) S9 (.inl ⟨by kernel_rfl, fun w h => by have h1 := h.1; go_simp, fun _ => rfl⟩) ?_
            go_simp
            refine HeldIn.takeX (Plainly.of (by kernel_rfl)) 2 _ (.bool false) rfl (by kernel_rfl) (by kernel_rfl) (fun _ _ _ h => h) S9 (.inl ⟨by kernel_rfl, fun w h => by go_simp; try (first | omega | exact HX.out), fun _ => rfl⟩) ?_
            go_simp
            refine HeldIn.takeX (Plainly.of (by kernel_rfl)) 3 _ (.bool false) rfl (by kernel_rfl) (by kernel_rfl) (fun _ _ _ h => h) S9 (.inl ⟨by kernel_rfl, fun w h => by go_simp, fun _ => rfl⟩) ?_
            go_simp
            refine HeldIn.takeX (Plainly.of (by kernel_rfl)) 4 _ (.int .i64 a1) rfl (by kernel_rfl) (by kernel_rfl) (fun _ _ _ h => h) S9 (.inl ⟨by kernel_rfl, fun w h => by go_simp, fun _ => rfl⟩) ?_
            go_simp
            refine HeldIn.takeX (Plainly.of (by kernel_rfl)) 5 _ (.int .i64 hv) rfl (by kernel_rfl) (by kernel_rfl) (fun _ _ _ h => h) S9 (.inl ⟨by kernel_rfl, fun w h => by have h1 := h.1; go_simp, fun _ => rfl⟩) ?_
            go_simp
            by_cases heq : a1 = hv
            · have HX := Lib.hid heq
              clear heq
              refine HeldIn.takeX (Plainly.of (by kernel_rfl)) 6 _ (.bool true) rfl (by kernel_rfl) (by kernel_rfl) (fun _ _ _ h => h) S9 (.inl ⟨by kernel_rfl, fun w h => by go_simp; try (first | omega | exact HX.out), fun _ => rfl⟩) ?_
              go_simp
              refine HeldIn.takeX (Plainly.of (by kernel_rfl)) 7 _ (.bool true) rfl (by kernel_rfl) (by kernel_rfl) (fun _ _ _ h => h) S9 (.inl ⟨by kernel_rfl, fun w h => by go_simp, fun _ => rfl⟩) ?_
              go_simp
              refine HeldIn.takeX (Plainly.of (by kernel_rfl)) 8 _ (.string ⟨y.toArray⟩) rfl (by kernel_rfl) (by kernel_rfl) (fun _ _ _ h => h) S9 (.inl ⟨by kernel_rfl, fun w h => by go_simp, fun _ => rfl⟩) ?_
              go_simp
              refine HeldIn.takeX (Plainly.of (by kernel_rfl)) 9 _ (.string ⟨x.toArray⟩) rfl (by kernel_rfl) (by kernel_rfl) (fun _ _ _ h => h) S9 (.inl ⟨by kernel_rfl, fun w h => by have h1 := h.2.1; go_simp, fun _ => rfl⟩) ?_
              go_simp
              by_cases hyx : y = x
              · have HX := Lib.hid hyx
                clear hyx
                refine HeldIn.takeX (Plainly.of (by kernel_rfl)) 10 _ (.bool false) rfl (by kernel_rfl) (by kernel_rfl) (fun _ _ _ h => h) S9 (.inl ⟨by kernel_rfl, fun w h => by go_simp; try (first | omega | exact HX.out), fun _ => rfl⟩) ?_
                go_simp
                refine HeldIn.takeX (Plainly.of (by kernel_rfl)) 11 _ (.bool false) rfl (by kernel_rfl) (by kernel_rfl) (fun _ _ _ h => h) S9 (.inl ⟨by kernel_rfl, fun w h => by go_simp, fun _ => rfl⟩) ?_
                go_simp
                refine HeldIn.takeX (Plainly.of (by kernel_rfl)) 12 _ (.bool false) rfl (by kernel_rfl) (by kernel_rfl) (fun _ _ _ h => h) S9 (.inl ⟨by kernel_rfl, fun w h => by go_simp, fun _ => rfl⟩) ?_
                go_simp
                refine HeldIn.takeX (Plainly.of (by kernel_rfl)) 13 _ (.bool false) rfl (by kernel_rfl) (by kernel_rfl) (fun _ _ _ h => h) S9 (.inl ⟨by kernel_rfl, fun w h => by go_simp, fun _ => rfl⟩) ?_
                go_simp
                refine HeldIn.takeX (Plainly.of (by kernel_rfl)) 14 _ (.agg #[.int .i64 m0, .int .i64 m1, .int .i64 m2, .int .i64 m3, .int .i64 m4, .int .i64 m5, .slice pt ts.length ct]) rfl (by kernel_rfl) (by kernel_rfl) (fun _ _ _ h => h) S9 (.inl ⟨by kernel_rfl, fun w h => by have h2 := h.2.2.1; have h3 := h.2.2.2.1; have h4 := h.2.2.2.2.1; have h5 := h.2.2.2.2.2.1; have h6 := h.2.2.2.2.2.2.1; have h7 := h.2.2.2.2.2.2.2.1; have h8 := h.2.2.2.2.2.2.2.2; go_simp, fun _ => rfl⟩) ?_
                go_simp
                refine HeldIn.takeX (Plainly.of (by kernel_rfl)) 15 _ (.string ⟨y.toArray⟩) rfl (by kernel_rfl) (by kernel_rfl) (fun _ _ _ h => h) S9 (.inl ⟨by kernel_rfl, fun w h => by go_simp, fun _ => rfl⟩) ?_
                go_simp
                refine HeldIn.takeX (Plainly.of (by kernel_rfl)) 17 _ (.int .i64 hv) rfl (by kernel_rfl) (by kernel_rfl) (fun _ _ _ h => h) S9 (.inl ⟨by kernel_rfl, fun w h => by have h1 := h.1; go_simp, fun _ => rfl⟩) ?_
                go_simp
                refine HeldIn.all [16] (by kernel_rfl) (by simp) (HeldAll.cons rfl (by kernel_rfl) (fun K hK => ?_) HeldAll.nil)
                go_simp
                refine ⟨trivial, (CallsIn.inRound l (callsIn_wide.2 (HFY.out W1.drew HF9.out.below.drew))).mono ?_⟩
                rintro e W2 ⟨rfl, hb⟩
                have hb1 : Below W1.heap.size W1 W2 := (Below.refl _ W1).drew.trans hb
                have HF2 := Lib.hid (HF9.out.low hb1)
                have HBX := Lib.hid (HB9.out.trans (hb1.mono HB9.out.size))
                have HKX := Lib.hid (HKO.out.trans (keepsO hb1))
                have HBY := Lib.hid (HBW.out.trans (hb1.mono HB9.out.size))
                refine hK _ _ ⟨HF2.out.h.cell 0 rfl, HF2.out.u.cell 0 rfl, HF2.out.b.cell 0 rfl, HF2.out.b.cell 1 rfl, HF2.out.b.cell 2 rfl, HF2.out.b.cell 3 rfl, HF2.out.b.cell 4 rfl, HF2.out.b.cell 5 rfl, HF2.out.b.cell 6 rfl⟩ ?_
                clear hK K hb hb1 S9
                have S9 : (fun w' => w'.cell? ⟨g7, 0, none⟩ = some (.int .i64 hv) ∧ w'.cell? ⟨w.heap.size + 1 + 1, 0, none⟩ = some (.string ⟨x.toArray⟩) ∧ w'.cell? ⟨w.heap.size + 1, 0, none⟩ = some (.int .i64 m0) ∧ w'.cell? ⟨w.heap.size + 1, 1, none⟩ = some (.int .i64 m1) ∧ w'.cell? ⟨w.heap.size + 1, 2, none⟩ = some (.int .i64 m2) ∧ w'.cell? ⟨w.heap.size + 1, 3, none⟩ = some (.int .i64 m3) ∧ w'.cell? ⟨w.heap.size + 1, 4, none⟩ = some (.int .i64 m4) ∧ w'.cell? ⟨w.heap.size + 1, 5, none⟩ = some (.int .i64 m5) ∧ w'.cell? ⟨w.heap.size + 1, 6, none⟩ = some (.slice pt ts.length ct)) W2 := ⟨HF2.out.h.cell 0 rfl, HF2.out.u.cell 0 rfl, HF2.out.b.cell 0 rfl, HF2.out.b.cell 1 rfl, HF2.out.b.cell 2 rfl, HF2.out.b.cell 3 rfl, HF2.out.b.cell 4 rfl, HF2.out.b.cell 5 rfl, HF2.out.b.cell 6 rfl⟩
                by_cases hov2 : hv < a2
                · have HX := Lib.hid hov2
                  refine HeldIn.takeX (Plainly.of (by kernel_rfl)) 18 _ (.bool true) rfl (by kernel_rfl) (by kernel_rfl) (fun _ _ _ h => h) S9 (.inl ⟨by kernel_rfl, fun w h => by go_simp; try (first | omega | exact HX.out), fun _ => rfl⟩) ?_
                  go_simp
                  refine HeldIn.takeX (Plainly.of (by kernel_rfl)) 19 _ (.bool true) rfl (by kernel_rfl) (by kernel_rfl) (fun _ _ _ h => h) S9 (.inl ⟨by kernel_rfl, fun w h => by go_simp, fun _ => rfl⟩) ?_
                  go_simp
                  refine HeldIn.done (by kernel_rfl) ?_ _
                  have er := HF2.out.r.cell 0 rfl
                  have fr := HF2.out.r.froz 0 (by simp)
                  have zr := HF2.out.r.size
                  gi_wp2
                  have R9 := (HF2.out.r.set 0 (by simp) (.int .i64 12))
                  have B9 := (HF2.out.below.setCell (p := ⟨w.heap.size + 1 + 1 + 1, 0, none⟩) (by show w.heap.size ≤ w.heap.size + 1 + 1 + 1; omega) (.int .i64 12))
                  exact ⟨HKX.out.trans (KeepsOthers.setCell W2 ⟨w.heap.size + 1 + 1 + 1, 0, none⟩ (.int .i64 12)), ⟨rfl, R9.cell 0 rfl⟩, B9⟩
                · have HX := Lib.hid hov2
                  refine HeldIn.takeX (Plainly.of (by kernel_rfl)) 18 _ (.bool false) rfl (by kernel_rfl) (by kernel_rfl) (fun _ _ _ h => h) S9 (.inl ⟨by kernel_rfl, fun w h => by go_simp; try (first | omega | exact HX.out), fun _ => rfl⟩) ?_
                  go_simp
                  refine HeldIn.takeX (Plainly.of (by kernel_rfl)) 19 _ (.bool false) rfl (by kernel_rfl) (by kernel_rfl) (fun _ _ _ h => h) S9 (.inl ⟨by kernel_rfl, fun w h => by go_simp, fun _ => rfl⟩) ?_
                  go_simp
                  refine HeldIn.done (by kernel_rfl) ?_ _
                  gi_wp2
                  refine ⟨HKX.out, HBY.out, ⟨fun z hz => ?_, HBX.out⟩⟩
                  rcases List.mem_append.1 hz with h | h
                  · exact HI1.out z h
                  · rw [List.mem_singleton.1 h, HO2.out]; omega
              · have HX := Lib.hid hyx
                clear hyx
                refine HeldIn.takeX (Plainly.of (by kernel_rfl)) 10 _ (.bool true) rfl (by kernel_rfl) (by kernel_rfl) (fun _ _ _ h => h) S9 (.inl ⟨by kernel_rfl, fun w h => by go_simp; try (first | omega | exact HX.out), fun _ => rfl⟩) ?_
                go_simp
                refine HeldIn.takeX (Plainly.of (by kernel_rfl)) 11 _ (.bool true) rfl (by kernel_rfl) (by kernel_rfl) (fun _ _ _ h => h) S9 (.inl ⟨by kernel_rfl, fun w h => by go_simp, fun _ => rfl⟩) ?_
                go_simp
                refine HeldIn.takeX (Plainly.of (by kernel_rfl)) 12 _ (.bool true) rfl (by kernel_rfl) (by kernel_rfl) (fun _ _ _ h => h) S9 (.inl ⟨by kernel_rfl, fun w h => by go_simp, fun _ => rfl⟩) ?_
                go_simp
                refine HeldIn.takeX (Plainly.of (by kernel_rfl)) 13 _ (.bool true) rfl (by kernel_rfl) (by kernel_rfl) (fun _ _ _ h => h) S9 (.inl ⟨by kernel_rfl, fun w h => by go_simp, fun _ => rfl⟩) ?_
                go_simp
                refine HeldIn.takeX (Plainly.of (by kernel_rfl)) 14 _ undef rfl (by kernel_rfl) (by kernel_rfl) (fun _ _ _ h => h) S9 (.inr ⟨by kernel_rfl, rfl, fun _ _ _ => trivial⟩) ?_
                go_simp
                refine HeldIn.takeX (Plainly.of (by kernel_rfl)) 15 _ undef rfl (by kernel_rfl) (by kernel_rfl) (fun _ _ _ h => h) S9 (.inr ⟨by kernel_rfl, rfl, fun _ _ _ => trivial⟩) ?_
                go_simp
                refine HeldIn.takeX (Plainly.of (by kernel_rfl)) 16 _ undef rfl (by kernel_rfl) (by kernel_rfl) (fun _ _ _ h => h) S9 (.inr ⟨by kernel_rfl, rfl, fun _ _ _ => trivial⟩) ?_
                go_simp
                refine HeldIn.takeX (Plainly.of (by kernel_rfl)) 17 _ undef rfl (by kernel_rfl) (by kernel_rfl) (fun _ _ _ h => h) S9 (.inr ⟨by kernel_rfl, rfl, fun _ _ _ => trivial⟩) ?_
                go_simp
                refine HeldIn.takeX (Plainly.of (by kernel_rfl)) 18 _ undef rfl (by kernel_rfl) (by kernel_rfl) (fun _ _ _ h => h) S9 (.inr ⟨by kernel_rfl, rfl, fun _ _ _ => trivial⟩) ?_
                go_simp
                refine HeldIn.takeX (Plainly.of (by kernel_rfl)) 19 _ (.bool true) rfl (by kernel_rfl) (by kernel_rfl) (fun _ _ _ h => h) S9 (.inl ⟨by kernel_rfl, fun w h => by go_simp, fun _ => rfl⟩) ?_
                go_simp
                refine HeldIn.done (by kernel_rfl) ?_ _
                have er := HF9.out.r.cell 0 rfl
                have fr := HF9.out.r.froz 0 (by simp)
                have zr := HF9.out.r.size
                gi_wp2
                have R9 := (HF9.out.r.set 0 (by simp) (.int .i64 12)).drew
                have B9 := (HF9.out.below.setCell (p := ⟨w.heap.size + 1 + 1 + 1, 0, none⟩) (by show w.heap.size ≤ w.heap.size + 1 + 1 + 1; omega) (.int .i64 12)).drew
                exact ⟨HKO.out.trans ((KeepsOthers.setCell W1 ⟨w.heap.size + 1 + 1 + 1, 0, none⟩ (.int .i64 12)).trans (KeepsOthers.drew _)), ⟨rfl, R9.cell 0 rfl⟩, B9⟩
            · have HX := Lib.hid heq
              clear heq
              refine HeldIn.takeX (Plainly.of (by kernel_rfl)) 6 _ (.bool false) rfl (by kernel_rfl) (by kernel_rfl) (fun _ _ _ h => h) S9 (.inl ⟨by kernel_rfl, fun w h => by go_simp; try (first | omega | exact HX.out), fun _ => rfl⟩) ?_
              go_simp
              refine HeldIn.takeX (Plainly.of (by kernel_rfl)) 7 _ (.bool false) rfl (by kernel_rfl) (by kernel_rfl) (fun _ _ _ h => h) S9 (.inl ⟨by kernel_rfl, fun w h => by go_simp, fun _ => rfl⟩) ?_
              go_simp
              refine HeldIn.takeX (Plainly.of (by kernel_rfl)) 8 _ undef rfl (by kernel_rfl) (by kernel_rfl) (fun _ _ _ h => h) S9 (.inr ⟨by kernel_rfl, rfl, fun _ _ _ => trivial⟩) ?_
              go_simp
              refine HeldIn.takeX (Plainly.of (by kernel_rfl)) 9 _ undef rfl (by kernel_rfl) (by kernel_rfl) (fun _ _ _ h => h) S9 (.inr ⟨by kernel_rfl, rfl, fun _ _ _ => trivial⟩) ?_
              go_simp
              refine HeldIn.takeX (Plainly.of (by kernel_rfl)) 10 _ undef rfl (by kernel_rfl) (by kernel_rfl) (fun _ _ _ h => h) S9 (.inr ⟨by kernel_rfl, rfl, fun _ _ _ => trivial⟩) ?_
              go_simp
              refine HeldIn.takeX (Plainly.of (by kernel_rfl)) 11 _ (.bool false) rfl (by kernel_rfl) (by kernel_rfl) (fun _ _ _ h => h) S9 (.inl ⟨by kernel_rfl, fun w h => by go_simp, fun _ => rfl⟩) ?_
              go_simp
              refine HeldIn.takeX (Plainly.of (by kernel_rfl)) 12 _ (.bool false) rfl (by kernel_rfl) (by kernel_rfl) (fun _ _ _ h => h) S9 (.inl ⟨by kernel_rfl, fun w h => by go_simp, fun _ => rfl⟩) ?_
              go_simp
              refine HeldIn.takeX (Plainly.of (by kernel_rfl)) 13 _ (.bool false) rfl (by kernel_rfl) (by kernel_rfl) (fun _ _ _ h => h) S9 (.inl ⟨by kernel_rfl, fun w h => by go_simp, fun _ => rfl⟩) ?_
              go_simp
              refine HeldIn.takeX (Plainly.of (by kernel_rfl)) 14 _ (.agg #[.int .i64 m0, .int .i64 m1, .int .i64 m2, .int .i64 m3, .int .i64 m4, .int .i64 m5, .slice pt ts.length ct]) rfl (by kernel_rfl) (by kernel_rfl) (fun _ _ _ h => h) S9 (.inl ⟨by kernel_rfl, fun w h => by have h2 := h.2.2.1; have h3 := h.2.2.2.1; have h4 := h.2.2.2.2.1; have h5 := h.2.2.2.2.2.1; have h6 := h.2.2.2.2.2.2.1; have h7 := h.2.2.2.2.2.2.2.1; have h8 := h.2.2.2.2.2.2.2.2; go_simp, fun _ => rfl⟩) ?_
              go_simp
              refine HeldIn.takeX (Plainly.of (by kernel_rfl)) 15 _ (.string ⟨y.toArray⟩) rfl (by kernel_rfl) (by kernel_rfl) (fun _ _ _ h => h) S9 (.inl ⟨by kernel_rfl, fun w h => by go_simp, fun _ => rfl⟩) ?_
              go_simp
              refine HeldIn.takeX (Plainly.of (by kernel_rfl)) 17 _ (.int .i64 hv) rfl (by kernel_rfl) (by kernel_rfl) (fun _ _ _ h => h) S9 (.inl ⟨by kernel_rfl, fun w h => by have h1 := h.1; go_simp, fun _ => rfl⟩) ?_
              go_simp
              refine HeldIn.all [16] (by kernel_rfl) (by simp) (HeldAll.cons rfl (by kernel_rfl) (fun K hK => ?_) HeldAll.nil)
              go_simp
              refine ⟨trivial, (CallsIn.inRound l (callsIn_wide.2 (HFY.out W1.drew HF9.out.below.drew))).mono ?_⟩
              rintro e W2 ⟨rfl, hb⟩
              have hb1 : Below W1.heap.size W1 W2 := (Below.refl _ W1).drew.trans hb
              have HF2 := Lib.hid (HF9.out.low hb1)
              have HBX := Lib.hid (HB9.out.trans (hb1.mono HB9.out.size))
              have HKX := Lib.hid (HKO.out.trans (keepsO hb1))
              have HBY := Lib.hid (HBW.out.trans (hb1.mono HB9.out.size))
              refine hK _ _ ⟨HF2.out.h.cell 0 rfl, HF2.out.u.cell 0 rfl, HF2.out.b.cell 0 rfl, HF2.out.b.cell 1 rfl, HF2.out.b.cell 2 rfl, HF2.out.b.cell 3 rfl, HF2.out.b.cell 4 rfl, HF2.out.b.cell 5 rfl, HF2.out.b.cell 6 rfl⟩ ?_
              clear hK K hb hb1 S9
              have S9 : (fun w' => w'.cell? ⟨g7, 0, none⟩ = some (.int .i64 hv) ∧ w'.cell? ⟨w.heap.size + 1 + 1, 0, none⟩ = some (.string ⟨x.toArray⟩) ∧ w'.cell? ⟨w.heap.size + 1, 0, none⟩ = some (.int .i64 m0) ∧ w'.cell? ⟨w.heap.size + 1, 1, none⟩ = some (.int .i64 m1) ∧ w'.cell? ⟨w.heap.size + 1, 2, none⟩ = some (.int .i64 m2) ∧ w'.cell? ⟨w.heap.size + 1, 3, none⟩ = some (.int .i64 m3) ∧ w'.cell? ⟨w.heap.size + 1, 4, none⟩ = some (.int .i64 m4) ∧ w'.cell? ⟨w.heap.size + 1, 5, none⟩ = some (.int .i64 m5) ∧ w'.cell? ⟨w.heap.size + 1, 6, none⟩ = some (.slice pt ts.length ct)) W2 := ⟨HF2.out.h.cell 0 rfl, HF2.out.u.cell 0 rfl, HF2.out.b.cell 0 rfl, HF2.out.b.cell 1 rfl, HF2.out.b.cell 2 rfl, HF2.out.b.cell 3 rfl, HF2.out.b.cell 4 rfl, HF2.out.b.cell 5 rfl, HF2.out.b.cell 6 rfl⟩
              by_cases hov2 : hv < a2
              · have HX := Lib.hid hov2
                refine HeldIn.takeX (Plainly.of (by kernel_rfl)) 18 _ (.bool true) rfl (by kernel_rfl) (by kernel_rfl) (fun _ _ _ h => h) S9 (.inl ⟨by kernel_rfl, fun w h => by go_simp; try (first | omega | exact HX.out), fun _ => rfl⟩) ?_
                go_simp
                refine HeldIn.takeX (Plainly.of (by kernel_rfl)) 19 _ (.bool true) rfl (by kernel_rfl) (by kernel_rfl) (fun _ _ _ h => h) S9 (.inl ⟨by kernel_rfl, fun w h => by go_simp, fun _ => rfl⟩) ?_
                go_simp
                refine HeldIn.done (by kernel_rfl) ?_ _
                have er := HF2.out.r.cell 0 rfl
                have fr := HF2.out.r.froz 0 (by simp)
                have zr := HF2.out.r.size
                gi_wp2
                have R9 := (HF2.out.r.set 0 (by simp) (.int .i64 12))
                have B9 := (HF2.out.below.setCell (p := ⟨w.heap.size + 1 + 1 + 1, 0, none⟩) (by show w.heap.size ≤ w.heap.size + 1 + 1 + 1; omega) (.int .i64 12))
                exact ⟨HKX.out.trans (KeepsOthers.setCell W2 ⟨w.heap.size + 1 + 1 + 1, 0, none⟩ (.int .i64 12)), ⟨rfl, R9.cell 0 rfl⟩, B9⟩
              · have HX := Lib.hid hov2
                refine HeldIn.takeX (Plainly.of (by kernel_rfl)) 18 _ (.bool false) rfl (by kernel_rfl) (by kernel_rfl) (fun _ _ _ h => h) S9 (.inl ⟨by kernel_rfl, fun w h => by go_simp; try (first | omega | exact HX.out), fun _ => rfl⟩) ?_
                go_simp
                refine HeldIn.takeX (Plainly.of (by kernel_rfl)) 19 _ (.bool false) rfl (by kernel_rfl) (by kernel_rfl) (fun _ _ _ h => h) S9 (.inl ⟨by kernel_rfl, fun w h => by go_simp, fun _ => rfl⟩) ?_
                go_simp
                refine HeldIn.done (by kernel_rfl) ?_ _
                gi_wp2
                refine ⟨HKX.out, HBY.out, ⟨fun z hz => ?_, HBX.out⟩⟩
                rcases List.mem_append.1 hz with h | h
                · exact HI1.out z h
                · rw [List.mem_singleton.1 h, HO2.out]; omega
        case done =>
          rintro D ys W hD rfl ⟨hI1, hB⟩ hK
          have F8 := F7.low hB
          have R := F8.r
          have HI1 := Lib.hid hI1
          have er := R.cell 0 rfl
          have fr := R.froz 0 (by simp)
          have zr := R.size
          have B := F8.below
          clear hI1
          simp only [Exit.inBlock, Exit.then]
          go_wp2_with fail
          have K9 := (KeepsOthers.setCell W ⟨w.heap.size + 1 + 1 + 1, 0, none⟩ (.int .i64 0)).same D _ hK rfl
          have R9 := R.set 0 (by simp) (.int .i64 0)
          have B9 := B.setCell (p := ⟨w.heap.size + 1 + 1 + 1, 0, none⟩) (by show w.heap.size ≤ w.heap.size + 1 + 1 + 1; omega) (.int .i64 0)
          have hwD : w.heap.size ≤ D := by have := F7.below.size; omega
          generalize W.setCell ⟨w.heap.size + 1 + 1 + 1, 0, none⟩ (.int .i64 0) = W9 at *
          have d0 := cell_kept (R9.cell 0 rfl) (grownBy_putObj' W9 D (.deferred none)) (fun r e => by cases e; exact ⟨_, K9, rfl⟩)
          show bodyPostM _ _ _ _ _ Exit.ret _ _
          refine ⟨by simp, .inl ⟨_, _, rfl, run_takeDeferred K9, ?_⟩⟩
          refine ⟨.int .i64 0, by simp [results, Tryd.f30, go_sem, d0], ⟨0, rfl, fun _ => ?_⟩, B9.trans (belowK_b (w := w) (Nat.le_refl _) W9 D _ _ hwD K9 rfl rfl)⟩
          rw [chOk, HHV.out]
          exact ⟨HN0.out, HI1.out⟩
        case stop =>
          rintro D c pre W hD _ ⟨⟨rfl, hc⟩, hB⟩ hK
          refine wpIn_wide.2 ?_
          go_wp2_with fail
          try simp only [Exit.inBlock, Exit.then]
          have hwD : w.heap.size ≤ D := by have := F7.below.size; omega
          have d0 := cell_kept hc (grownBy_putObj' W D (.deferred none)) (fun r e => by cases e; exact ⟨_, hK, rfl⟩)
          show bodyPostM _ _ _ _ _ Exit.ret _ _
          refine ⟨by simp, .inl ⟨_, _, rfl, run_takeDeferred hK, ?_⟩⟩
          exact ⟨.int .i64 12, by simp [results, Tryd.f30, go_sem, d0], ⟨12, rfl, fun h => absurd h (by decide)⟩, hB.trans (belowK_b (w := w) (Nat.le_refl _) W D _ _ hwD hK rfl rfl)⟩
