/- The walk of journal.Read: a range over a function that collects. -/
import Derived.RangeFuncBox
import Derived.Test.YtjfibmlpjcncmaaOctGets
import Derived.Test.YtjfibmlpjcncmaaJrnSeq
namespace Go.Proofs.Ytjfibmlpjcncmaa
open Go.RowKit Go.Shelf
set_option linter.unusedVariables false
set_option linter.unusedSimpArgs false
set_option maxRecDepth 100000
attribute [local go_sem] Oper.semAt_some
namespace Jrn
open Oct

set_option maxHeartbeats 4000000 in
theorem read_any (l : List UInt8) (hl : (l.length : Int) ≤ 2097152) (w : World) :
    Calls Try.prog 32 #[.string ⟨l.toArray⟩] w fun e w' => ∃ v, e = .returned (.tuple #[v, .int .i64 ((readR l).2 : Int)]) ∧ OwnS w.heap.size w' v (readR l).1 ∧ Below w.heap.size w w' := by
  obtain ⟨i0, hi, hz0, hz1, hz2⟩ := info_parts info_str
  have HL := Lib.hid hl
  clear hl
  refine callsIn_wide (n := 9).1 ?_
  refine callsIn_of_wp_marks Try.func32 rfl trivial ?_ rfl
  simp only [Try.ntmps32, List.size_toArray, List.length_cons, List.length_nil, Nat.reduceAdd, Nat.reduceSub, Array.replicate_succ, Array.replicate_zero, List.push_toArray, List.append_toArray, List.nil_append, List.cons_append]
  gi_wp2_with fail
  refine ⟨trivial, (records_in Fence.wide 8 trivial rfl l _).mono ?_⟩
  rintro e1 w1 ⟨rfl, rfl⟩
  gi_wp2_with fail
  try simp only [World.size_alloc]
  have b0 := ((Boxed.new w 32 (.slice none 0 0)).alloc (.cells #[.int .i64 0] 3)).alloc (.cells #[.string ⟨l.toArray⟩] 9)
  have b1 := (Boxed.new (w.alloc (.cells #[.slice none 0 0] 32)) 3 (.int .i64 0)).alloc (.cells #[.string ⟨l.toArray⟩] 9)
  have b2 := Boxed.new ((w.alloc (.cells #[.slice none 0 0] 32)).alloc (.cells #[.int .i64 0] 3)) 9 (.string ⟨l.toArray⟩)
  simp only [World.size_alloc] at b1 b2
  have hB0 : Below w.heap.size w (((w.alloc (.cells #[.slice none 0 0] 32)).alloc (.cells #[.int .i64 0] 3)).alloc (.cells #[.string ⟨l.toArray⟩] 9)) := (((Below.refl w.heap.size w).alloc (by simp) _).alloc (by simp) _).alloc (by simp <;> omega) _
  have hsz : (((w.alloc (.cells #[.slice none 0 0] 32)).alloc (.cells #[.int .i64 0] 3)).alloc (.cells #[.string ⟨l.toArray⟩] 9)).heap.size = w.heap.size + 3 := by simp
  obtain ⟨W0, hW0⟩ : ∃ W0, ((w.alloc (.cells #[.slice none 0 0] 32)).alloc (.cells #[.int .i64 0] 3)).alloc (.cells #[.string ⟨l.toArray⟩] 9) = W0 := ⟨_, rfl⟩
  rw [hW0] at b0 b1 b2 hB0 hsz ⊢
  clear hW0
  refine wpIn_rangeFunc_ownG rfl (by omega) (gf := 75) (lb := #[.pointer (some ⟨w.heap.size + 1 + 1, 0, none⟩)]) rfl trivial (enters_of Try.func75 (by kernel_rfl) rfl)
    (records_stops 8 (by omega) (w.heap.size + 1 + 1) l HL.out W0 (by omega) b2.cell) (fun h1 h2 => h2.trans h1) ?kb (Below.refl _ _) (fun _ => rfl)
    (fun pre W => ((((∃ v, Boxed W (w.heap.size) 32 v ∧ W.ownsRow (w.heap.size + 3) 9 1 v pre.length (strsV (pre.map (·.2))) ∧ True) ∧ Boxed W (w.heap.size + 1) 3 (.int .i64 ((lastAt 0 pre : Nat) : Int))) ∧ Boxed W (w.heap.size + 1 + 1) 9 (.string ⟨l.toArray⟩)) ∧ Below w.heap.size w W))
    (fun _ _ _ => False)
    (OwnFrom.and (OwnFrom.and (OwnFrom.and (Own.from (holdsRow_own (w.heap.size + 3) (w.heap.size) 32 9 1 (fun pre : List (Nat × List UInt8) => pre.length) (fun pre => strsV (pre.map (·.2))) (fun _ _ => True)) _) (Own.from (boxed_own _ _ _) _)) (Own.from (boxed_own _ _ _) _)) (ownFrom_below (Nat.le_refl _) (by omega)))
    (fun _ _ _ _ _ hs _ _ => hs)
    ⟨⟨⟨⟨_, b0, World.ownsRow_nil _ _ _ _, trivial⟩, b1⟩, b2⟩, hB0⟩
    (fun x => { tmps := #[.string ⟨l.toArray⟩, undef, .slice none 0 0, .int .i64 0, .pointer (some ⟨w.heap.size, 0, none⟩), .pointer (some ⟨w.heap.size + 1, 0, none⟩), .int .i64 (x.1 : Int), .string ⟨x.2.toArray⟩, .string ⟨l.toArray⟩, .func (.func 75) #[] #[.pointer (some ⟨w.heap.size + 1 + 1, 0, none⟩)], .int .i64 (x.1 : Int), .string ⟨x.2.toArray⟩, undef, undef, undef, undef, undef, undef, undef], defers := [] }) ?assign ?body ?done ?stop
  case kb =>
    intro W lp o o' hlp ho hc hw
    exact cell?_putObj_ne W lp o' (by omega)
  case assign =>
    intro lp x W K hK
    gi_wp2
    exact hK
  case body =>
    rintro lp pre x W ⟨⟨⟨⟨v, c0, hrow, -⟩, c1⟩, c2⟩, hB⟩ hlt
    have hsW := hB.size
    have hpl : pre.length ≤ 500000 := by
      have := recs_length (l.length + 1) 0 l (by omega)
      have := HL.out
      omega
    have l2 := c2.lt
    have hW3 : w.heap.size + 3 ≤ W.heap.size := by omega
    have k0 := c0.cell
    have k1 := c1.cell
    have g0 := c0.frozen
    have g1 := c1.frozen
    gi_wp2_with (gi_at_builtin; refine wpListIn_append_own _ rfl _ _ 32 rfl (w.heap.size + 3) 9 i0 (.string ⟨#[]⟩) 1 16 Try.underlying32 hi hz0 hz1 hz2 rfl (by decide) _ _ _ rfl (hrow.alloc _) ⟨W.heap.size, 0, none⟩ 1 1 [.string ⟨x.2.toArray⟩] rfl rfl (cell_one_new _ _ _) (by simp [Value.oneCell']) (by unfold maxLen; omega) (by omega) (by simp; omega) ?_; intro v' w1 hown' hgrow _; obtain ⟨g', cap', rfl⟩ := ownsRow_succ hown'; obtain ⟨hv1, hv2, hr2, hk2, hb2⟩ := c0.appended (by decide) (ownsRow_mono (Nat.le_add_right w.heap.size 3) hrow) hB.size (by omega) (ownsRow_mono (Nat.le_add_right w.heap.size 3) hown') hgrow; have hc1 := hv1.cell; have hf1 := hv1.frozen; have c1' : Boxed w1 (w.heap.size + 1) 3 _ := (c1.alloc (.cells #[.string ⟨x.2.toArray⟩] 9)).kept hgrow (low_ne_row hrow (by omega)); have hc2 := c1'.cell; have hf2 := c1'.frozen; have c2' : Boxed w1 (w.heap.size + 1 + 1) 9 _ := (c2.alloc (.cells #[.string ⟨x.2.toArray⟩] 9)).kept hgrow (low_ne_row hrow (by omega)))
    refine ⟨(hk2.trans (KeepsOthers.setCell _ _ _)).from _, ((c2'.other (by omega) _).other (by omega) _).cell.trans c2.cell.symm, ⟨⟨⟨⟨_, hv2.other (by omega) _, ?_, trivial⟩, ?_⟩, (c2'.other (by omega) _).other (by omega) _⟩, ?_⟩⟩
    · rw [List.map_append, strsV_append, List.length_append]
      exact (hown'.kept (grownBy_setCell' _ _ _) (.inr (low_ne_row hown' (by omega)).symm)).kept (grownBy_setCell' _ _ _) (.inr (low_ne_row hown' (by omega)).symm)
    · rw [lastAt_append]
      exact (c1'.other (by omega) _).set _
    · exact (hB.trans hb2).setCell (p := ⟨w.heap.size + 1, 0, none⟩) (by simp <;> omega) _
  case done =>
    rintro D ys W hD rfl ⟨⟨⟨⟨v, c0, hrow, -⟩, c1⟩, c2⟩, hB⟩ hK
    have k0 := c0.cell
    have k1 := c1.cell
    have hmo : Try.prog.follows .mixedOrders = true := by kernel_rfl
    gi_wp2_with fail
    gi_region_o
    all_goals gi_wp2
    have hK' : W.drew.heap[D]? = some (.deferred (some [])) := hK
    have r4 := ownsRow_mono (Nat.le_add_right w.heap.size 3) (ownsRow_putObj hrow.drew (.deferred none) hK' rfl)
    refine ⟨by simp, .inl ⟨_, _, rfl, run_takeDeferred hK', ?_⟩⟩
    refine ⟨.tuple #[v, .int .i64 ((lastAt 0 (recs (l.length + 1) 0 l) : Nat) : Int)], ?_, _, rfl, ?_, ?_⟩
    · simp [results, Try.f32, go_sem]
    · unfold OwnS readR
      rw [List.length_map]
      exact r4
    · exact hB.drew.trans (belowK_b (w := w) (Nat.le_refl _) _ D _ _ (by omega) hK' rfl rfl)
  case stop =>
    rintro D c pre W _ _ h _
    exact h.elim
end Jrn
end Go.Proofs.Ytjfibmlpjcncmaa
