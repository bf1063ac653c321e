/- The walk of octet.GetList: a range over a function that collects. -/
import Derived.RangeFuncBox
import Derived.Test.YtjfibmlpjcncmaaOctSeq
import Derived.Test.YtjfibmlpjcncmaaHeldIn
import Derived.Outline
namespace Go.Proofs.Ytjfibmlpjcncmaa
open Go.RowKit Go.Shelf
set_option linter.unusedVariables false
set_option linter.unusedSimpArgs false
set_option maxRecDepth 100000
attribute [local go_sem] Oper.semAt_some
/-- append as it stands: the walk does not open it -/
def appOctGets (ats : Array TypeId) (ty : TypeId) (args : Array Value) : Sem Value := Builtin.append_ ats ty args
theorem appOctGets_fold (ats : Array TypeId) (ty : TypeId) (args : Array Value) : Builtin.append_ ats ty args = appOctGets ats ty args := rfl
attribute [local go_sem ↓] appOctGets_fold
namespace Oct

theorem cell?_putObj_ne (W : World) (k : Nat) (o : Obj) {b : Nat} (h : b ≠ k) : (W.putObj k o).cell? ⟨b, 0, none⟩ = W.cell? ⟨b, 0, none⟩ := by
  simp [World.cell?, World.putObj_heap_other h]
theorem other_row {W : World} {B : Nat} {cs : Array Value} {t e : TypeId} (h : W.heap[B]? = some (.cells cs t)) (hte : t ≠ e) {base size k : Nat} {v : Value} {xs : List Value} (hr : W.ownsRow base e size v k xs) : some B ≠ v.ownBlock := by
  rcases hr.2 with ⟨rfl, _⟩ | ⟨g, cap, cur, rfl, _, hgb, _⟩
  · simp [Value.ownBlock]
  · intro e'
    simp [Value.ownBlock] at e'
    subst e'
    rw [hgb] at h
    cases h
    exact hte rfl

theorem ownsRow_mono {W : World} {base base' : Nat} {e : TypeId} {size k : Nat} {v : Value} {xs : List Value} (hb : base' ≤ base) (h : W.ownsRow base e size v k xs) : W.ownsRow base' e size v k xs :=
  ⟨h.1, h.2.imp id fun ⟨g, cap, cur, h1, h2, h3⟩ => ⟨g, cap, cur, h1, Nat.le_trans hb h2, h3⟩⟩
theorem low_ne_row {W : World} {base b : Nat} {e : TypeId} {size k : Nat} {v : Value} {xs : List Value} (h : W.ownsRow base e size v k xs) (hb : b < base) : some b ≠ v.ownBlock := fun e => by
  have := (h.lt _ e.symm).1
  omega

/-- the last reading's error -/
def errOf (pre : List Rd) : Nat := (pre.getLast?.map (·.2.2)).getD 0
theorem errOf_append (pre : List Rd) (x : Rd) : errOf (pre ++ [x]) = x.2.2 := by simp [errOf]
theorem items_length (n : Nat) : ∀ (at_ : Nat) (l : List UInt8), (items n at_ l).length ≤ n := by
  induction n with
  | zero => intro at_ l; simp [items]
  | succ n ih =>
    intro at_ l
    rw [items]
    split
    · simp
    · have := ih (at_ + (getText (l.drop at_)).2.1) l
      simp; omega

theorem items_last (n : Nat) : ∀ (at_ : Nat) (l : List UInt8), lastAt at_ (items n at_ l) ≤ at_ + 8199 * n := by
  induction n with
  | zero => intro at_ l; simp [items, lastAt]
  | succ n ih =>
    intro at_ l
    obtain ⟨t, u, e, hg, h0, h1, h2⟩ := getText_spec (l.drop at_)
    have hu : u ≤ 8199 := by
      by_cases he : e = 0
      · exact (h0 he).2.2.2
      · rw [(h1 he).1]; omega
    rw [items, hg]
    split
    · simp [lastAt]; omega
    · have := ih (at_ + u) l
      simp only [lastAt]
      omega

set_option maxHeartbeats 4000000 in
theorem getList_any (l : List UInt8) (hl : l.length ≤ maxLen) (w : World) :
    Calls Try.prog 22 #[.string ⟨l.toArray⟩] w fun e w' => ∃ v, e = .returned (.tuple #[v, .int .i64 ((getList l).2.1 : Int), .int .i64 ((getList l).2.2 : Int)]) ∧ OwnS w.heap.size w' v (getList l).1 ∧ Below w.heap.size w w' := by
  obtain ⟨i0, hi, hz0, hz1, hz2⟩ := info_parts info_str
  obtain ⟨n, u, e, hg, h0, h1⟩ := getNum_spec l
  have HL := Lib.hid hl
  clear hl
  have hc := fun w => getNum_any l w
  rw [hg] at hc
  have HT : Hid (getList l = if e ≠ 0 then ([], 0, e) else if 256 < n then ([], 0, 7) else gts n u l []) := by
    refine Lib.hid ?_
    rw [getList, hg]
  refine callsIn_wide (n := 9).1 ?_
  refine callsIn_of_wp_marks Try.func22 rfl trivial ?_ rfl
  simp only [Try.ntmps22, List.size_toArray, List.length_cons, List.length_nil, Nat.reduceAdd, Nat.reduceSub, Array.replicate_succ, Array.replicate_zero, List.push_toArray, List.append_toArray, List.nil_append, List.cons_append]
  gi_wp2_with fail
  refine ⟨trivial, (callsIn_wide.2 (hc _)).mono ?_⟩
  rintro e1 w1 ⟨rfl, rfl⟩
  clear hc hg
  have ht := HT.out
  by_cases he : e = 0
  · subst he
    have h0' := h0 rfl
    have HN : Hid (n ≤ 281474976710656) := Lib.hid h0'.1
    obtain ⟨-, hu0, hu7, hul⟩ := h0'
    clear h0 h1
    rw [if_neg (by simp)] at ht
    by_cases hn : 256 < n
    · rw [if_pos hn] at ht
      have HT := Lib.hid ht
      clear ht
      have hni : (256 : Int) < (n : Int) := by omega
      gi_wp2
      rw [HT.out]
      refine ⟨.tuple #[.slice none 0 0, .int .i64 0, .int .i64 7], by simp [results, Try.f22, go_sem], _, rfl, OwnS.nil _ _, ?_⟩
      exact (((((Below.refl w.heap.size w).alloc (Nat.le_refl _) _).alloc (by simp) _).alloc (by simp <;> omega) _).alloc (by simp <;> omega) _)
    · rw [if_neg hn] at ht
      have HT := Lib.hid ht
      clear ht
      have hni : (n : Int) ≤ 256 := by omega
      have hx := ext_drop l u
      gi_wp2_with fail
      refine ⟨trivial, (texts_in Fence.wide 8 trivial rfl (l.drop u) n _).mono ?_⟩
      rintro e2 w2 ⟨rfl, rfl⟩
      gi_wp2_with fail
      try simp only [World.size_alloc]
      have b0 := (((((((Boxed.new w 32 (.slice none 0 0)).alloc (.cells #[.int .i64 0] 3)).alloc (.cells #[.int .i64 0] 23)).alloc (.cells #[.int .i64 (u : Int)] 3)).alloc (.cells #[.slice none 0 0] 32)).alloc (.cells #[.int .i64 (u : Int)] 3)).alloc (.cells #[.string ⟨(l.drop u).toArray⟩] 9)).alloc (.cells #[.int .u64 (n : Int)] 22)
      have b1 := ((((((Boxed.new (w.alloc (.cells #[.slice none 0 0] 32)) 3 (.int .i64 0)).alloc (.cells #[.int .i64 0] 23)).alloc (.cells #[.int .i64 (u : Int)] 3)).alloc (.cells #[.slice none 0 0] 32)).alloc (.cells #[.int .i64 (u : Int)] 3)).alloc (.cells #[.string ⟨(l.drop u).toArray⟩] 9)).alloc (.cells #[.int .u64 (n : Int)] 22)
      have b2 := (((((Boxed.new ((w.alloc (.cells #[.slice none 0 0] 32)).alloc (.cells #[.int .i64 0] 3)) 23 (.int .i64 0)).alloc (.cells #[.int .i64 (u : Int)] 3)).alloc (.cells #[.slice none 0 0] 32)).alloc (.cells #[.int .i64 (u : Int)] 3)).alloc (.cells #[.string ⟨(l.drop u).toArray⟩] 9)).alloc (.cells #[.int .u64 (n : Int)] 22)
      have b3 := ((((Boxed.new (((w.alloc (.cells #[.slice none 0 0] 32)).alloc (.cells #[.int .i64 0] 3)).alloc (.cells #[.int .i64 0] 23)) 3 (.int .i64 (u : Int))).alloc (.cells #[.slice none 0 0] 32)).alloc (.cells #[.int .i64 (u : Int)] 3)).alloc (.cells #[.string ⟨(l.drop u).toArray⟩] 9)).alloc (.cells #[.int .u64 (n : Int)] 22)
      have b4 := (((Boxed.new ((((w.alloc (.cells #[.slice none 0 0] 32)).alloc (.cells #[.int .i64 0] 3)).alloc (.cells #[.int .i64 0] 23)).alloc (.cells #[.int .i64 (u : Int)] 3)) 32 (.slice none 0 0)).alloc (.cells #[.int .i64 (u : Int)] 3)).alloc (.cells #[.string ⟨(l.drop u).toArray⟩] 9)).alloc (.cells #[.int .u64 (n : Int)] 22)
      have b5 := ((Boxed.new (((((w.alloc (.cells #[.slice none 0 0] 32)).alloc (.cells #[.int .i64 0] 3)).alloc (.cells #[.int .i64 0] 23)).alloc (.cells #[.int .i64 (u : Int)] 3)).alloc (.cells #[.slice none 0 0] 32)) 3 (.int .i64 (u : Int))).alloc (.cells #[.string ⟨(l.drop u).toArray⟩] 9)).alloc (.cells #[.int .u64 (n : Int)] 22)
      have b6 := (Boxed.new ((((((w.alloc (.cells #[.slice none 0 0] 32)).alloc (.cells #[.int .i64 0] 3)).alloc (.cells #[.int .i64 0] 23)).alloc (.cells #[.int .i64 (u : Int)] 3)).alloc (.cells #[.slice none 0 0] 32)).alloc (.cells #[.int .i64 (u : Int)] 3)) 9 (.string ⟨(l.drop u).toArray⟩)).alloc (.cells #[.int .u64 (n : Int)] 22)
      have b7 := Boxed.new (((((((w.alloc (.cells #[.slice none 0 0] 32)).alloc (.cells #[.int .i64 0] 3)).alloc (.cells #[.int .i64 0] 23)).alloc (.cells #[.int .i64 (u : Int)] 3)).alloc (.cells #[.slice none 0 0] 32)).alloc (.cells #[.int .i64 (u : Int)] 3)).alloc (.cells #[.string ⟨(l.drop u).toArray⟩] 9)) 22 (.int .u64 (n : Int))
      simp only [World.size_alloc] at b1 b2 b3 b4 b5 b6 b7
      have hB0 : Below w.heap.size w ((((((((w.alloc (.cells #[.slice none 0 0] 32)).alloc (.cells #[.int .i64 0] 3)).alloc (.cells #[.int .i64 0] 23)).alloc (.cells #[.int .i64 (u : Int)] 3)).alloc (.cells #[.slice none 0 0] 32)).alloc (.cells #[.int .i64 (u : Int)] 3)).alloc (.cells #[.string ⟨(l.drop u).toArray⟩] 9)).alloc (.cells #[.int .u64 (n : Int)] 22)) := (((((((((Below.refl w.heap.size w).alloc (by simp <;> omega) (.cells #[.slice none 0 0] 32)).alloc (by simp <;> omega) (.cells #[.int .i64 0] 3)).alloc (by simp <;> omega) (.cells #[.int .i64 0] 23)).alloc (by simp <;> omega) (.cells #[.int .i64 (u : Int)] 3)).alloc (by simp <;> omega) (.cells #[.slice none 0 0] 32)).alloc (by simp <;> omega) (.cells #[.int .i64 (u : Int)] 3)).alloc (by simp <;> omega) (.cells #[.string ⟨(l.drop u).toArray⟩] 9)).alloc (by simp <;> omega) (.cells #[.int .u64 (n : Int)] 22))
      have hsz : ((((((((w.alloc (.cells #[.slice none 0 0] 32)).alloc (.cells #[.int .i64 0] 3)).alloc (.cells #[.int .i64 0] 23)).alloc (.cells #[.int .i64 (u : Int)] 3)).alloc (.cells #[.slice none 0 0] 32)).alloc (.cells #[.int .i64 (u : Int)] 3)).alloc (.cells #[.string ⟨(l.drop u).toArray⟩] 9)).alloc (.cells #[.int .u64 (n : Int)] 22)).heap.size = w.heap.size + 8 := by simp
      obtain ⟨W0, hW0⟩ : ∃ W0, ((((((((w.alloc (.cells #[.slice none 0 0] 32)).alloc (.cells #[.int .i64 0] 3)).alloc (.cells #[.int .i64 0] 23)).alloc (.cells #[.int .i64 (u : Int)] 3)).alloc (.cells #[.slice none 0 0] 32)).alloc (.cells #[.int .i64 (u : Int)] 3)).alloc (.cells #[.string ⟨(l.drop u).toArray⟩] 9)).alloc (.cells #[.int .u64 (n : Int)] 22)) = W0 := ⟨_, rfl⟩
      rw [hW0] at b0 b1 b2 b3 b4 b5 b6 b7 hB0 hsz ⊢
      clear hW0
      refine wpIn_rangeFunc_ownH rfl (by omega) (gf := 73) (lb := #[.pointer (some ⟨w.heap.size + 1 + 1 + 1 + 1 + 1 + 1 + 1, 0, none⟩), .pointer (some ⟨w.heap.size + 1 + 1 + 1 + 1 + 1 + 1, 0, none⟩)]) rfl trivial (enters_of Try.func73 (by kernel_rfl) rfl)
        (texts_stops 8 (by omega) (w.heap.size + 1 + 1 + 1 + 1 + 1 + 1) (l.drop u) (by rw [List.length_drop]; have := HL.out; omega) n (by omega) W0 (by omega) b6.cell b7.cell) (fun h1 h2 => h2.trans h1) ?kb (Below.refl _ _) (fun _ => rfl)
        (fun pre W => ((((((((∀ x ∈ pre, x.2.2 = 0) ∧ (∃ v, Boxed W (w.heap.size + 1 + 1 + 1 + 1) 32 v ∧ W.ownsRow (w.heap.size + 8) 9 1 v pre.length (strsV (pre.map (·.1))) ∧ True)) ∧ Boxed W (w.heap.size + 1 + 1 + 1 + 1 + 1) 3 (.int .i64 (wrap64 ((u : Int) + (lastAt 0 pre : Nat))))) ∧ Boxed W (w.heap.size) 32 (.slice none 0 0)) ∧ Boxed W (w.heap.size + 1) 3 (.int .i64 0)) ∧ Boxed W (w.heap.size + 1 + 1) 23 (.int .i64 0)) ∧ Boxed W (w.heap.size + 1 + 1 + 1) 3 (.int .i64 (u : Int))) ∧ Boxed W (w.heap.size + 1 + 1 + 1 + 1 + 1 + 1) 9 (.string ⟨(l.drop u).toArray⟩)) ∧ Below w.heap.size w W)
        (fun c pre W => ((((c = .ret ∧ ∃ pre' x, pre = pre' ++ [x] ∧ (∀ y ∈ pre', y.2.2 = 0) ∧ x.2.2 ≠ 0) ∧ Boxed W (w.heap.size) 32 (.slice none 0 0)) ∧ Boxed W (w.heap.size + 1) 3 (.int .i64 0)) ∧ Boxed W (w.heap.size + 1 + 1) 23 (.int .i64 (errOf pre : Nat))) ∧ Below w.heap.size w W)
        (OwnFrom.and (OwnFrom.and (OwnFrom.and (OwnFrom.and (OwnFrom.and (OwnFrom.and (OwnFrom.and (OwnFrom.and (ownFrom_pure _ _) (Own.from (holdsRow_own (w.heap.size + 8) (w.heap.size + 1 + 1 + 1 + 1) 32 9 1 (fun pre : List Rd => pre.length) (fun pre => strsV (pre.map (·.1))) (fun _ _ => True)) _)) (Own.from (boxed_own _ _ _) _)) (Own.from (boxed_own _ _ _) _)) (Own.from (boxed_own _ _ _) _)) (Own.from (boxed_own _ _ _) _)) (Own.from (boxed_own _ _ _) _)) (Own.from (boxed_own _ _ _) _)) (ownFrom_below (Nat.le_refl _) (by omega)))
        (fun c => OwnFrom.and (OwnFrom.and (OwnFrom.and (OwnFrom.and (ownFrom_pure _ _) (Own.from (boxed_own _ _ _) _)) (Own.from (boxed_own _ _ _) _)) (Own.from (boxed_own _ _ _) _)) (ownFrom_below (Nat.le_refl _) (by omega)))
        ⟨⟨⟨⟨⟨⟨⟨⟨by simp, ⟨_, b4, World.ownsRow_nil _ _ _ _, trivial⟩⟩, ?e5⟩, b0⟩, b1⟩, b2⟩, b3⟩, b6⟩, hB0⟩
        (fun x a' W => ∃ Bx, w.heap.size + 7 ≤ Bx ∧ W.heap[Bx]? = some (.cells #[.int .i64 (x.2.1 : Int), .int .i64 (x.2.2 : Int)] 79) ∧ a' = { tmps := #[.string ⟨l.toArray⟩, undef, .pointer (some ⟨w.heap.size, 0, none⟩), .pointer (some ⟨w.heap.size + 1, 0, none⟩), .pointer (some ⟨w.heap.size + 1 + 1, 0, none⟩), .int .u64 (n : Int), .pointer (some ⟨w.heap.size + 1 + 1 + 1, 0, none⟩), .int .i64 0, .pointer (some ⟨w.heap.size + 1 + 1 + 1 + 1, 0, none⟩), .pointer (some ⟨w.heap.size + 1 + 1 + 1 + 1 + 1, 0, none⟩), .string ⟨x.1.toArray⟩, .pointer (some ⟨Bx, 0, none⟩), (.tuple #[.int .u64 (n : Int), .int .i64 (u : Int), .int .i64 0]), .string ⟨l.toArray⟩, (.tuple #[.int .u64 (n : Int), .int .i64 (u : Int), .int .i64 0]), .int .u64 (n : Int), .int .i64 (u : Int), .int .i64 0, .bool false, .int .i64 0, .bool false, undef, .bool (decide ((256 : Int) < (n : Int))), .int .u64 (n : Int), .bool (decide ((256 : Int) < (n : Int))), .int .i64 (u : Int), .string ⟨l.toArray⟩, .int .i64 (u : Int), .string ⟨(l.drop u).toArray⟩, .int .u64 (n : Int), .func (.func 73) #[] #[.pointer (some ⟨w.heap.size + 1 + 1 + 1 + 1 + 1 + 1 + 1, 0, none⟩), .pointer (some ⟨w.heap.size + 1 + 1 + 1 + 1 + 1 + 1, 0, none⟩)], .string ⟨x.1.toArray⟩, .agg #[.int .i64 (x.2.1 : Int), .int .i64 (x.2.2 : Int)], undef, undef, undef, undef, undef, undef, undef, undef, undef, undef, undef, undef, undef, undef, undef], defers := [] }) ?ax ?assign ?body ?done ?stop
      case kb =>
        intro W lp o o' hlp ho hc hw
        exact cell?_putObj_ne W lp o' (by omega)
      case e5 =>
        rw [show lastAt 0 ([] : List Rd) = 0 from rfl, show wrap64 ((u : Int) + ((0 : Nat) : Int)) = (u : Int) by unfold wrap64; omega]
        exact b5
      case ax =>
        rintro x a' s X Y row ⟨Bx, hBx, hX, ha⟩ hg hr
        refine ⟨Bx, hBx, (hg.block Bx (Array.getElem?_eq_some_iff.1 hX).1 (fun e => ?_)).trans hX, ha⟩
        obtain ⟨-, o, ho, hc⟩ := hr Bx e.symm
        rw [hX] at ho; cases ho; cases hc
      case assign =>
        rintro lp pre x W K hI hK
        obtain ⟨⟨⟨⟨⟨⟨⟨⟨hp, v, c4, hrow, -⟩, c5⟩, c0⟩, c1⟩, c2⟩, c3⟩, c6⟩, hB⟩ := hI
        have hsW := hB.size
        gi_wp2
        refine hK _ _ ((KeepsOthers.alloc _ _).from _) ?_ ⟨⟨⟨⟨⟨⟨⟨⟨hp, v, c4.alloc _, hrow.alloc _, trivial⟩, c5.alloc _⟩, c0.alloc _⟩, c1.alloc _⟩, c2.alloc _⟩, c3.alloc _⟩, c6.alloc _⟩, hB.alloc hsW _⟩ ⟨W.heap.size, ?_, World.alloc_heap_new W _, rfl⟩
        · exact ((c6.alloc _).cell).trans c6.cell.symm
        · have := c6.lt
          omega
      case body =>
        rintro lp pre x a' W hl ⟨r, hr⟩ ⟨⟨⟨⟨⟨⟨⟨⟨hp, v, c4, hrow, -⟩, c5⟩, c0⟩, c1⟩, c2⟩, c3⟩, c6⟩, hB⟩ ⟨Bx, hBx, hX, rfl⟩ hlt
        have hsW := hB.size
        have hpl : pre.length ≤ 256 := by have := items_length n 0 (l.drop u); omega
        have k0 := c0.cell
        have k1 := c1.cell
        have k2 := c2.cell
        have k3 := c3.cell
        have k4 := c4.cell
        have k5 := c5.cell
        have g0 := c0.frozen
        have g1 := c1.frozen
        have g2 := c2.frozen
        have g4 := c4.frozen
        have g5 := c5.frozen
        have kx0 : W.cell? ⟨Bx, 0, none⟩ = some (.int .i64 (x.2.1 : Int)) := by simp [World.cell?, hX]
        have kx1 : W.cell? ⟨Bx, 1, none⟩ = some (.int .i64 (x.2.2 : Int)) := by simp [World.cell?, hX]
        by_cases he : x.2.2 = 0
        · have hei : (x.2.2 : Int) = 0 := by omega
          gi_wp2_with fail
          have hmo : Try.prog.follows .mixedOrders = true := by kernel_rfl
          have hBl : Bx < W.heap.size := (Array.getElem?_eq_some_iff.1 hX).1
          have hW8 : w.heap.size + 8 ≤ W.heap.size := by omega
          obtain ⟨v', w1, hrun, hown', hgrow0, -⟩ := run_append_own (P := Try.prog) (W.alloc (.cells #[.string ⟨x.1.toArray⟩] 9)).drew (w.heap.size + 8) 32 32 9 i0 (.string ⟨#[]⟩) 1 16 Try.underlying32 hi hz0 hz1 hz2 rfl (by decide) v pre.length (strsV (pre.map (·.1))) (hrow.alloc _).drew ⟨W.heap.size, 0, none⟩ 1 1 [.string ⟨x.1.toArray⟩] rfl (cell_one_new _ _ _) (by simp [Value.oneCell']) (by unfold maxLen; omega) (by omega) (by simp; omega)
          rw [appOctGets_fold] at hrun
          have hgrow : (W.alloc (.cells #[.string ⟨x.1.toArray⟩] 9)).grownBy w1 v.ownBlock := ⟨hgrow0.os, hgrow0.tape, hgrow0.output, hgrow0.size, hgrow0.block⟩
          obtain ⟨g', cap', rfl⟩ := ownsRow_succ hown'
          obtain ⟨hv1, hv2, hr2, hk2, hb2⟩ := c4.appended (by decide) (ownsRow_mono (Nat.le_add_right w.heap.size 8) hrow) hB.size (by omega) (ownsRow_mono (Nat.le_add_right w.heap.size 8) hown') hgrow
          have hc1 := hv1.cell
          have hf1 := hv1.frozen
          have c0' : Boxed w1 (w.heap.size) 32 _ := (c0.alloc (.cells #[.string ⟨x.1.toArray⟩] 9)).kept hgrow (low_ne_row hrow (by omega))
          have c1' : Boxed w1 (w.heap.size + 1) 3 _ := (c1.alloc (.cells #[.string ⟨x.1.toArray⟩] 9)).kept hgrow (low_ne_row hrow (by omega))
          have c2' : Boxed w1 (w.heap.size + 1 + 1) 23 _ := (c2.alloc (.cells #[.string ⟨x.1.toArray⟩] 9)).kept hgrow (low_ne_row hrow (by omega))
          have c3' : Boxed w1 (w.heap.size + 1 + 1 + 1) 3 _ := (c3.alloc (.cells #[.string ⟨x.1.toArray⟩] 9)).kept hgrow (low_ne_row hrow (by omega))
          have c5' : Boxed w1 (w.heap.size + 1 + 1 + 1 + 1 + 1) 3 _ := (c5.alloc (.cells #[.string ⟨x.1.toArray⟩] 9)).kept hgrow (low_ne_row hrow (by omega))
          have c6' : Boxed w1 (w.heap.size + 1 + 1 + 1 + 1 + 1 + 1) 9 _ := (c6.alloc (.cells #[.string ⟨x.1.toArray⟩] 9)).kept hgrow (low_ne_row hrow (by omega))
          have hc3 := c3'.cell
          have hc5 := c5'.cell
          have hf5 := c5'.frozen
          have l3 := c3.lt
          have l4 := c4.lt
          have l5 := c5.lt
          have m3 := ((c3.alloc (.cells #[.string ⟨x.1.toArray⟩] 9))).cell
          have m4 := ((c4.alloc (.cells #[.string ⟨x.1.toArray⟩] 9))).cell
          have hX1 : w1.heap[Bx]? = some (.cells #[.int .i64 (x.2.1 : Int), .int .i64 (x.2.2 : Int)] 79) := (hgrow.block Bx (by simp <;> omega) (other_row hX (by decide) hrow)).trans ((Below.heap_alloc W _ Bx hBl).trans hX)
          have mx : (W.alloc (.cells #[.string ⟨x.1.toArray⟩] 9)).cell? ⟨Bx, 0, none⟩ = some (.int .i64 (x.2.1 : Int)) := by
            have : (W.alloc (.cells #[.string ⟨x.1.toArray⟩] 9)).heap[Bx]? = some (.cells #[.int .i64 (x.2.1 : Int), .int .i64 (x.2.2 : Int)] 79) := (Below.heap_alloc W _ Bx hBl).trans hX
            simp [World.cell?, this]
          have hx0 : w1.cell? ⟨Bx, 0, none⟩ = some (.int .i64 (x.2.1 : Int)) := by simp [World.cell?, hX1]
          have n4 : (w1.setCell ⟨w.heap.size + 1 + 1 + 1 + 1, 0, none⟩ (.slice (some ⟨g', 0, none⟩) (pre.length + 1) cap')).cell? ⟨Bx, 0, none⟩ = some (.int .i64 (x.2.1 : Int)) := by rw [World.cell?_setCell_other _ _ _ _ (by simp <;> omega)]; exact hx0
          have n3 : (w1.setCell ⟨w.heap.size + 1 + 1 + 1 + 1, 0, none⟩ (.slice (some ⟨g', 0, none⟩) (pre.length + 1) cap')).cell? ⟨w.heap.size + 1 + 1 + 1, 0, none⟩ = some (.int .i64 (u : Int)) := (c3'.other (by omega) _).cell
          have o4 : ((w1.setCell ⟨w.heap.size + 1 + 1 + 1 + 1, 0, none⟩ (.slice (some ⟨g', 0, none⟩) (pre.length + 1) cap')).setCell ⟨w.heap.size + 1 + 1 + 1 + 1 + 1, 0, none⟩ (.int .i64 (wrap64 ((u : Int) + (x.2.1 : Int))))).cell? ⟨Bx, 0, none⟩ = some (.int .i64 (x.2.1 : Int)) := by rw [World.cell?_setCell_other _ _ _ _ (by simp <;> omega)]; exact n4
          have o3 : ((w1.setCell ⟨w.heap.size + 1 + 1 + 1 + 1, 0, none⟩ (.slice (some ⟨g', 0, none⟩) (pre.length + 1) cap')).setCell ⟨w.heap.size + 1 + 1 + 1 + 1 + 1, 0, none⟩ (.int .i64 (wrap64 ((u : Int) + (x.2.1 : Int))))).cell? ⟨w.heap.size + 1 + 1 + 1, 0, none⟩ = some (.int .i64 (u : Int)) := ((c3'.other (by omega) _).other (by omega) _).cell
          have hS : W.drew.cell? ⟨w.heap.size + 1 + 1 + 1, 0, none⟩ = some (.int .i64 (u : Int)) ∧ W.drew.cell? ⟨Bx, 0, none⟩ = some (.int .i64 (x.2.1 : Int)) := ⟨k3, kx0⟩
          refine wpIn_region_held (fun w' => w'.cell? ⟨w.heap.size + 1 + 1 + 1, 0, none⟩ = some (.int .i64 (u : Int)) ∧ w'.cell? ⟨Bx, 0, none⟩ = some (.int .i64 (x.2.1 : Int))) hmo ?_
          refine HeldIn.take (Plainly.of (by kernel_rfl)) 1 _ (.string ⟨x.1.toArray⟩) rfl (by kernel_rfl) (by kernel_rfl) (fun _ _ _ h => h) hS ⟨by kernel_rfl, fun w _ => by go_simp, fun _ => rfl⟩ ?_
          go_simp
          refine HeldIn.take (Plainly.of (by kernel_rfl)) 5 _ (.pointer (some ⟨Bx, 0, none⟩)) rfl (by kernel_rfl) (by kernel_rfl) (fun _ _ _ h => h) hS ⟨by kernel_rfl, fun w _ => by go_simp, fun _ => rfl⟩ ?_
          go_simp
          refine HeldIn.take (Plainly.of (by kernel_rfl)) 4 _ (.int .i64 (u : Int)) rfl (by kernel_rfl) (by kernel_rfl) (fun _ _ _ h => h) hS ⟨by kernel_rfl, fun w h => by have h1 := h.1; go_simp, fun _ => rfl⟩ ?_
          go_simp
          refine HeldIn.take (Plainly.of (by kernel_rfl)) 6 _ (.int .i64 (x.2.1 : Int)) rfl (by kernel_rfl) (by kernel_rfl) (fun _ _ _ h => h) hS ⟨by kernel_rfl, fun w h => by have h1 := h.2; go_simp, fun _ => rfl⟩ ?_
          go_simp
          refine HeldIn.take (Plainly.of (by kernel_rfl)) 7 _ (.int .i64 (wrap64 ((u : Int) + (x.2.1 : Int)))) rfl (by kernel_rfl) (by kernel_rfl) (fun _ _ _ h => h) hS ⟨by kernel_rfl, fun w h => by go_simp; rw [IntWalk.i64_left], fun _ => rfl⟩ ?_
          go_simp
          refine HeldIn.all [0, 2] (by kernel_rfl) (by simp) (HeldAll.cons rfl (by kernel_rfl) (fun K hK => ?_) (HeldAll.cons rfl (by kernel_rfl) (fun K hK => ?_) HeldAll.nil))
          go_simp
          refine hK _ _ hS ?_
          clear hK K
          refine HeldIn.all [2] (by kernel_rfl) (by simp) (HeldAll.cons rfl (by kernel_rfl) (fun K hK => ?_) HeldAll.nil)
          go_simp
          refine hK _ _ ⟨m3, mx⟩ ?_
          clear hK K
          rotate_left
          go_simp
          refine hK _ _ ⟨m3, mx⟩ ?_
          clear hK K
          refine HeldIn.all [0] (by kernel_rfl) (by simp) (HeldAll.cons rfl (by kernel_rfl) (fun K hK => ?_) HeldAll.nil)
          go_simp
          refine hK _ _ ⟨m3, mx⟩ ?_
          clear hK K
          all_goals
            refine HeldIn.all [3] (by kernel_rfl) (by simp) (HeldAll.cons rfl (by kernel_rfl) (fun K hK => ?_) HeldAll.nil)
            go_simp
            refine hK _ _ ⟨hc3, hx0⟩ ?_
            clear hK K
            refine HeldIn.all [8] (by kernel_rfl) (by simp) (HeldAll.cons rfl (by kernel_rfl) (fun K hK => ?_) HeldAll.nil)
            go_simp
            refine hK _ _ ⟨n3, n4⟩ ?_
            clear hK K
            refine HeldIn.all [9] (by kernel_rfl) (by simp) (HeldAll.cons rfl (by kernel_rfl) (fun K hK => ?_) HeldAll.nil)
            go_simp
            refine hK _ _ ⟨o3, o4⟩ ?_
            clear hK K
            refine HeldIn.done (by kernel_rfl) ?_ _
            gi_wp2
            try go_bits
            refine ⟨(hk2.trans (KeepsOthers.setCell _ _ _)).from _, ((c6'.other (by omega) _).other (by omega) _).cell.trans c6.cell.symm, ⟨⟨⟨⟨⟨⟨⟨⟨?_, ⟨_, hv2.other (by omega) _, ?_, trivial⟩⟩, ?_⟩, (c0'.other (by omega) _).other (by omega) _⟩, (c1'.other (by omega) _).other (by omega) _⟩, (c2'.other (by omega) _).other (by omega) _⟩, (c3'.other (by omega) _).other (by omega) _⟩, (c6'.other (by omega) _).other (by omega) _⟩, ?_⟩⟩
            · intro y hy
              rcases List.mem_append.1 hy with hy | hy
              · exact hp y hy
              · rw [List.mem_singleton.1 hy]; exact he
            · rw [List.map_append, strsV_append, List.length_append]
              exact (hown'.kept (grownBy_setCell' _ _ _) (.inr (low_ne_row hown' (by omega)).symm)).kept (grownBy_setCell' _ _ _) (.inr (low_ne_row hown' (by omega)).symm)
            · rw [lastAt_append]
              exact (c5'.other (by omega) _).set _
            · exact (hB.trans hb2).setCell (p := ⟨w.heap.size + 1 + 1 + 1 + 1 + 1, 0, none⟩) (by simp <;> omega) _
        · have hei : ¬ (x.2.2 : Int) = 0 := by omega
          gi_wp2_with fail
          have hmo : Try.prog.follows .mixedOrders = true := by kernel_rfl
          gi_region_o
          all_goals gi_wp2
          all_goals (try go_bits)
          all_goals
            refine ⟨((((KeepsOthers.setCell _ _ _).trans (KeepsOthers.setCell _ _ _)).trans (KeepsOthers.setCell _ _ _)).trans (KeepsOthers.drew _)).from _, ⟨⟨⟨⟨rfl, pre, x, rfl, hp, he⟩, ?_⟩, ?_⟩, ?_⟩, ?_⟩
            · exact ((c0.set _).other (by omega) _).other (by omega) _
            · exact ((c1.other (by omega) _).set _).other (by omega) _
            · rw [errOf_append]; exact ((c2.other (by omega) _).other (by omega) _).set _
            · exact hB.trans ((((Below.refl w.heap.size W).setCell (p := ⟨w.heap.size, 0, none⟩) (by simp) _).setCell (p := ⟨w.heap.size + 1, 0, none⟩) (by simp <;> omega) _).setCell (p := ⟨w.heap.size + 1 + 1, 0, none⟩) (by simp <;> omega) _).drew
      case stop =>
        rintro D c pre W hD hpre ⟨⟨⟨⟨⟨rfl, pre', x, rfl, hp, hx⟩, c0⟩, c1⟩, c2⟩, hB⟩ hK
        gi_wp2
        refine ⟨by simp, .inl ⟨_, _, rfl, run_takeDeferred hK, ?_⟩⟩
        have hc0 := cell_kept c0.cell (grownBy_putObj' _ D (.deferred none)) (fun r e => by cases e; exact ⟨_, hK, rfl⟩)
        have hc1 := cell_kept c1.cell (grownBy_putObj' _ D (.deferred none)) (fun r e => by cases e; exact ⟨_, hK, rfl⟩)
        have hc2 := cell_kept c2.cell (grownBy_putObj' _ D (.deferred none)) (fun r e => by cases e; exact ⟨_, hK, rfl⟩)
        rw [errOf_append] at hc2
        have hg := gts_bad u l n 0 [] pre' x hpre hp hx
        rw [Nat.add_zero] at hg
        rw [HT.out, hg]
        refine ⟨.tuple #[.slice none 0 0, .int .i64 0, .int .i64 (x.2.2 : Int)], ?_, _, rfl, OwnS.nil _ _, hB.trans (belowK_b (w := w) (Nat.le_refl _) W D _ _ (by omega) hK rfl rfl)⟩
        simp [results, Try.f22, go_sem, hc0, hc1, hc2]
      case done =>
        rintro D ys W hD rfl ⟨⟨⟨⟨⟨⟨⟨⟨hp, v, c4, hrow, -⟩, c5⟩, c0⟩, c1⟩, c2⟩, c3⟩, c6⟩, hB⟩ hK
        have hsW := hB.size
        have k0 := c0.cell
        have k1 := c1.cell
        have k2 := c2.cell
        have k4 := c4.cell
        have k5 := c5.cell
        have g0 := c0.frozen
        have g1 := c1.frozen
        have g2 := c2.frozen
        have hmo : Try.prog.follows .mixedOrders = true := by kernel_rfl
        have hform : ∃ p n cap, v = .slice p n cap := by
          rcases hrow.2 with ⟨rfl, _⟩ | ⟨g, cap, cur, rfl, _⟩
          · exact ⟨_, _, _, rfl⟩
          · exact ⟨_, _, _, rfl⟩
        obtain ⟨pv, nv, cv, rfl⟩ := hform
        gi_wp2_with fail
        gi_region_o
        all_goals gi_wp2
        have hKO := (((KeepsOthers.setCell W ⟨w.heap.size, 0, none⟩ (.slice pv nv cv)).trans (KeepsOthers.setCell _ ⟨w.heap.size + 1, 0, none⟩ (.int .i64 (wrap64 ((u : Int) + (lastAt 0 (items n 0 (l.drop u)) : Nat)))))).trans (KeepsOthers.setCell _ ⟨w.heap.size + 1 + 1, 0, none⟩ (.int .i64 0))).trans (KeepsOthers.drew _)
        have hK' := hKO.same D _ hK rfl
        have d0 := ((c0.set (.slice pv nv cv)).other (B' := w.heap.size + 1) (by omega) (.int .i64 (wrap64 ((u : Int) + (lastAt 0 (items n 0 (l.drop u)) : Nat))))).other (B' := w.heap.size + 1 + 1) (by omega) (.int .i64 0)
        have d1 := ((c1.other (B' := w.heap.size) (by omega) (.slice pv nv cv)).set (.int .i64 (wrap64 ((u : Int) + (lastAt 0 (items n 0 (l.drop u)) : Nat))))).other (B' := w.heap.size + 1 + 1) (by omega) (.int .i64 0)
        have d2 := ((c2.other (B' := w.heap.size) (by omega) (.slice pv nv cv)).other (B' := w.heap.size + 1) (by omega) (.int .i64 (wrap64 ((u : Int) + (lastAt 0 (items n 0 (l.drop u)) : Nat))))).set (.int .i64 0)
        have r1 := hrow.kept (grownBy_setCell' W (w.heap.size) (.slice pv nv cv)) (.inr (c0.not_row (by decide) hrow).symm)
        have r2 := r1.kept (grownBy_setCell' _ (w.heap.size + 1) (.int .i64 (wrap64 ((u : Int) + (lastAt 0 (items n 0 (l.drop u)) : Nat))))) (.inr ((c1.other (B' := w.heap.size) (by omega) (.slice pv nv cv)).not_row (by decide) r1).symm)
        have r3 := r2.kept (grownBy_setCell' _ (w.heap.size + 1 + 1) (.int .i64 0)) (.inr (((c2.other (B' := w.heap.size) (by omega) (.slice pv nv cv)).other (B' := w.heap.size + 1) (by omega) (.int .i64 (wrap64 ((u : Int) + (lastAt 0 (items n 0 (l.drop u)) : Nat))))).not_row (by decide) r2).symm)
        have hbX := hB.trans ((((Below.refl w.heap.size W).setCell (p := ⟨w.heap.size, 0, none⟩) (by simp) (.slice pv nv cv)).setCell (p := ⟨w.heap.size + 1, 0, none⟩) (by simp <;> omega) (.int .i64 (wrap64 ((u : Int) + (lastAt 0 (items n 0 (l.drop u)) : Nat))))).setCell (p := ⟨w.heap.size + 1 + 1, 0, none⟩) (by simp <;> omega) (.int .i64 0))
        refine ⟨by simp, .inl ⟨_, _, rfl, run_takeDeferred hK', ?_⟩⟩
        obtain ⟨X, hX⟩ : ∃ X, ((W.setCell ⟨w.heap.size, 0, none⟩ (.slice pv nv cv)).setCell ⟨w.heap.size + 1, 0, none⟩ (.int .i64 (wrap64 ((u : Int) + (lastAt 0 (items n 0 (l.drop u)) : Nat))))).setCell ⟨w.heap.size + 1 + 1, 0, none⟩ (.int .i64 0) = X := ⟨_, rfl⟩
        rw [hX] at hK' d0 d1 d2 r3 hbX ⊢
        have r4 := ownsRow_mono (Nat.le_add_right w.heap.size 8) (ownsRow_putObj r3.drew (.deferred none) hK' rfl)
        have hc0 : (X.drew.putObj D (.deferred none)).cell? ⟨w.heap.size, 0, none⟩ = some (.slice pv nv cv) := cell_kept (show X.drew.cell? _ = _ from d0.cell) (grownBy_putObj' X.drew D (.deferred none)) (fun r e => by cases e; exact ⟨_, hK', rfl⟩)
        have hc1 : (X.drew.putObj D (.deferred none)).cell? ⟨w.heap.size + 1, 0, none⟩ = some _ := cell_kept (show X.drew.cell? _ = _ from d1.cell) (grownBy_putObj' X.drew D (.deferred none)) (fun r e => by cases e; exact ⟨_, hK', rfl⟩)
        have hc2 : (X.drew.putObj D (.deferred none)).cell? ⟨w.heap.size + 1 + 1, 0, none⟩ = some (.int .i64 0) := cell_kept (show X.drew.cell? _ = _ from d2.cell) (grownBy_putObj' X.drew D (.deferred none)) (fun r e => by cases e; exact ⟨_, hK', rfl⟩)
        have hg := gts_ok u l n 0 [] hp
        rw [Nat.add_zero, List.nil_append] at hg
        have hla := items_last n 0 (l.drop u)
        generalize hLA : lastAt 0 (items n 0 (l.drop u)) = la at *
        have hw : wrap64 ((u : Int) + (la : Int)) = ((u + la : Nat) : Int) := by unfold wrap64; omega
        rw [hw] at hc1
        rw [HT.out, hg]
        refine ⟨.tuple #[.slice pv nv cv, .int .i64 ((u + la : Nat) : Int), .int .i64 0], ?_, _, rfl, ?_, ?_⟩
        · simp [results, Try.f22, go_sem, hc0, hc1, hc2]
        · unfold OwnS
          rw [List.length_map]
          exact r4
        · exact hbX.drew.trans (belowK_b (w := w) (Nat.le_refl _) _ D _ _ (by omega) hK' rfl rfl)
  · rw [if_pos he] at ht
    have HT := Lib.hid ht
    clear ht
    have hei : ¬ (e : Int) = 0 := by omega
    gi_wp2
    rw [HT.out]
    refine ⟨.tuple #[.slice none 0 0, .int .i64 0, .int .i64 (e : Int)], by simp [results, Try.f22, go_sem], _, rfl, OwnS.nil _ _, ?_⟩
    exact (((((Below.refl w.heap.size w).alloc (Nat.le_refl _) _).alloc (by simp) _).alloc (by simp <;> omega) _).alloc (by simp <;> omega) _)
end Oct
end Go.Proofs.Ytjfibmlpjcncmaa
