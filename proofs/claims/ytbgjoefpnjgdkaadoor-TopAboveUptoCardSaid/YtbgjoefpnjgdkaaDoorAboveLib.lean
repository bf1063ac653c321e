/- What the library does for power: strings.Split at a blank, strconv.AppendUint of a small number. -/
import Derived.Test.YtbgjoefpnjgdkaaDoorPowShelf
import Derived.Test.YtbgjoefpnjgdkaaDoorIdentOf
import Derived.Test.YtbgjoefpnjgdkaaDoorLaidVars
import Derived.Lib.SmallJoins
import Derived.Shelf.Strings.PiecesUse
import Derived.Lib.LaidTab
namespace Go.Proofs.YtbgjoefpnjgdkaaDoor
open Go.RowKit Go.ChangeShapes Go.WideShapes
set_option linter.unusedVariables false
set_option linter.unusedSimpArgs false
set_option maxRecDepth 100000
namespace Above
open Named Oct
/-- the variables that power reads -/
structure VarsP (w : World) : Prop where
  v : Vars w
  tab : Lib.TabIs Tryd.prog w "internal/strconv.uint64pow10" .u64 Lib.pow10Tab
theorem VarsP.low {w w' : World} (h : VarsP w) (hb : Below w.heap.size w w') : VarsP w' :=
  ⟨h.v.low hb, by
    have hg : Tryd.prog.globalNamed "internal/strconv.uint64pow10" = some 7 := by kernel_rfl
    exact Go.Joins.tab_stays hg h.tab hb (Nat.le_refl _)⟩

theorem index_blank (s : ByteArray) : Lib.indexB s ⟨#[32]⟩ = Lib.indexByte s.data.toList 32 := Lib.index_one s.data.toList 32
theorem count_blank (s : ByteArray) : (Lib.countByte s.data.toList 32 : Int) = (Lib.countB s ⟨#[32]⟩ : Int) := by
  show ((s.data.toList.count 32 : Nat) : Int) = ((Lib.count s.data.toList [32] : Nat) : Int)
  rw [Lib.count_one]

theorem pieces_small (sep : ByteArray) : ∀ (k : Nat) (s : ByteArray), ∀ x ∈ Lib.splitB sep 0 k s, x.size ≤ s.size
  | 0, s => fun x hx => by
    rw [Lib.splitB_zero, List.mem_singleton] at hx
    rw [hx]; exact Nat.le_refl _
  | k + 1, s => fun x hx => by
    rcases Lib.indexB_cases s sep with h | ⟨i, hi, -⟩
    · rw [Lib.splitB_miss sep 0 (k + 1) s h, List.mem_singleton] at hx
      rw [hx]; exact Nat.le_refl _
    · rw [Lib.splitB_hit sep 0 k s i hi, List.mem_cons] at hx
      rcases hx with rfl | hx
      · rw [ByteArray.size_extract]; omega
      · have := pieces_small sep k _ x hx
        rw [ByteArray.size_extract] at this
        omega

theorem genSplit_blank (s : ByteArray) (hs : s.size ≤ 1048576) (w : World) :
    Calls Tryd.prog 116 #[.string s, .string ⟨#[32]⟩, .int .i64 0, .int .i64 (-1)] w fun e w' =>
      e = .returned (.slice (some ⟨w.heap.size, 0, none⟩) (Lib.countB s ⟨#[32]⟩ + 1) (Lib.countB s ⟨#[32]⟩ + 1)) ∧ w' = w.alloc (.cells ((Lib.splitB ⟨#[32]⟩ 0 (Lib.countB s ⟨#[32]⟩) s).map Value.string).toArray 9) := by
  have h1 : 1 ≤ (⟨#[32]⟩ : ByteArray).size := Nat.le_refl _
  have hle := Lib.countB_le ⟨#[32]⟩ h1 s.size s (Nat.le_refl _)
  have hlen := Lib.splitB_all ⟨#[32]⟩ h1 0 _ s rfl
  have hC := Tryd.strings_Count_one s 32 w
  rw [count_blank] at hC
  have c := Any.strings_genSplit_core Tryd.lays221 (by kernel_rfl) s ⟨#[32]⟩ 0 (-1) (Lib.countB s ⟨#[32]⟩ + 1) w (by omega) h1 (Nat.zero_le _)
    (fun x c _ => by
      have h := Tryd.strings_Index_one x 32 (w.alloc (.cells c 9))
      rw [← index_blank] at h
      exact h) hC (by decide) (by decide) (by rw [if_pos (by decide)]; omega)
  rw [Nat.add_sub_cancel, hlen] at c
  have e2 : Lib.cellsOf (Lib.splitB ⟨#[32]⟩ 0 (Lib.countB s ⟨#[32]⟩) s) (Lib.countB s ⟨#[32]⟩ + 1) = ((Lib.splitB ⟨#[32]⟩ 0 (Lib.countB s ⟨#[32]⟩) s).map Value.string).toArray := by rw [← hlen]; exact Lib.cellsOf_full _
  rw [e2] at c
  exact c

theorem split_any (s : ByteArray) (hs : s.size ≤ 1048576) (w : World) :
    Calls Tryd.prog 73 #[.string s, .string ⟨#[32]⟩] w fun e w' => ∃ ls : List (List UInt8), e = .returned (.slice (some ⟨w.heap.size, 0, none⟩) ls.length ls.length) ∧ w.heap.size < w'.heap.size ∧ (∀ (j : Nat) (hj : j < ls.length), w'.cell? ⟨w.heap.size, 0 + j, none⟩ = some (.string ⟨(ls[j]).toArray⟩)) ∧ (∀ l ∈ ls, l.length ≤ 1048576) ∧ ls.length ≤ 1048577 ∧ Below w.heap.size w w' := by
  have HC := Lib.hid (genSplit_blank s hs)
  have hle := Lib.countB_le ⟨#[32]⟩ (Nat.le_refl _) s.size s (Nat.le_refl _)
  have hlen := Lib.splitB_all ⟨#[32]⟩ (Nat.le_refl _) 0 _ s rfl
  have hps := pieces_small ⟨#[32]⟩ (Lib.countB s ⟨#[32]⟩) s
  generalize Lib.splitB ⟨#[32]⟩ 0 (Lib.countB s ⟨#[32]⟩) s = ps at *
  generalize Lib.countB s ⟨#[32]⟩ = n at *
  go_enter Tryd.func73, Tryd.ntmps73
  go_wp2_with (go_at_call 116; refine (HC.out _).mono ?_; rintro e w' ⟨rfl, rfl⟩)
  go_ret
  refine ⟨ps.map (fun b => b.data.toList), ?_, by simp, fun j hj => ?_, ?_, ?_, (Below.refl _ w).alloc (Nat.le_refl _) _⟩
  · rw [List.length_map, hlen]; rfl
  · rw [List.length_map] at hj
    have h := Lib.pieces_cell_at w ps 9 j ps[j] (List.getElem?_eq_getElem hj)
    rw [Nat.zero_add, List.getElem_map]
    refine h.trans ?_
    rw [Array.toArray_toList]
  · intro l hl
    obtain ⟨b, hb, rfl⟩ := List.mem_map.1 hl
    have := hps b hb
    rw [Array.length_toList]
    have e : b.data.size = b.size := rfl
    omega
  · rw [List.length_map, hlen]; omega

theorem appendUint_in (n : Nat) (hn : n < 18446744073709551616) (w : World) (hP : VarsP w) :
    Calls Tryd.prog 148 #[.slice none 0 0, .int .u64 (n : Int), .int .i64 10] w fun e w' => ∃ v l, e = .returned v ∧ Bag w.heap.size w' v l ∧ Below w.heap.size w w' := by
  have h0 := World.ownsRow_nil w w.heap.size 5 1
  have hfin : ∀ v' w', w'.ownsRow w.heap.size 5 1 v' (0 + (Lib.decDigits n).length) ([] ++ Lib.byteCells (Lib.decDigits n)) → Bag w.heap.size w' v' (Lib.decDigits n) := fun v' w' h => by
    rw [Nat.zero_add, List.nil_append] at h
    exact Bag.of_own h
  by_cases h : n < 100
  · refine (Tryd.internal_strconv_AppendUint_10_small w.heap.size 0 n h (.slice none 0 0) [] w h0 (Nat.le_refl _) (by omega)).mono ?_
    rintro e w' ⟨v', rfl, h1, h2, -⟩
    exact ⟨v', _, rfl, hfin v' w' h1, h2⟩
  · refine (Tryd.internal_strconv_AppendUint_10_big w.heap.size 0 n (by omega) hn (.slice none 0 0) [] w h0 (Nat.le_refl _) (by omega) hP.tab).mono ?_
    rintro e w' ⟨v', rfl, h1, h2, -⟩
    exact ⟨v', _, rfl, hfin v' w' h1, h2⟩

theorem appendUint_any (n : Nat) (hn : n < 18446744073709551616) (w : World) (hP : VarsP w) :
    Calls Tryd.prog 117 #[.slice none 0 0, .int .u64 (n : Int), .int .i64 10] w fun e w' => ∃ v l, e = .returned v ∧ Bag w.heap.size w' v l ∧ Below w.heap.size w w' := by
  have HC := Lib.hid (appendUint_in n hn w hP)
  clear hn hP
  go_enter Tryd.func117, Tryd.ntmps117
  go_wp2_with (go_at_call 148; refine HC.out.mono ?_; rintro e w' ⟨v, l, rfl, h1, h2⟩)
  go_ret
  exact ⟨_, _, rfl, h1, h2⟩

theorem tab_of_mem {W : World} {laid : List (String × DataW Unit)} (h : laidMet Tryd.prog laid W) (hm : ("internal/strconv.uint64pow10", Lib.tabData .u64 Lib.pow10Tab) ∈ laid) : Lib.TabIs Tryd.prog W "internal/strconv.uint64pow10" .u64 Lib.pow10Tab := by
  obtain ⟨ps, hl, _, _⟩ := h
  obtain ⟨g, t, cs, fuel, p, h1, h2, h3, h4⟩ := laid_mem hl hm
  obtain rfl := Option.some.inj ((show Tryd.prog.globalNamed "internal/strconv.uint64pow10" = some 7 by kernel_rfl).symm.trans h1)
  obtain rfl := Option.some.inj ((show (Tryd.prog.globals[7]?).map (·.type) = some 252 by kernel_rfl).symm.trans h2)
  unfold Lib.TabIs
  rw [h3, ← Lib.cells_of_tab Tryd.underlying252 Tryd.underlying95 (by kernel_rfl) (by kernel_rfl) h4]
end Above
end Go.Proofs.YtbgjoefpnjgdkaaDoor
