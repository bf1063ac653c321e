/- Bytes that a call made and may write, told by their cells: a row with a mark (of a conversion, of a literal) serves too; append onto them. -/
import Derived.Test.YtbgjoefpnjgdkaaDoorOctPut
import Derived.Deep.MidRow
import Derived.ArgAppend
import Derived.Lib.AppendStr
import Derived.Laws.IdiomCopy
namespace Go.Proofs.YtbgjoefpnjgdkaaDoor
open Go.RowKit
set_option linter.unusedVariables false

/-- v holds these bytes, in a block from base on; what lies behind them up to the capacity may be written -/
def Bag (base : Nat) (w : World) (v : Value) (l : List UInt8) : Prop :=
  (v = .slice none 0 0 ∧ l = []) ∨ ∃ g cap, v = .slice (some ⟨g, 0, none⟩) l.length cap ∧ base ≤ g ∧ g < w.heap.size ∧ l.length ≤ cap ∧
    (∀ j (hj : j < l.length), w.cell? ⟨g, j, none⟩ = some (.int .u8 (l[j].toNat : Int))) ∧ ∀ j, j < cap → (w.cell? ⟨g, j, none⟩).isSome = true ∧ w.frozen? ⟨g, j, none⟩ = false

theorem Bag.nil (base : Nat) (w : World) : Bag base w (.slice none 0 0) [] := .inl ⟨rfl, rfl⟩

theorem Bag.lt {base : Nat} {w : World} {v : Value} {l : List UInt8} (h : Bag base w v l) : ∀ k, v.ownBlock = some k → base ≤ k ∧ k < w.heap.size := by
  intro k hk
  rcases h with ⟨rfl, _⟩ | ⟨g, cap, rfl, hb, hg, _⟩
  · cases hk
  · cases hk; exact ⟨hb, hg⟩

theorem Bag.kept {base : Nat} {w w' : World} {v : Value} {l : List UInt8} {row : Option Nat} (h : Bag base w v l) (hg : w.grownBy w' row) (hne : v.ownBlock = none ∨ v.ownBlock ≠ row) : Bag base w' v l := by
  rcases h with h | ⟨g, cap, rfl, hb, hlt, hc, h1, h2⟩
  · exact .inl h
  · have hbl : w'.heap[g]? = w.heap[g]? := hg.block g hlt (by
      rcases hne with h | h
      · cases h
      · exact h)
    refine .inr ⟨g, cap, rfl, hb, Nat.lt_of_lt_of_le hlt hg.size, hc, fun j hj => ?_, fun j hj => ?_⟩
    · rw [World.cell?_of_block (a := ⟨g, j, none⟩) hbl]; exact h1 j hj
    · rw [World.cell?_of_block (a := ⟨g, j, none⟩) hbl, World.frozen?_of_block (a := ⟨g, j, none⟩) hbl]; exact h2 j hj

theorem Bag.below {base : Nat} {w w' : World} {v : Value} {l : List UInt8} (h : Bag base w v l) (hb : Below w.heap.size w w') : Bag base w' v l :=
  h.kept (row := none) ⟨hb.os, hb.tape, hb.output, hb.size, fun k hk _ => hb.block k hk⟩ (by cases hv : v.ownBlock <;> simp)
theorem Bag.alloc {base : Nat} {w : World} {v : Value} {l : List UInt8} (h : Bag base w v l) (o : Obj) : Bag base (w.alloc o) v l := h.below ((Below.refl _ _).alloc (Nat.le_refl _) o)
theorem Bag.drew {base : Nat} {w : World} {v : Value} {l : List UInt8} (h : Bag base w v l) : Bag base w.drew v l := h
theorem Bag.mono {base base' : Nat} {w : World} {v : Value} {l : List UInt8} (h : Bag base w v l) (hb : base' ≤ base) : Bag base' w v l := by
  rcases h with h | ⟨g, cap, h0, h1, h2⟩
  · exact .inl h
  · exact .inr ⟨g, cap, h0, Nat.le_trans hb h1, h2⟩

theorem Bag.form {base : Nat} {w : World} {v : Value} {l : List UInt8} (h : Bag base w v l) (hl : 0 < l.length) : ∃ g cap, v = .slice (some ⟨g, 0, none⟩) l.length cap ∧ base ≤ g ∧ g < w.heap.size ∧ l.length ≤ cap := by
  rcases h with ⟨rfl, rfl⟩ | ⟨g, cap, h0, h1, h2, h3, _⟩
  · cases hl
  · exact ⟨g, cap, h0, h1, h2, h3⟩

theorem Bag.of_own {base : Nat} {w : World} {v : Value} {l : List UInt8} (h : Own base w v l) : Bag base w v l := by
  rcases h.2 with ⟨rfl, hl⟩ | ⟨g, cap, cur, rfl, hg, hh, hn, hc, hs, ht⟩
  · exact .inl ⟨rfl, List.length_eq_zero_iff.1 hl⟩
  · refine .inr ⟨g, cap, rfl, hg, (Array.getElem?_eq_some_iff.1 hh).1, hn, fun j hj => ?_, fun j hj => ⟨?_, ?_⟩⟩
    · have := h.cells (g := g) rfl j (.int .u8 (l[j].toNat : Int)) (by simp [bytesV, hj])
      have e : (⟨g, 0, none⟩ : Addr).add j = ⟨g, j, none⟩ := by unfold Addr.add; split <;> simp_all
      rw [e] at this; exact this
    · rw [cell_of_row w g j cur _ (0, 0) hh, Array.getElem?_eq_getElem (by omega)]; rfl
    · simp [World.frozen?, hh]

/-- a conversion of a string -/
theorem Bag.bytesW (w : World) (s : ByteArray) (base : Nat) (hb : base ≤ w.heap.size) : Bag base (bytesW w s) (.slice (some ⟨w.heap.size, 0, none⟩) s.size (bytesCap w s)) s.data.toList := by
  have hB := bytesW_bts w s
  have hge : s.size ≤ bytesCap w s := grownCap_ge w s.size 0 _
  have hl : s.data.toList.length = s.size := by rw [Array.length_toList]; rfl
  refine .inr ⟨w.heap.size, bytesCap w s, by rw [hl], hb, hB.1, by rw [hl]; exact hge, fun j hj => (hB.2 j hj).1, fun j hj => ?_⟩
  have hsz : (bytesRow s (bytesCap w s)).size = bytesCap w s := by
    unfold bytesRow
    rw [Array.size_append, Array.size_map, Array.size_replicate]
    have e : s.data.size = s.size := rfl
    omega
  have h1 := World.cell?_alloc_mark w.drew (bytesRow s (bytesCap w s)) 5 ((bytesRow s (bytesCap w s)).size, (bytesRow s (bytesCap w s)).size + 1) j
  have h2 := World.frozen?_alloc_mark w.drew (bytesRow s (bytesCap w s)) 5 (bytesRow s (bytesCap w s)).size ((bytesRow s (bytesCap w s)).size + 1) j
  refine ⟨?_, ?_⟩
  · refine (congrArg Option.isSome h1).trans ?_
    rw [Array.getElem?_eq_getElem (by rw [hsz]; exact hj)]; rfl
  · refine Eq.trans h2 ?_
    simp only [Bool.and_eq_false_iff, decide_eq_false_iff_not]
    left; rw [hsz]; omega

/-- bytes read back as a string -/
theorem Bag.conv {base : Nat} {w : World} {v : Value} {l : List UInt8} (h : Bag base w v l) : (convert 96 9 v).run Tryd.prog w = .ok (.string ⟨l.toArray⟩) w := by
  rcases h with ⟨rfl, rfl⟩ | ⟨g, cap, rfl, hb, hlt, hc, h1, h2⟩
  · exact run_convert_bytes_nil (P := Tryd.prog) w 96 5 Tryd.underlying96 Tryd.underlying5 0 0 9 Tryd.underlying9
  · refine run_convert_bytes_back (P := Tryd.prog) w 96 9 5 ⟨g, 0, none⟩ cap l Tryd.underlying96 Tryd.underlying5 Tryd.underlying9 fun j hj => ?_
    have : (⟨g, 0, none⟩ : Addr).add j = ⟨g, j, none⟩ := by unfold Addr.add; split <;> simp_all
    rw [this]
    exact h1 j hj

theorem Bag.news {w : World} {b o : Nat} {l : List UInt8} (h : ∀ j (hj : j < l.length), w.cell? ⟨b, o + j, none⟩ = some (.int .u8 (l[j].toNat : Int))) : ∀ j u, (bytesV l)[j]? = some u → w.cell? ((⟨b, o, none⟩ : Addr).add j) = some u := by
  intro j u hu
  rw [bytesV, List.getElem?_map] at hu
  by_cases hj : j < l.length
  · rw [List.getElem?_eq_getElem hj] at hu
    have e : (⟨b, o, none⟩ : Addr).add j = ⟨b, o + j, none⟩ := by unfold Addr.add; split <;> simp_all
    rw [e, h j hj, ← hu]; rfl
  · rw [List.getElem?_eq_none (by omega)] at hu; cases hu

theorem bag_set {w w' : World} {n : Nat} (h : w.grownBy w' (some n)) (j : Nat) (v : Value) : w.grownBy (w'.setCell ⟨n, j, none⟩ v) (some n) :=
  ⟨h.os, h.tape, h.output, by simpa [World.setCell] using h.size, fun k hk hne => by
    rw [Below.heap_setCell _ _ _ _ (fun e => hne (congrArg some e))]; exact h.block k hk hne⟩
theorem bag_sets (g : Nat) : ∀ (vs : List Value) (o : Nat) (w w' : World), w.grownBy w' (some g) → w.grownBy (w'.setCells g o vs) (some g)
  | [], _, _, _, h => h
  | v :: r, o, w, w', h => by rw [World.setCells]; exact bag_sets g r (o + 1) w _ (bag_set h o v)

/-- behind the stores of an append with room -/
theorem Bag.stored {base : Nat} {w : World} {g cap : Nat} {l m : List UInt8} (hb : base ≤ g) (hlt : g < w.heap.size) (hroom : l.length + m.length ≤ cap)
    (h1 : ∀ j (hj : j < l.length), w.cell? ⟨g, j, none⟩ = some (.int .u8 (l[j].toNat : Int))) (h2 : ∀ j, j < cap → (w.cell? ⟨g, j, none⟩).isSome = true ∧ w.frozen? ⟨g, j, none⟩ = false) :
    Bag base (w.setCells g l.length (bytesV m)) (.slice (some ⟨g, 0, none⟩) (l.length + m.length) cap) (l ++ m) ∧ w.grownBy (w.setCells g l.length (bytesV m)) (some g) := by
  have hg := bag_sets g (bytesV m) l.length w w ⟨rfl, rfl, rfl, Nat.le_refl _, fun _ _ _ => rfl⟩
  refine ⟨.inr ⟨g, cap, by rw [List.length_append], hb, Nat.lt_of_lt_of_le hlt hg.size, by rw [List.length_append]; exact hroom, fun j hj => ?_, fun j hj => ⟨World.isSome_setCells g _ _ w _ (h2 j hj).1, by rw [World.frozen?_setCells]; exact (h2 j hj).2⟩⟩, hg⟩
  rw [List.length_append] at hj
  by_cases hjl : j < l.length
  · rw [World.cell?_setCells_out g _ _ w _ (fun _ _ => .inl hjl), h1 j hjl, List.getElem_append_left hjl]
  · obtain ⟨i, rfl⟩ : ∃ i, j = l.length + i := ⟨j - l.length, by omega⟩
    have hi : i < m.length := by omega
    rw [World.cell?_setCells_in g (bytesV m) l.length w (fun k hk => (h2 _ (by rw [bytesV_length] at hk; omega)).1) i (by rw [bytesV_length]; exact hi)]
    rw [List.getElem_append_right (by omega)]
    simp [bytesV]

theorem bytesV_cell (l : List UInt8) : ∀ u ∈ bytesV l, u.oneCell' = true := by
  unfold bytesV; intro v hv; obtain ⟨j, _, rfl⟩ := List.mem_map.1 hv; rfl

/-- THE LAW: bytes of a slice are appended -/
theorem Bag.append {base : Nat} {w : World} {v : Value} {l : List UInt8} (h : Bag base w v l) (hbase : base ≤ w.heap.size) (ty : TypeId) (ad : Addr) (n c : Nat) (m : List UInt8) (hn : m.length = n)
    (hm : ∀ j u, (bytesV m)[j]? = some u → w.cell? (ad.add j) = some u) (hfit : l.length + m.length ≤ 1099511627776) :
    ∃ v' w', (Builtin.append_ #[96, 96] ty #[v, .slice (some ad) n c]).run Tryd.prog w = .ok v' w' ∧ Bag base w' v' (l ++ m) ∧ w.grownBy w' v.ownBlock := by
  obtain ⟨i0, hi, hz0, hz1, hz2⟩ := info_parts info_u8
  subst hn
  rcases h with ⟨rfl, rfl⟩ | ⟨g, cap, rfl, hb, hlt, hc, h1, h2⟩
  · obtain ⟨v', w', hr, ho, hg, _, _⟩ := run_append_own_at (P := Tryd.prog) w base 96 ty 5 i0 (.int .u8 0) 1 1 Tryd.underlying96 hi hz0 hz1 hz2 rfl (by decide) (.slice none 0 0) 0 [] (World.ownsRow_nil _ _ _ _) ad m.length c (bytesV m) (by rw [bytesV_length]; omega) hm (bytesV_cell m) (by unfold maxLen; simp at hfit; omega) (by simp at hfit; omega) hbase
    refine ⟨v', w', hr, Bag.of_own ?_, hg⟩
    simpa [Own] using ho
  · by_cases hroom : l.length + m.length ≤ cap
    · have hs := Bag.stored (base := base) hb hlt hroom h1 h2
      refine ⟨_, _, ?_, hs.1, hs.2⟩
      have hr := run_append_room_cells (P := Tryd.prog) w 96 ty 5 i0 Tryd.underlying96 hi g 0 l.length cap ad m.length c (bytesV m) (by rw [bytesV_length, hz1]; omega) hm (bytesV_cell m) hroom
        (fun j hj => by rw [bytesV_length] at hj; rw [hz1, Nat.zero_add, Nat.mul_one]; exact (h2 _ (by omega)).1) (fun j hj => by rw [bytesV_length] at hj; rw [hz1, Nat.zero_add, Nat.mul_one]; exact (h2 _ (by omega)).2)
      rw [hz1, Nat.zero_add, Nat.mul_one] at hr
      exact hr
    · obtain ⟨v', w', hr, ho, hg⟩ := run_append_arg_grows (P := Tryd.prog) w 96 ty 5 i0 (.int .u8 0) 1 1 Tryd.underlying96 hi hz0 hz1 hz2 rfl (by decide) ⟨g, 0, none⟩ l.length cap (bytesV l) (by rw [bytesV_length]; omega) (Bag.news (o := 0) (by simpa using h1)) ad m.length c (bytesV m) (by rw [bytesV_length]; omega) hm (by omega) (by unfold maxLen; omega) (by omega)
      have ho' : Own w.heap.size w' v' (l ++ m) := by
        unfold Own
        rw [bytesV_append, List.length_append]
        exact ho
      exact ⟨v', w', hr, (Bag.of_own ho').mono hbase, ⟨hg.os, hg.tape, hg.output, hg.size, fun k hk _ => hg.block k hk (by simp)⟩⟩

/-- .. at the operation, for the walk -/
theorem wpList_append_bag {w : World} {ops : Array Oper} {rest : List Oper} {o : Oper} {a : Act} {Q : Exit → Act → World → Prop} (hgd : o.guard = none) (s x : Operand)
    (ho : o.op = .call { callee := .builtin .append, args := #[s, x], argTypes := #[96, 96] })
    (base : Nat) (v : Value) (l : List UInt8) (hs : a.eval s = v) (h : Bag base w v l) (hbase : base ≤ w.heap.size)
    (ad : Addr) (n c : Nat) (m : List UInt8) (hx : a.eval x = .slice (some ad) n c) (hn : m.length = n) (hm : ∀ j u, (bytesV m)[j]? = some u → w.cell? (ad.add j) = some u) (hfit : l.length + m.length ≤ 1099511627776)
    (hK : ∀ v' w', Bag base w' v' (l ++ m) → w.grownBy w' v.ownBlock → wpList Tryd.prog ops Q rest (a.put o.dst v') w') : wpList Tryd.prog ops Q (o :: rest) a w := by
  refine wpList_plain hgd fun K hKK => ?_
  obtain ⟨v', w', hr, h2, h3⟩ := h.append hbase o.type ad n c m hn hm hfit
  unfold Oper.wp execOp
  simp only [ho, resolve, invoke, builtin, Sem.run_bind, Sem.run_pure, Result.andThen_ok, List.map_toArray, List.map_cons, List.map_nil, hs, hx, hr]
  exact hKK _ _ (hK v' w' h2 h3)

/-- THE LAW: a string's bytes are appended -/
theorem Bag.append_string {base : Nat} {w : World} {v : Value} {l : List UInt8} (h : Bag base w v l) (hbase : base ≤ w.heap.size) (ty : TypeId) (s : ByteArray) (hfit : l.length + s.size ≤ 1099511627776) :
    ∃ v' w', (Builtin.append_ #[96, 9] ty #[v, .string s]).run Tryd.prog w = .ok v' w' ∧ Bag base w' v' (l ++ s.data.toList) ∧ w.grownBy w' v.ownBlock := by
  obtain ⟨i0, hi, hz0, hz1, hz2⟩ := info_parts info_u8
  have hsl : s.data.toList.length = s.size := by rw [Array.length_toList]; rfl
  have hcs : Lib.strCells s = bytesV s.data.toList := rfl
  rcases h with ⟨rfl, rfl⟩ | ⟨g, cap, rfl, hb, hlt, hc, h1, h2⟩
  · obtain ⟨v', w', hr, ho, hg, _⟩ := Lib.run_append_own_string (P := Tryd.prog) w base 96 9 ty 5 i0 Tryd.underlying96 Tryd.underlying9 hi hz0 hz1 hz2 (.slice none 0 0) 0 [] (World.ownsRow_nil _ _ _ _) s (by unfold maxLen; simp at hfit; omega) (by simp at hfit; omega) hbase
    refine ⟨v', w', hr, Bag.of_own ?_, hg⟩
    simpa [Own, hcs, hsl] using ho
  · by_cases hroom : l.length + s.size ≤ cap
    · have hs := Bag.stored (base := base) (m := s.data.toList) hb hlt (by rw [hsl]; exact hroom) h1 h2
      rw [hsl] at hs
      refine ⟨_, _, ?_, hs.1, hs.2⟩
      have hf := Lib.run_firstCells_string (P := Tryd.prog) w 1 s
      have hst := run_storeCells_cells (P := Tryd.prog) g l.length (bytesV s.data.toList) 0 w (fun j hj => by rw [bytesV_length] at hj; rw [Nat.add_zero]; exact (h2 _ (by omega)).1) (fun j hj => by rw [bytesV_length] at hj; rw [Nat.add_zero]; exact (h2 _ (by omega)).2) (bytesV_cell _)
      simp only [Nat.add_zero] at hst
      simp [Builtin.append_, run_underlying Tryd.underlying96, run_underlying Tryd.underlying9, sizeOf, typeInfo, hi, hz1, Builtin.lenOf, hroom, hf, Addr.add_lit, hcs, hst]
    · have hr := Lib.run_append_grow_string (P := Tryd.prog) w 96 9 ty 5 i0 (.int .u8 0) Tryd.underlying96 Tryd.underlying9 hi hz0 ⟨g, 0, none⟩ l.length cap (bytesV l) (by rw [bytesV_length, hz1]; omega) (Bag.news (o := 0) (by simpa using h1)) s (by omega) (by omega) (growslice_fits (by omega) (by rw [hz2]; omega))
      refine ⟨_, _, hr, ?_, ⟨rfl, rfl, rfl, by simp, fun k hk _ => Below.heap_alloc w.drew _ k hk⟩⟩
      refine Bag.of_own (base := base) ?_
      have hge := grownCap_ge w (l.length + s.size) cap 5
      have hcm : grownCap w (l.length + s.size) cap 5 ≤ maxLen := grownCap_le_maxLen w (l.length + s.size) cap 5 (by unfold maxLen; omega)
      unfold Own
      refine ⟨by rw [bytesV_length, List.length_append, hsl, Nat.mul_one], .inr ⟨w.heap.size, _, _, by rw [List.length_append, hsl], hbase, heap_alloc_new w.drew _, by rw [List.length_append, hsl]; exact hge, hcm, ?_, ?_⟩⟩
      · have hz3 : (Value.int IntKind.u8 0).cells.size = 1 := rfl
        simp only [Array.size_append, List.size_toArray, size_zeroCells, hz3, bytesV_length, Lib.strCells_length]
        omega
      · rw [hcs, bytesV_append]
        simp only [Array.toList_append, List.append_assoc]
        rw [← List.append_assoc, List.take_append_of_le_length (by simp [bytesV_length, hsl])]
        exact List.take_of_length_le (by simp [bytesV_length, hsl])

theorem wpList_append_bag_string {w : World} {ops : Array Oper} {rest : List Oper} {o : Oper} {a : Act} {Q : Exit → Act → World → Prop} (hgd : o.guard = none) (s x : Operand)
    (ho : o.op = .call { callee := .builtin .append, args := #[s, x], argTypes := #[96, 9] })
    (base : Nat) (v : Value) (l : List UInt8) (hs : a.eval s = v) (h : Bag base w v l) (hbase : base ≤ w.heap.size)
    (t : ByteArray) (hx : a.eval x = .string t) (hfit : l.length + t.size ≤ 1099511627776)
    (hK : ∀ v' w', Bag base w' v' (l ++ t.data.toList) → w.grownBy w' v.ownBlock → wpList Tryd.prog ops Q rest (a.put o.dst v') w') : wpList Tryd.prog ops Q (o :: rest) a w := by
  refine wpList_plain hgd fun K hKK => ?_
  obtain ⟨v', w', hr, h2, h3⟩ := h.append_string hbase o.type t hfit
  unfold Oper.wp execOp
  simp only [ho, resolve, invoke, builtin, Sem.run_bind, Sem.run_pure, Result.andThen_ok, List.map_toArray, List.map_cons, List.map_nil, hs, hx, hr]
  exact hKK _ _ (hK v' w' h2 h3)
end Go.Proofs.YtbgjoefpnjgdkaaDoor
