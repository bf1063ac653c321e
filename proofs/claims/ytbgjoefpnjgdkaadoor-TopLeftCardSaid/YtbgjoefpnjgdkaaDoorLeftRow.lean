/- Rows of cells: what lies there, and what a call owns. -/
import Derived.Test.YtbgjoefpnjgdkaaDoorLeftPlain
import Derived.Test.YtbgjoefpnjgdkaaDoorBlk
import Derived.OwnWalkIn
import Derived.Deep.AppendLies
import Derived.Laws.CopyRow
import Derived.Laws.OwnMore
namespace Go.Proofs.YtbgjoefpnjgdkaaDoor
open Go.RowKit Go.Shelf
set_option linter.unusedVariables false
set_option linter.unusedSimpArgs false
set_option maxRecDepth 100000
namespace Left
open Named
/-- a cell's parts -/
def cellL (e : Ev) : List Value := [.int .u8 (e.kind : Int), .string ⟨e.key.toArray⟩, .string ⟨e.room.toArray⟩, .string ⟨e.sender.toArray⟩, .int .u8 (e.kind : Int), .string ⟨e.key.toArray⟩, .string ⟨e.body.toArray⟩, .int .i64 e.nonce]
theorem cellL_one (e : Ev) : ∀ u ∈ cellL e, u.oneCell' = true := by
  intro u hu
  simp only [cellL, List.mem_cons, List.not_mem_nil, or_false] at hu
  rcases hu with rfl | rfl | rfl | rfl | rfl | rfl | rfl | rfl <;> rfl
theorem flat_len : ∀ es : List Ev, (es.flatMap cellL).length = es.length * 8
  | [] => rfl
  | e :: r => by rw [List.flatMap_cons, List.length_append, flat_len r, List.length_cons, show (cellL e).length = 8 from rfl]; omega
theorem flat_one (es : List Ev) : ∀ u ∈ es.flatMap cellL, u.oneCell' = true := by
  intro u hu
  obtain ⟨e, _, h⟩ := List.mem_flatMap.1 hu
  exact cellL_one e u h
theorem flat_take : ∀ (es : List Ev) (i : Nat), (es.flatMap cellL).take (i * 8) = (es.take i).flatMap cellL
  | _, 0 => by simp
  | [], i + 1 => by simp
  | e :: r, i + 1 => by
    rw [List.flatMap_cons, List.take_succ_cons, List.flatMap_cons, List.take_append, show (cellL e).length = 8 from rfl, show (i + 1) * 8 - 8 = i * 8 by omega, flat_take r i, List.take_of_length_le (by rw [show (cellL e).length = 8 from rfl]; omega)]
theorem flat_drop : ∀ (es : List Ev) (i : Nat), (es.flatMap cellL).drop (i * 8) = (es.drop i).flatMap cellL
  | _, 0 => by simp
  | [], i + 1 => by simp
  | e :: r, i + 1 => by
    rw [List.flatMap_cons, List.drop_succ_cons, List.drop_append, show (cellL e).length = 8 from rfl, show (i + 1) * 8 - 8 = i * 8 by omega, flat_drop r i, List.drop_eq_nil_of_le (by rw [show (cellL e).length = 8 from rfl]; omega), List.nil_append]
theorem flat_at (es : List Ev) (i : Nat) (h : i < es.length) (j : Nat) (v : Value) (hv : (cellL es[i])[j]? = some v) : (es.flatMap cellL)[i * 8 + j]? = some v := by
  have hj : j < 8 := (List.getElem?_eq_some_iff.1 hv).1
  rw [← List.getElem?_drop, flat_drop, List.drop_eq_getElem_cons h, List.flatMap_cons, List.getElem?_append_left hj]
  exact hv

/-- a row of cells lies there -/
def CRow (w : World) (v : Value) (es : List Ev) : Prop :=
  (v = .slice none 0 0 ∧ es = []) ∨ ∃ b cap, v = .slice (some ⟨b, 0, none⟩) es.length cap ∧ b < w.heap.size ∧ (0 < es.length ∧ es.length ≤ cap) ∧ ∀ i (h : i < es.length), w.rangeAt b (i * 8) (cellL es[i])
theorem CRow.low {w w' : World} {v : Value} {es : List Ev} (h : CRow w v es) (hl : Below w.heap.size w w') : CRow w' v es := by
  rcases h with h | ⟨b, cap, h1, hb, hc, hr⟩
  · exact .inl h
  · exact .inr ⟨b, cap, h1, Nat.lt_of_lt_of_le hb hl.size, hc, fun i h j v hv => (hl.cell (p := ⟨b, i * 8 + j, none⟩) hb).trans (hr i h j v hv)⟩
theorem CRow.below {w w' : World} {v : Value} {es : List Ev} (h : CRow w v es) {n : Nat} (hn : n = w.heap.size) (hl : Below n w w') : CRow w' v es := h.low (hn ▸ hl)
theorem CRow.drew {w : World} {v : Value} {es : List Ev} (h : CRow w v es) : CRow w.drew v es := h
theorem CRow.form {w : World} {v : Value} {es : List Ev} (h : CRow w v es) : ∃ p cap, v = .slice p es.length cap := by
  rcases h with ⟨rfl, rfl⟩ | ⟨b, cap, rfl, -, -⟩
  · exact ⟨_, _, rfl⟩
  · exact ⟨_, _, rfl⟩
theorem CRow.at {w : World} {p : Option Addr} {n cap : Nat} {es : List Ev} (h : CRow w (.slice p n cap) es) {i : Nat} (hi : i < es.length) : ∃ b, p = some ⟨b, 0, none⟩ ∧ n = es.length ∧ n ≤ cap ∧ b < w.heap.size ∧ w.rangeAt b (i * 8) (cellL es[i]) := by
  rcases h with ⟨-, rfl⟩ | ⟨b, cap', h1, hb, hc, hr⟩
  · simp at hi
  · injection h1 with e1 e2 e3
    subst e1 e2 e3
    exact ⟨b, rfl, rfl, hc.2, hb, hr i hi⟩

/-- v owns these cells, in blocks from base on -/
def OwnE (base : Nat) (w : World) (v : Value) (es : List Ev) : Prop := w.ownsRow base 91 8 v es.length (es.flatMap cellL)
theorem OwnE.nil (base : Nat) (w : World) : OwnE base w (.slice none 0 0) [] := World.ownsRow_nil w base _ 8
theorem info_cell : (Tryd.prog.info? 91).map (fun i => (i.zero, i.size, i.bytes)) = some (some (.agg #[.int .u8 0, .string ByteArray.empty, .string ByteArray.empty, .string ByteArray.empty, .int .u8 0, .string ByteArray.empty, .string ByteArray.empty, .int .i64 0]), 8, 104) := by kernel_rfl
theorem OwnE.row {base : Nat} {w : World} {v : Value} {es : List Ev} (h : OwnE base w v es) (h0n : 0 < es.length ∨ v = .slice none 0 0) : CRow w v es := by
  have h0 := h
  rcases h.2 with ⟨rfl, h1⟩ | ⟨g, cap, cur, rfl, hg, hh, hc, _⟩
  · exact .inl ⟨rfl, List.length_eq_zero_iff.1 h1⟩
  · refine .inr ⟨g, cap, rfl, (Array.getElem?_eq_some_iff.1 hh).1, ⟨h0n.elim id (fun e => by cases e), hc⟩, fun i hi j v hv => ?_⟩
    have := World.ownsRow.cells h0 (g := g) rfl (i * 8 + j) v (flat_at es i hi j v hv)
    have e : (⟨g, 0, none⟩ : Addr).add (i * 8 + j) = ⟨g, i * 8 + j, none⟩ := by unfold Addr.add; split <;> simp_all
    rwa [e] at this
theorem OwnE.low {base : Nat} {w w' : World} {v : Value} {es : List Ev} (h : OwnE base w v es) (hb : Below w.heap.size w w') : OwnE base w' v es :=
  World.ownsRow.kept h (row := none) ⟨hb.os, hb.tape, hb.output, hb.size, fun k hk _ => hb.block k hk⟩ (by cases hv : v.ownBlock <;> simp)
theorem OwnE.drew {base : Nat} {w : World} {v : Value} {es : List Ev} (h : OwnE base w v es) : OwnE base w.drew v es := h
theorem OwnE.mono {base base' : Nat} {w : World} {v : Value} {es : List Ev} (h : OwnE base w v es) (hb : base' ≤ base) : OwnE base' w v es := by
  refine ⟨h.1, ?_⟩
  rcases h.2 with h1 | ⟨g, cap, cur, h1, h2, h3⟩
  · exact .inl h1
  · exact .inr ⟨g, cap, cur, h1, Nat.le_trans hb h2, h3⟩

theorem setCells_row (P : Program) (w : World) (g : Nat) (cur : Array Value) (t : TypeId) (hg : w.heap[g]? = some (.cells cur t (0, 0))) (vs : List Value) (o : Nat) (ho : o + vs.length ≤ cur.size) (h1 : ∀ v ∈ vs, v.oneCell' = true) :
    w.setCells g o vs = w.setRow g (cur.toList.take o ++ vs ++ cur.toList.drop (o + vs.length)).toArray := by
  have hc : ∀ k, w.cell? ⟨g, k, none⟩ = cur[k]? := fun k => by simp [World.cell?, hg]
  have a := run_storeCells_cells (P := P) g o vs 0 w (fun j hj => by rw [hc, Array.getElem?_eq_getElem (by omega)]; rfl) (fun j hj => by simp [World.frozen?, hg]) h1
  have b := run_storeCells_at P g o t vs 0 cur w hg (by simpa using ho) h1
  rw [a] at b
  simpa using b
theorem grown_setRow (w : World) (g : Nat) (cs : Array Value) : w.grownBy (w.setRow g cs) (some g) :=
  ⟨rfl, rfl, rfl, by unfold World.setRow; simp, fun k _ hne => setRow_other w g k cs (fun e => hne (by rw [e]))⟩
/-- a cell is set -/
theorem OwnE.put {base : Nat} {w : World} {g n cap : Nat} {es : List Ev} (h : OwnE base w (.slice (some ⟨g, 0, none⟩) n cap) es) (i : Nat) (hi : i < es.length) (e : Ev) :
    OwnE base (w.setCells g (i * 8) (cellL e)) (.slice (some ⟨g, 0, none⟩) n cap) (es.set i e) ∧ w.grownBy (w.setCells g (i * 8) (cellL e)) (some g) := by
  rcases h.2 with ⟨h1, -⟩ | ⟨g', cap', cur, h1, hg, hh, hc, hm, hz, ht⟩
  · cases h1
  · injection h1 with e1 e2 e3
    injection e1 with e1
    injection e1 with e1
    subst e1 e2 e3
    have hl8 : (cellL e).length = 8 := rfl
    have hfit : i * 8 + (cellL e).length ≤ cur.size := by rw [hl8]; omega
    rw [setCells_row Tryd.prog w g cur _ hh (cellL e) (i * 8) hfit (cellL_one e)]
    refine ⟨⟨by rw [flat_len], .inr ⟨g, cap, _, by rw [List.length_set], hg, setRow_heap w g cur _ _ _ hh, by rw [List.length_set]; exact hc, hm, ?_, ?_⟩⟩, grown_setRow w g _⟩
    · rw [List.size_toArray, List.length_append, List.length_append, List.length_take, List.length_drop, Array.length_toList]; omega
    · rw [List.length_set]
      show ((cur.toList.take (i * 8) ++ cellL e ++ cur.toList.drop (i * 8 + (cellL e).length))).take (es.length * 8) = _
      have e2 : es.set i e = es.take i ++ e :: es.drop (i + 1) := by rw [List.set_eq_take_append_cons_drop, if_pos hi]
      have hlen : (cur.toList.take (i * 8)).length = i * 8 := by rw [List.length_take, Array.length_toList]; omega
      rw [e2, List.flatMap_append, List.flatMap_cons, ← flat_take, ← flat_drop, ← ht, List.take_take, Nat.min_eq_left (by omega), List.append_assoc, List.take_append, hlen, List.take_of_length_le (l := cur.toList.take (i * 8)) (by rw [hlen]; omega), List.take_append, List.take_of_length_le (l := cellL e) (by rw [hl8]; omega), hl8, List.drop_take,
        show es.length * 8 - i * 8 - 8 = es.length * 8 - (i + 1) * 8 by omega, show i * 8 + 8 = (i + 1) * 8 by omega]

theorem run_copy_rowk {P : Program} (w : World) (dT sT ty elem : TypeId) (sz : Nat) (g o dLen dCap : Nat) (a : Addr) (sLen sCap : Nat) (cur : Array Value) (t : TypeId) (m : Nat) (cs : List Value)
    (hu : P.underlying dT = some (.slice elem)) (hs : (P.info? elem).map (·.size) = some sz)
    (hg : w.heap[g]? = some (.cells cur t (0, 0))) (hm : m = Nat.min sLen dLen) (hn : cs.length = m * sz)
    (hsrc : ∀ j v, cs[j]? = some v → w.cell? (a.add j) = some v) (hfit : o + cs.length ≤ cur.size) (h1 : ∀ v ∈ cs, v.oneCell' = true) :
    (Builtin.copy_ #[dT, sT] ty #[.slice (some ⟨g, o, none⟩) dLen dCap, .slice (some a) sLen sCap]).run P w =
      .ok (goInt m) (w.setRow g (cur.toList.take o ++ cs ++ cur.toList.drop (o + cs.length)).toArray) := by
  have hl := run_loadCells_list (P := P) w a cs hsrc
  have hst := run_storeCells_at P g o t cs 0 cur w hg (by simpa using hfit) h1
  cases hq : P.info? elem with
  | none => simp [hq] at hs
  | some i =>
    have hi : i.size = sz := by simpa [hq] using hs
    simp [Builtin.copy_, run_underlying hu, Builtin.lenOf, Builtin.firstCells, sizeOf, typeInfo, hq, hi, ← hm, ← hn, hl, hst]
/-- what lies there after a shift -/
theorem shifted (L : List Value) (xs ys : List Value) (i n : Nat) (hi : i ≤ n) (hL : (n + 1) * 8 ≤ L.length) (hxs : xs.length = n * 8) (hys : ys.length = 8) (ht : L.take (n * 8) = xs) :
    let A := L.take ((i + 1) * 8) ++ xs.drop (i * 8) ++ L.drop ((i + 1) * 8 + (xs.drop (i * 8)).length)
    A.length = L.length ∧ (A.take (i * 8) ++ ys ++ A.drop (i * 8 + ys.length)).length = L.length ∧ (A.take (i * 8) ++ ys ++ A.drop (i * 8 + ys.length)).take ((n + 1) * 8) = xs.take (i * 8) ++ (ys ++ xs.drop (i * 8)) := by
  intro A
  have hd : (xs.drop (i * 8)).length = n * 8 - i * 8 := by rw [List.length_drop, hxs]
  have hA : A.length = L.length := by
    show (L.take ((i + 1) * 8) ++ xs.drop (i * 8) ++ L.drop ((i + 1) * 8 + (xs.drop (i * 8)).length)).length = _
    rw [List.length_append, List.length_append, List.length_take, hd, List.length_drop]; omega
  have g : ∀ k, k < i * 8 → A[k]? = xs[k]? := fun k hk => by
    show (L.take ((i + 1) * 8) ++ xs.drop (i * 8) ++ L.drop ((i + 1) * 8 + (xs.drop (i * 8)).length))[k]? = _
    rw [List.append_assoc, List.getElem?_append_left (by rw [List.length_take]; omega), List.getElem?_take_of_lt (by omega), ← ht, List.getElem?_take_of_lt (by omega)]
  have g2 : ∀ k, k < n * 8 - i * 8 → A[(i + 1) * 8 + k]? = xs[i * 8 + k]? := fun k hk => by
    show (L.take ((i + 1) * 8) ++ xs.drop (i * 8) ++ L.drop ((i + 1) * 8 + (xs.drop (i * 8)).length))[(i + 1) * 8 + k]? = _
    have hl : (L.take ((i + 1) * 8)).length = (i + 1) * 8 := by rw [List.length_take]; omega
    rw [List.append_assoc, List.getElem?_append_right (by rw [hl]; omega), hl, Nat.add_sub_cancel_left, List.getElem?_append_left (by rw [hd]; exact hk), List.getElem?_drop]
  have hAt : (A.take (i * 8)).length = i * 8 := by rw [List.length_take, hA]; omega
  refine ⟨hA, by rw [List.length_append, List.length_append, hAt, hys, List.length_drop, hA]; omega, ?_⟩
  apply List.ext_getElem?
  intro k
  rw [List.getElem?_take]
  split
  · rename_i hk
    by_cases h1 : k < i * 8
    · rw [List.append_assoc, List.getElem?_append_left (by rw [hAt]; exact h1), List.getElem?_take_of_lt h1, g k h1, List.getElem?_append_left (by rw [List.length_take, hxs]; omega), List.getElem?_take_of_lt h1]
    · have hxt : (xs.take (i * 8)).length = i * 8 := by rw [List.length_take, hxs]; omega
      rw [List.append_assoc, List.getElem?_append_right (by rw [hAt]; omega), hAt, List.getElem?_append_right (l₁ := xs.take (i * 8)) (by rw [hxt]; omega), hxt]
      by_cases h2 : k - i * 8 < 8
      · rw [List.getElem?_append_left (by rw [hys]; exact h2), List.getElem?_append_left (by rw [hys]; exact h2)]
      · rw [List.getElem?_append_right (by rw [hys]; omega), List.getElem?_append_right (l₁ := ys) (by rw [hys]; omega), hys, List.getElem?_drop, List.getElem?_drop, show i * 8 + 8 + (k - i * 8 - 8) = (i + 1) * 8 + (k - i * 8 - 8) by omega, g2 _ (by omega)]
  · rename_i hk
    rw [List.getElem?_eq_none (by rw [List.length_append, List.length_append, List.length_take, List.length_drop, hys, hxs]; omega)]
end Left
end Go.Proofs.YtbgjoefpnjgdkaaDoor
