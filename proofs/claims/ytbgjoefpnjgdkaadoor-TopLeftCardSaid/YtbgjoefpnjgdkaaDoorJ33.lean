/- Joined of 2 texts: their lemmas, one behind the other; each says below what it holds. -/
import Derived.Test.YtbgjoefpnjgdkaaDoorLeftRow
import Derived.Test.YtbgjoefpnjgdkaaDoorHeldOut
import Derived.Lib.AppendZerosOnto
import Derived.Lib.Overlaps
import Derived.Laws.Externs
import Derived.Laws.NewBlocks
import Derived.Deep.RegionLaw
import Derived.Shelf.RegionOpenPlain
import Derived.Laws.IdiomCopy
/- slices.Insert of one cell. -/
namespace Go.Proofs.YtbgjoefpnjgdkaaDoor
open Go.RowKit Go.Shelf Go.Lib
set_option linter.unusedVariables false
set_option linter.unusedSimpArgs false
set_option maxRecDepth 100000
namespace Left
open Named
theorem wp_copy_r (w : World) {P : Program} {o : Oper} {a : Act} {K : Act → World → Prop} {Q : Exit → Act → World → Prop} (d s : Operand) (t t' : TypeId)
    (ho : o.op = .call { callee := .builtin .copy, args := #[d, s], argTypes := #[t, t'] }) (v u : Value) (hd : a.eval d = v) (hs : a.eval s = u) {v' : Value} {w' : World}
    (hr : (Builtin.copy_ #[t, t'] o.type #[v, u]).run P w = .ok v' w') (h : K (a.put o.dst v') w') : o.wp P a w K Q := by
  unfold Oper.wp execOp
  simp only [ho, resolve, invoke, builtin, Sem.run_bind, Sem.run_pure, Result.andThen_ok, List.map_toArray, List.map_cons, List.map_nil, hd, hs, hr]
  exact h
theorem wpList_copy_r (w : World) {P : Program} {ops : Array Oper} {rest : List Oper} {o : Oper} {a : Act} {Q : Exit → Act → World → Prop} (hgd : o.guard = none) (d s : Operand) (t t' : TypeId)
    (ho : o.op = .call { callee := .builtin .copy, args := #[d, s], argTypes := #[t, t'] }) (v u : Value) (hd : a.eval d = v) (hs : a.eval s = u) {v' : Value} {w' : World}
    (hr : (Builtin.copy_ #[t, t'] o.type #[v, u]).run P w = .ok v' w') (h : wpList P ops Q rest (a.put o.dst v') w') : wpList P ops Q (o :: rest) a w :=
  wpList_plain hgd fun _ hK => wp_copy_r w d s t t' ho v u hd hs hr (hK _ _ h)
theorem step_copy_r {P : Program} {ops : Array Oper} {o : Oper} {a : Act} {w : World} {K : Act → World → Prop} {Q : Exit → Act → World → Prop} {E : Prop}
    (hg : o.guard = none) (d x : Operand) (dT sT : TypeId) (hop : o.op = Op.call { callee := Callee.builtin Builtin.copy, args := #[d, x], argTypes := #[dT, sT] })
    (v u : Value) (hd : a.eval d = v) (hx : a.eval x = u) {v' : Value} {w' : World} (hr : (Builtin.copy_ #[dT, sT] o.type #[v, u]).run P w = .ok v' w') (hK : K (a.put o.dst v') w') :
    if Region.wanted o (yielded ops a.tmps) = true then Oper.wp P o a w K Q else E := by
  have hw : Region.wanted o (yielded ops a.tmps) = true := by simp [Region.wanted, hg]
  rw [if_pos hw]
  exact wp_copy_r w d x dT sT hop v u hd hx hr hK

theorem ownE_form {base : Nat} {w : World} {v : Value} {es : List Ev} (h : OwnE base w v es) : (v = .slice none 0 0 ∧ es = []) ∨ ∃ g cap cur, v = .slice (some ⟨g, 0, none⟩) es.length cap ∧ base ≤ g ∧ w.heap[g]? = some (.cells cur 91 (0, 0)) ∧ es.length ≤ cap ∧ cap ≤ maxLen ∧ cur.size = cap * 8 ∧ cur.toList.take (es.length * 8) = es.flatMap cellL := by
  rcases h.2 with ⟨h1, h2⟩ | ⟨g, cap, cur, h1, h2, h3, h4, h5, h6, h7⟩
  · exact .inl ⟨h1, List.length_eq_zero_iff.1 h2⟩
  · exact .inr ⟨g, cap, cur, h1, h2, h3, h4, h5, h6, h7⟩

set_option maxHeartbeats 2000000 in
/-- at the end -/
theorem insert_end (base : Nat) (v : Value) (es : List Ev) (x : Ev) (vb : Nat) (w : World) (ho : OwnE base w v es) (hl : es.length ≤ 255) (hbase : base ≤ w.heap.size) (hx : Blk w vb (cellL x)) :
    Calls Tryd.prog 86 #[v, .int .i64 (es.length : Int), .slice (some ⟨vb, 0, none⟩) 1 1] w fun e w' => ∃ v', e = .returned v' ∧ OwnE base w' v' (es ++ [x]) ∧ w.grownBy w' v.ownBlock := by
  obtain ⟨i0, hin, hz0, hz1, hz2⟩ := info_parts info_cell
  have HX : Hid (∀ j u, (cellL x)[j]? = some u → w.cell? ((⟨vb, 0, none⟩ : Addr).add j) = some u) := Lib.hid (fun j u hu => by
    have e : (⟨vb, 0, none⟩ : Addr).add j = ⟨vb, 0 + j, none⟩ := by unfold Addr.add; split <;> simp_all
    rw [e]; exact hx.at_ j u hu)
  have H1 := Lib.hid (cellL_one x)
  have HN : Hid ((cellL x).length = 1 * 8) := Lib.hid rfl
  have HO := Lib.hid ho
  have HE : Hid ((es ++ [x]).length = es.length + 1 ∧ (es ++ [x]).flatMap cellL = es.flatMap cellL ++ cellL x) := Lib.hid ⟨by simp, by rw [List.flatMap_append, List.flatMap_singleton]⟩
  generalize es ++ [x] = r at *
  generalize cellL x = cx at *
  have hb2 := hx.size
  clear hx
  rcases ownE_form ho with ⟨rfl, rfl⟩ | ⟨g, cap, cur, rfl, -, -, hc, hm, -, -⟩
  · clear ho
    go_enter Tryd.func86, Tryd.ntmps86
    go_wp2_with (at_builtin; go_must (refine wpList_append_own _ rfl _ _ _ rfl base 91 i0 (.agg #[.int .u8 0, .string ByteArray.empty, .string ByteArray.empty, .string ByteArray.empty, .int .u8 0, .string ByteArray.empty, .string ByteArray.empty, .int .i64 0]) 8 104 Tryd.underlying84 hin hz0 hz1 hz2 (by simp [Value.cells]) (by decide) _ 0 _ rfl HO.out ⟨vb, 0, none⟩ 1 1 cx rfl HN.out HX.out H1.out (by unfold maxLen; omega) (by omega) (by omega) ?_; intro v' w3 hown' hgrow hiff; clear hiff))
    go_ret
    exact ⟨_, rfl, by rw [OwnE, HE.out.1, HE.out.2]; exact hown', hgrow⟩
  · clear ho
    have hci : (es.length : Int) ≤ (cap : Int) := by omega
    go_enter Tryd.func86, Tryd.ntmps86
    go_wp2_with (at_builtin; go_must (refine wpList_append_own _ rfl _ _ _ rfl base 91 i0 (.agg #[.int .u8 0, .string ByteArray.empty, .string ByteArray.empty, .string ByteArray.empty, .int .u8 0, .string ByteArray.empty, .string ByteArray.empty, .int .i64 0]) 8 104 Tryd.underlying84 hin hz0 hz1 hz2 (by simp [Value.cells]) (by decide) _ es.length _ rfl HO.out ⟨vb, 0, none⟩ 1 1 cx rfl HN.out HX.out H1.out (by unfold maxLen; omega) (by omega) (by omega) ?_; intro v' w3 hown' hgrow hiff; clear hiff))
    all_goals go_ret
    all_goals exact ⟨_, rfl, by rw [OwnE, HE.out.1, HE.out.2]; exact hown', hgrow⟩
theorem run_overlaps_no (w : World) (vb g : Nat) (xs cur : Array Value) (hv : w.heap[vb]? = some (.cells xs 91 (0, 0))) (hg : w.heap[g]? = some (.cells cur 91 (0, 0))) (hne : vb ≠ g) (hk : cur.size ≠ 0) (o la ca lb cb : Nat) :
    (callFunc 125 #[.slice (some ⟨vb, 0, none⟩) la ca, .slice (some ⟨g, o, none⟩) lb cb]).run Tryd.prog w = .ok (.value (.bool false)) w := by
  have hsz : ∀ w, (Go.sizeOf 91).run Tryd.prog w = .ok 8 w := fun w => by
    obtain ⟨i0, hi, hz0, hz1, hz2⟩ := info_parts info_cell
    simp [sizeOf, typeInfo, hi, hz1]
  rw [run_callFunc_extern Tryd.func125 (by kernel_rfl) (by kernel_rfl) (by kernel_rfl) (e := Extern.SlicesOverlaps.overlaps #[84, 84] #[4]) (by kernel_rfl),
    Lib.run_overlaps_apart w 84 4 91 Tryd.underlying84 8 hsz ⟨vb, 0, none⟩ ⟨g, o, none⟩ la ca lb cb hne 91 91 xs.size cur.size (by simp [World.shape?, hv]) (by simp [World.shape?, hg]) hk (by simp [World.frozen?, hv]) (by simp [World.frozen?, hv])]
  rfl

set_option maxHeartbeats 4000000 in
/-- in the midst, there is room -/
theorem insert_room (g cap i : Nat) (es : List Ev) (x : Ev) (vb : Nat) (cur : Array Value) (w : World) (hi : i < es.length) (hl : es.length ≤ 255) (hroom : es.length + 1 ≤ cap) (hcap : cap ≤ maxLen) (hg : w.heap[g]? = some (.cells cur 91 (0, 0))) (hz : cur.size = cap * 8)
    (ht : cur.toList.take (es.length * 8) = es.flatMap cellL) (hv : w.heap[vb]? = some (.cells (cellL x).toArray 91 (0, 0))) (hne : vb ≠ g) (L1 L2 : List Value)
    (h1 : L1 = cur.toList.take ((i + 1) * 8) ++ (es.flatMap cellL).drop (i * 8) ++ cur.toList.drop ((i + 1) * 8 + ((es.flatMap cellL).drop (i * 8)).length)) (h2 : L2 = L1.take (i * 8) ++ cellL x ++ L1.drop (i * 8 + (cellL x).length)) :
    Calls Tryd.prog 86 #[.slice (some ⟨g, 0, none⟩) es.length cap, .int .i64 (i : Int), .slice (some ⟨vb, 0, none⟩) 1 1] w fun e w' => e = .returned (.slice (some ⟨g, 0, none⟩) (es.length + 1) cap) ∧ w' = (w.drew.setRow g L1.toArray).setRow g L2.toArray := by
  have hsz : (Tryd.prog.info? 91).map (·.size) = some 8 := by kernel_rfl
  have hov := fun o lb cb => run_overlaps_no w vb g _ _ hv hg hne (by omega) o 1 1 lb cb
  have hfl := flat_len es
  have hdl : ((es.flatMap cellL).drop (i * 8)).length = (es.length - i) * 8 := by rw [List.length_drop, hfl]; omega
  have hxl : (cellL x).length = 8 := rfl
  have hgw : g < w.heap.size := (Array.getElem?_eq_some_iff.1 hg).1
  have hcell : ∀ k, w.cell? ⟨g, k, none⟩ = cur[k]? := fun k => by simp [World.cell?, hg]
  have hcs : ∀ (j : Nat) u, ((es.flatMap cellL).drop (i * 8))[j]? = some u → cur[i * 8 + j]? = some u := fun j u hu => by
    rw [← ht, List.getElem?_drop, List.getElem?_take] at hu
    split at hu
    · rwa [Array.getElem?_toList] at hu
    · cases hu
  have hL1 : L1.length = cap * 8 := by rw [h1, List.length_append, List.length_append, List.length_take, hdl, List.length_drop, Array.length_toList, hz]; omega
  have hcp1 : ∀ ty dc sc, (Builtin.copy_ #[84, 84] ty #[.slice (some ⟨g, (i + 1) * 8, none⟩) (es.length + 1 - (i + 1)) dc, .slice (some ⟨g, i * 8, none⟩) (es.length + 1 - i) sc]).run Tryd.prog w.drew = .ok (goInt (es.length - i : Nat)) (w.drew.setRow g L1.toArray) := fun ty dc sc => by
    have h := run_copy_rowk (P := Tryd.prog) w.drew 84 84 ty 91 8 g ((i + 1) * 8) (es.length + 1 - (i + 1)) dc ⟨g, i * 8, none⟩ (es.length + 1 - i) sc cur 91 (es.length - i) ((es.flatMap cellL).drop (i * 8)) Tryd.underlying84 hsz hg (by simp only [Nat.min_def]; split <;> omega) hdl
      (fun j u hu => by
        have e : (⟨g, i * 8, none⟩ : Addr).add j = ⟨g, i * 8 + j, none⟩ := by unfold Addr.add; split <;> simp_all
        rw [e]
        show w.cell? _ = _
        rw [hcell]
        exact hcs j u hu)
      (by rw [hdl, hz]; omega) (fun u hu => flat_one es u (List.mem_of_mem_drop hu))
    rw [h, h1]
  have hg1 : (w.drew.setRow g L1.toArray).heap[g]? = some (.cells L1.toArray 91 (0, 0)) := setRow_heap w.drew g _ _ _ _ hg
  have hvc : ∀ (j : Nat) u, (cellL x)[j]? = some u → (w.drew.setRow g L1.toArray).cell? ((⟨vb, 0, none⟩ : Addr).add j) = some u := fun j u hu => by
    have e : (⟨vb, 0, none⟩ : Addr).add j = ⟨vb, j, none⟩ := by unfold Addr.add; split <;> simp_all
    have hh : (w.drew.setRow g L1.toArray).heap[vb]? = some (.cells (cellL x).toArray 91 (0, 0)) := (setRow_other w.drew g vb _ hne).trans hv
    rw [e, World.cell?]
    simp only [hh]
    simpa using hu
  have hcp2 : ∀ ty dc, (Builtin.copy_ #[84, 84] ty #[.slice (some ⟨g, i * 8, none⟩) (es.length + 1 - i) dc, .slice (some ⟨vb, 0, none⟩) 1 1]).run Tryd.prog (w.drew.setRow g L1.toArray) = .ok (goInt (1 : Nat)) ((w.drew.setRow g L1.toArray).setRow g L2.toArray) := fun ty dc => by
    have h := run_copy_rowk (P := Tryd.prog) (w.drew.setRow g L1.toArray) 84 84 ty 91 8 g (i * 8) (es.length + 1 - i) dc ⟨vb, 0, none⟩ 1 1 L1.toArray 91 1 (cellL x) Tryd.underlying84 hsz hg1 (by simp only [Nat.min_def]; split <;> omega) rfl hvc
      (by rw [hxl, List.size_toArray, hL1]; omega) (cellL_one x)
    rw [h, h2]
  have hz1 : ¬ ((i : Int) = (es.length : Int)) := by omega
  have hz2 : ¬ ((cap : Int) < (es.length : Int) + 1) := by omega
  have hin : i ≤ es.length := by omega
  have hb3 : (i : Int) ≤ (es.length : Int) := by omega
  have hb1 : (0 : Int) ≤ (i : Int) + 1 := by omega
  have hb4 : (i : Int) + 1 ≤ (es.length : Int) + 1 := by omega
  have hb5 : (i : Int) ≤ (es.length : Int) + 1 := by omega
  have hb6 : (es.length : Int) + 1 ≤ (cap : Int) := by omega
  have hw1 : IntKind.i64.wrap ((i : Int) + 1) = (i : Int) + 1 := by rw [IntKind.wrap_i64]; omega
  have htn : ((i : Int) + 1).toNat = i + 1 := by omega
  have htm : ((es.length : Int) + 1).toNat = es.length + 1 := by omega
  have hc1 : ¬ (cap = i + 1) := by omega
  have hc2 : ¬ (cap = i) := by omega
  have hmo : Tryd.prog.follows .mixedOrders = true := by kernel_rfl
  have HL1 := Lib.hid h1
  have HL2 := Lib.hid h2
  clear h1 h2 hvc hg1 hcs hcell hdl hfl hxl ht hL1
  go_enter Tryd.func86, Tryd.ntmps86
  go_wp2_with (simp only [hov])
  refine wp_region_heldX (fun _ => True) [] hmo ?_
  refine HeldX.move 0 (v := .slice (some ⟨g, 0, none⟩) (es.length + 1) cap) rfl (by kernel_rfl) (by kernel_rfl) (by kernel_rfl) (by kernel_rfl) (fun _ _ _ h => h) trivial (.inl ⟨by kernel_rfl, fun w h => by go_simp⟩) ?_
  go_simp
  refine HeldX.move 1 (v := .int .i64 (i : Int)) rfl (by kernel_rfl) (by kernel_rfl) (by kernel_rfl) (by kernel_rfl) (fun _ _ _ h => h) trivial (.inl ⟨by kernel_rfl, fun w h => by go_simp⟩) ?_
  go_simp
  refine HeldX.move 2 (v := .int .i64 1) rfl (by kernel_rfl) (by kernel_rfl) (by kernel_rfl) (by kernel_rfl) (fun _ _ _ h => h) trivial (.inl ⟨by kernel_rfl, fun w h => by go_simp⟩) ?_
  go_simp
  refine HeldX.move 3 (v := .int .i64 ((i : Int) + 1)) rfl (by kernel_rfl) (by kernel_rfl) (by kernel_rfl) (by kernel_rfl) (fun _ _ _ h => h) trivial (.inl ⟨by kernel_rfl, fun w h => by go_simp⟩) ?_
  go_simp
  refine HeldX.move 4 (v := .slice (some ⟨g, (i + 1) * 8, none⟩) (es.length + 1 - (i + 1)) (cap - (i + 1))) rfl (by kernel_rfl) (by kernel_rfl) (by kernel_rfl) (by kernel_rfl) (fun _ _ _ h => h) trivial (.inl ⟨by kernel_rfl, fun w h => by go_simp⟩) ?_
  go_simp
  refine HeldX.move 5 (v := .slice (some ⟨g, 0, none⟩) (es.length + 1) cap) rfl (by kernel_rfl) (by kernel_rfl) (by kernel_rfl) (by kernel_rfl) (fun _ _ _ h => h) trivial (.inl ⟨by kernel_rfl, fun w h => by go_simp⟩) ?_
  go_simp
  refine HeldX.move 6 (v := .int .i64 (i : Int)) rfl (by kernel_rfl) (by kernel_rfl) (by kernel_rfl) (by kernel_rfl) (fun _ _ _ h => h) trivial (.inl ⟨by kernel_rfl, fun w h => by go_simp⟩) ?_
  go_simp
  refine HeldX.move 7 (v := .slice (some ⟨g, i * 8, none⟩) (es.length + 1 - i) (cap - i)) rfl (by kernel_rfl) (by kernel_rfl) (by kernel_rfl) (by kernel_rfl) (fun _ _ _ h => h) trivial (.inl ⟨by kernel_rfl, fun w h => by go_simp⟩) ?_
  go_simp
  refine HeldX.one 8 (by kernel_rfl) rfl (by kernel_rfl) (fun K hK => ?_)
  refine wp_copy_r _ _ _ 84 84 rfl (.slice (some ⟨g, (i + 1) * 8, none⟩) (es.length + 1 - (i + 1)) (cap - (i + 1))) (.slice (some ⟨g, i * 8, none⟩) (es.length + 1 - i) (cap - i)) (by simp [Act.eval, Act.put]) (by simp [Act.eval, Act.put]) (hcp1 _ _ _) ?_
  go_simp
  refine hK _ _ trivial ?_
  clear hK K
  refine HeldX.done (by kernel_rfl) ?_ _
  go_wp2_with (at_builtin; refine wpList_copy_r _ rfl _ _ 84 84 rfl _ _ rfl rfl (hcp2 _ _) ?_)
  go_ret
  exact ⟨rfl, rfl⟩
def zC : Value := .agg #[.int .u8 0, .string ByteArray.empty, .string ByteArray.empty, .string ByteArray.empty, .int .u8 0, .string ByteArray.empty, .string ByteArray.empty, .int .i64 0]
set_option maxHeartbeats 4000000 in
/-- in the midst, there is no room -/
theorem insert_grow (g cap i : Nat) (es : List Ev) (x : Ev) (vb : Nat) (cur : Array Value) (w : World) (hi : i < es.length) (hl : es.length ≤ 255) (hcn : es.length ≤ cap) (hroom : cap < es.length + 1) (hg : w.heap[g]? = some (.cells cur 91 (0, 0))) (hz : cur.size = cap * 8)
    (ht : cur.toList.take (es.length * 8) = es.flatMap cellL) (hv : w.heap[vb]? = some (.cells (cellL x).toArray 91 (0, 0))) (G : Nat) (hG : G = grownCap w (es.length + 1) cap 91) (L0 L1 L2 : List Value)
    (h0 : L0.toArray = ((es.flatMap cellL).take (i * 8)).toArray ++ Builtin.zeroCells zC.cells (es.length + 1 - i) ++ Builtin.zeroCells zC.cells (G - (es.length + 1)))
    (h1 : L1 = L0.take (i * 8) ++ cellL x ++ L0.drop (i * 8 + (cellL x).length)) (h2 : L2 = L1.take ((i + 1) * 8) ++ (es.flatMap cellL).drop (i * 8) ++ L1.drop ((i + 1) * 8 + ((es.flatMap cellL).drop (i * 8)).length)) (hl0 : L0.length = G * 8) :
    Calls Tryd.prog 86 #[.slice (some ⟨g, 0, none⟩) es.length cap, .int .i64 (i : Int), .slice (some ⟨vb, 0, none⟩) 1 1] w fun e w' => e = .returned (.slice (some ⟨w.heap.size, 0, none⟩) (es.length + 1) G) ∧ w' = (((w.alloc (.cells L0.toArray 91)).drew).setRow w.heap.size L1.toArray).drew.setRow w.heap.size L2.toArray := by
  have hsz : (Tryd.prog.info? 91).map (·.size) = some 8 := by kernel_rfl
  obtain ⟨i0, hin, hz0, hz1, hz2⟩ := info_parts info_cell
  have hfl := flat_len es
  have hdl : ((es.flatMap cellL).drop (i * 8)).length = (es.length - i) * 8 := by rw [List.length_drop, hfl]; omega
  have hxl : (cellL x).length = 8 := rfl
  have hgw : g < w.heap.size := (Array.getElem?_eq_some_iff.1 hg).1
  have hvw : vb < w.heap.size := (Array.getElem?_eq_some_iff.1 hv).1
  have hGn : es.length + 1 ≤ G := by rw [hG]; exact grownCap_ge w _ _ _
  have hG63 : G ≤ 9223372036854775807 := by
    have := grownCap_le_maxLen w (es.length + 1) cap 91 (by unfold maxLen; omega)
    rw [← hG] at this
    unfold maxLen at this
    omega
  have hl1 : L1.length = G * 8 := by rw [h1, List.length_append, List.length_append, List.length_take, hxl, List.length_drop, hl0]; omega
  have hadd : ∀ (b o j : Nat), (⟨b, o, none⟩ : Addr).add j = ⟨b, o + j, none⟩ := fun b o j => by unfold Addr.add; split <;> simp_all
  have hcs : ∀ (j : Nat) u, ((es.flatMap cellL).drop (i * 8))[j]? = some u → cur[i * 8 + j]? = some u := fun j u hu => by
    rw [← ht, List.getElem?_drop, List.getElem?_take] at hu
    split at hu
    · rwa [Array.getElem?_toList] at hu
    · cases hu
  have hold : (Builtin.firstCells i0.size i (.slice (some ⟨g, 0, none⟩) i cap)).run Tryd.prog w.drew = .ok ((es.flatMap cellL).take (i * 8)).toArray w.drew := by
    rw [hz1]
    exact run_firstCells_some w.drew 8 i ⟨g, 0, none⟩ i cap _ (by rw [List.length_take, hfl]; omega) (fun j u hj => by
      rw [hadd]
      rw [List.getElem?_take] at hj
      split at hj
      · rw [← ht, List.getElem?_take] at hj
        split at hj
        · show w.cell? _ = _
          rw [World.cell?]
          simp only [hg]
          simpa using hj
        · cases hj
      · cases hj)
  have hkk : (es.length : Int) + 1 - (i : Int) = ((es.length + 1 - i : Nat) : Int) := by omega
  have hik : i + (es.length + 1 - i) = es.length + 1 := by omega
  have hrz : ∀ ty, (Builtin.append_ #[84, 3] ty #[.slice (some ⟨g, 0, none⟩) i cap, .int .i64 ((es.length : Int) + 1 - (i : Int))]).run Tryd.prog w = .ok (.slice (some ⟨w.heap.size, 0, none⟩) (es.length + 1) G) ((w.alloc (.cells L0.toArray 91)).drew) := fun ty => by
    have h := Lib.run_append_grow_zeros w 84 3 ty 91 i0 zC .i64 .i64 Tryd.underlying84 Tryd.underlying3 hin hz0 (some ⟨g, 0, none⟩) i cap _ hold (es.length + 1 - i) (by omega) (by omega) (by omega) (by omega) (by rw [hz2]; omega) (by rw [hz2, hik]; exact growslice_fits hroom (by omega))
    rw [hik, ← hG, ← h0] at h
    rw [hkk]
    exact h
  have hn1 : ((w.alloc (.cells L0.toArray 91)).drew).heap[w.heap.size]? = some (.cells L0.toArray 91 (0, 0)) := heap_alloc_new w _
  have hv1 : ((w.alloc (.cells L0.toArray 91)).drew).heap[vb]? = some (.cells (cellL x).toArray 91 (0, 0)) := by
    have := ((Below.refl w.heap.size w).alloc (Nat.le_refl _) (.cells L0.toArray 91)).block vb hvw
    exact this.trans hv
  have hcp1 : ∀ ty dc, (Builtin.copy_ #[84, 84] ty #[.slice (some ⟨w.heap.size, i * 8, none⟩) (es.length + 1 - i) dc, .slice (some ⟨vb, 0, none⟩) 1 1]).run Tryd.prog ((w.alloc (.cells L0.toArray 91)).drew) = .ok (goInt (1 : Nat)) (((w.alloc (.cells L0.toArray 91)).drew).setRow w.heap.size L1.toArray) := fun ty dc => by
    have h := run_copy_rowk (P := Tryd.prog) ((w.alloc (.cells L0.toArray 91)).drew) 84 84 ty 91 8 w.heap.size (i * 8) (es.length + 1 - i) dc ⟨vb, 0, none⟩ 1 1 L0.toArray 91 1 (cellL x) Tryd.underlying84 hsz hn1 (by simp only [Nat.min_def]; split <;> omega) rfl
      (fun j u hu => by
        rw [hadd, World.cell?]
        simp only [hv1]
        simpa using hu)
      (by rw [hxl, List.size_toArray, hl0]; omega) (cellL_one x)
    rw [h, h1]
  have hn2 : (((w.alloc (.cells L0.toArray 91)).drew).setRow w.heap.size L1.toArray).drew.heap[w.heap.size]? = some (.cells L1.toArray 91 (0, 0)) := setRow_heap _ w.heap.size _ _ _ _ hn1
  have hg2 : (((w.alloc (.cells L0.toArray 91)).drew).setRow w.heap.size L1.toArray).drew.heap[g]? = some (.cells cur 91 (0, 0)) :=
    (setRow_other ((w.alloc (.cells L0.toArray 91)).drew) w.heap.size g _ (by omega)).trans ((((Below.refl w.heap.size w).alloc (Nat.le_refl _) (.cells L0.toArray 91)).block g hgw).trans hg)
  have hcp2 : ∀ ty dc sc, (Builtin.copy_ #[84, 84] ty #[.slice (some ⟨w.heap.size, (i + 1) * 8, none⟩) (es.length + 1 - (i + 1)) dc, .slice (some ⟨g, i * 8, none⟩) (es.length - i) sc]).run Tryd.prog (((w.alloc (.cells L0.toArray 91)).drew).setRow w.heap.size L1.toArray).drew = .ok (goInt (es.length - i : Nat)) ((((w.alloc (.cells L0.toArray 91)).drew).setRow w.heap.size L1.toArray).drew.setRow w.heap.size L2.toArray) := fun ty dc sc => by
    have h := run_copy_rowk (P := Tryd.prog) (((w.alloc (.cells L0.toArray 91)).drew).setRow w.heap.size L1.toArray).drew 84 84 ty 91 8 w.heap.size ((i + 1) * 8) (es.length + 1 - (i + 1)) dc ⟨g, i * 8, none⟩ (es.length - i) sc L1.toArray 91 (es.length - i) ((es.flatMap cellL).drop (i * 8)) Tryd.underlying84 hsz hn2 (by simp only [Nat.min_def]; split <;> omega) hdl
      (fun j u hu => by
        rw [hadd, World.cell?]
        simp only [hg2]
        simpa using hcs j u hu)
      (by rw [hdl, List.size_toArray, hl1]; omega) (fun u hu => flat_one es u (List.mem_of_mem_drop hu))
    rw [h, h2]
  have hz3 : ¬ ((i : Int) = (es.length : Int)) := by omega
  have hz4 : (cap : Int) < (es.length : Int) + 1 := by omega
  have hin2 : i ≤ es.length := by omega
  have hb3 : (i : Int) ≤ (es.length : Int) := by omega
  have hb1 : (0 : Int) ≤ (i : Int) + 1 := by omega
  have hb4 : (i : Int) + 1 ≤ (es.length : Int) + 1 := by omega
  have hb5 : (i : Int) ≤ (es.length : Int) + 1 := by omega
  have hb6 : (i : Int) ≤ (cap : Int) := by omega
  have hb7 : (0 : Int) ≤ (es.length : Int) + 1 - (i : Int) := by omega
  have hw1 : IntKind.i64.wrap ((i : Int) + 1) = (i : Int) + 1 := by rw [IntKind.wrap_i64]; omega
  have hw2 : IntKind.i64.wrap ((es.length : Int) + 1 - (i : Int)) = (es.length : Int) + 1 - (i : Int) := by rw [IntKind.wrap_i64]; omega
  have htn : ((i : Int) + 1).toNat = i + 1 := by omega
  have hc1 : ¬ (cap = i + 1) ∨ cap = i + 1 := by omega
  have hc2 : ¬ (cap = i) := by omega
  have hGi : ¬ (G = i) := by omega
  have hGi1 : ¬ (G = i + 1) := by omega
  have hmo : Tryd.prog.follows .mixedOrders = true := by kernel_rfl
  have HL0 := Lib.hid h0
  have HL1 := Lib.hid h1
  have HL2 := Lib.hid h2
  have HG := Lib.hid hG
  clear h0 h1 h2 hcs hdl hfl hxl ht hl0 hl1 hold hkk hik hn1 hv1 hn2 hg2 hG hc1
  go_enter Tryd.func86, Tryd.ntmps86
  go_wp2_with (first
    | (at_builtin; refine Lib.wpList_append_run _ rfl _ _ _ _ rfl _ _ rfl rfl _ _ (hrz _) ?_)
    | (at_builtin; refine wpList_copy_r _ rfl _ _ 84 84 rfl _ _ rfl rfl (hcp1 _ _) ?_))
  refine wp_region_heldX (fun _ => True) [] hmo ?_
  refine HeldX.move 0 (v := .slice (some ⟨w.heap.size, 0, none⟩) (es.length + 1) G) rfl (by kernel_rfl) (by kernel_rfl) (by kernel_rfl) (by kernel_rfl) (fun _ _ _ h => h) trivial (.inl ⟨by kernel_rfl, fun w h => by go_simp⟩) ?_
  go_simp
  refine HeldX.move 1 (v := .int .i64 (i : Int)) rfl (by kernel_rfl) (by kernel_rfl) (by kernel_rfl) (by kernel_rfl) (fun _ _ _ h => h) trivial (.inl ⟨by kernel_rfl, fun w h => by go_simp⟩) ?_
  go_simp
  refine HeldX.move 2 (v := .int .i64 1) rfl (by kernel_rfl) (by kernel_rfl) (by kernel_rfl) (by kernel_rfl) (fun _ _ _ h => h) trivial (.inl ⟨by kernel_rfl, fun w h => by go_simp⟩) ?_
  go_simp
  refine HeldX.move 3 (v := .int .i64 ((i : Int) + 1)) rfl (by kernel_rfl) (by kernel_rfl) (by kernel_rfl) (by kernel_rfl) (fun _ _ _ h => h) trivial (.inl ⟨by kernel_rfl, fun w h => by go_simp⟩) ?_
  go_simp
  refine HeldX.move 4 (v := .slice (some ⟨w.heap.size, (i + 1) * 8, none⟩) (es.length + 1 - (i + 1)) (G - (i + 1))) rfl (by kernel_rfl) (by kernel_rfl) (by kernel_rfl) (by kernel_rfl) (fun _ _ _ h => h) trivial (.inl ⟨by kernel_rfl, fun w h => by go_simp⟩) ?_
  go_simp
  refine HeldX.move 5 (v := .slice (some ⟨g, 0, none⟩) es.length cap) rfl (by kernel_rfl) (by kernel_rfl) (by kernel_rfl) (by kernel_rfl) (fun _ _ _ h => h) trivial (.inl ⟨by kernel_rfl, fun w h => by go_simp⟩) ?_
  go_simp
  refine HeldX.move 6 (v := .int .i64 (i : Int)) rfl (by kernel_rfl) (by kernel_rfl) (by kernel_rfl) (by kernel_rfl) (fun _ _ _ h => h) trivial (.inl ⟨by kernel_rfl, fun w h => by go_simp⟩) ?_
  go_simp
  refine HeldX.move 7 (v := .slice (some ⟨g, i * 8, none⟩) (es.length - i) (cap - i)) rfl (by kernel_rfl) (by kernel_rfl) (by kernel_rfl) (by kernel_rfl) (fun _ _ _ h => h) trivial (.inl ⟨by kernel_rfl, fun w h => by go_simp⟩) ?_
  go_simp
  refine HeldX.one 8 (by kernel_rfl) rfl (by kernel_rfl) (fun K hK => ?_)
  refine wp_copy_r _ _ _ 84 84 rfl (.slice (some ⟨w.heap.size, (i + 1) * 8, none⟩) (es.length + 1 - (i + 1)) (G - (i + 1))) (.slice (some ⟨g, i * 8, none⟩) (es.length - i) (cap - i)) (by simp [Act.eval, Act.put]) (by simp [Act.eval, Act.put]) (hcp2 _ _ _) ?_
  go_simp
  refine hK _ _ trivial ?_
  clear hK K
  refine HeldX.done (by kernel_rfl) ?_ _
  go_wp2_with fail
  go_ret
  exact ⟨rfl, rfl⟩
end Left
end Go.Proofs.YtbgjoefpnjgdkaaDoor
/- slices.Insert of one cell into a row that the call owns. -/
namespace Go.Proofs.YtbgjoefpnjgdkaaDoor
open Go.RowKit Go.Shelf Go.Lib
set_option linter.unusedVariables false
set_option linter.unusedSimpArgs false
set_option maxRecDepth 100000
namespace Left
open Named
theorem grown_row (P ys S Z L0 L1 L2 : List Value) (i n G : Nat) (hP : P.length = i * 8) (hy : ys.length = 8) (hS : S.length = (n - i) * 8) (hi : i ≤ n) (h0 : L0 = P ++ Z) (hl : L0.length = G * 8) (hG : n + 1 ≤ G)
    (h1 : L1 = L0.take (i * 8) ++ ys ++ L0.drop (i * 8 + ys.length)) (h2 : L2 = L1.take ((i + 1) * 8) ++ S ++ L1.drop ((i + 1) * 8 + S.length)) : L2.length = G * 8 ∧ L2.take ((n + 1) * 8) = P ++ (ys ++ S) := by
  have e1 : L0.take (i * 8) = P := by rw [h0, ← hP, List.take_left']; rfl
  rw [e1] at h1
  have hl1 : L1.length = G * 8 := by rw [h1, List.length_append, List.length_append, List.length_drop, hP, hy, hl]; omega
  have e2 : L1.take ((i + 1) * 8) = P ++ ys := by rw [h1, List.take_left' (by rw [List.length_append, hP, hy]; omega)]
  rw [e2] at h2
  have hl2 : (P ++ ys ++ S).length = (n + 1) * 8 := by rw [List.length_append, List.length_append, hP, hy, hS]; omega
  refine ⟨by rw [h2, List.length_append, hl2, List.length_drop, hl1, hS]; omega, ?_⟩
  rw [h2, List.take_left' hl2, List.append_assoc]
theorem zero_size (z : Array Value) (k : Nat) : (Builtin.zeroCells z k).size = k * z.size := by
  simp [Builtin.zeroCells]
theorem ins_flat (es : List Ev) (x : Ev) (i : Nat) : (es.take i ++ x :: es.drop i).flatMap cellL = (es.flatMap cellL).take (i * 8) ++ (cellL x ++ (es.flatMap cellL).drop (i * 8)) := by
  rw [List.flatMap_append, List.flatMap_cons, flat_take, flat_drop]
theorem ins_len (es : List Ev) (x : Ev) (i : Nat) (hi : i ≤ es.length) : (es.take i ++ x :: es.drop i).length = es.length + 1 := by
  rw [List.length_append, List.length_cons, List.length_take, List.length_drop]; omega
theorem gb_then {w w1 w2 : World} {g : Nat} (h : w.grownBy w1 (some g)) (h2 : w1.grownBy w2 (some g)) : w.grownBy w2 (some g) :=
  ⟨h2.os.trans h.os, h2.tape.trans h.tape, h2.output.trans h.output, Nat.le_trans h.size h2.size, fun k hk hne => (h2.block k (Nat.lt_of_lt_of_le hk h.size) hne).trans (h.block k hk hne)⟩
theorem insert_any (base : Nat) (v : Value) (es : List Ev) (x : Ev) (i vb : Nat) (w : World) (ho : OwnE base w v es) (hi : i ≤ es.length) (hl : es.length ≤ 255) (hbase : base ≤ w.heap.size)
    (hv : w.heap[vb]? = some (.cells (cellL x).toArray 91 (0, 0))) (hne : v.ownBlock ≠ some vb) :
    Calls Tryd.prog 86 #[v, .int .i64 (i : Int), .slice (some ⟨vb, 0, none⟩) 1 1] w fun e w' => ∃ v', e = .returned v' ∧ OwnE base w' v' (es.take i ++ x :: es.drop i) ∧ w.grownBy w' v.ownBlock := by
  have hvc : ∀ k, w.cell? ⟨vb, k, none⟩ = (cellL x)[k]? := fun k => by rw [World.cell?]; simp only [hv]; simp
  rcases Nat.lt_or_ge i es.length with hlt | hge
  · rcases ownE_form ho with ⟨-, rfl⟩ | ⟨g, cap, cur, rfl, hg, hh, hc, hm, hz, ht⟩
    · simp at hlt
    · have hgw : g < w.heap.size := (Array.getElem?_eq_some_iff.1 hh).1
      have hfl := flat_len es
      have hne' : vb ≠ g := fun e => hne (by rw [e]; rfl)
      rcases Nat.lt_or_ge cap (es.length + 1) with hroom | hroom
      · obtain ⟨G, hG⟩ : ∃ G, G = grownCap w (es.length + 1) cap 91 := ⟨_, rfl⟩
        obtain ⟨Z, hZ⟩ : ∃ Z : List Value, Z = (Builtin.zeroCells zC.cells (es.length + 1 - i) ++ Builtin.zeroCells zC.cells (G - (es.length + 1))).toList := ⟨_, rfl⟩
        have hGn : es.length + 1 ≤ G := by rw [hG]; exact grownCap_ge w _ _ _
        have hG63 : G ≤ maxLen := by
          have := grownCap_le_maxLen w (es.length + 1) cap 91 (by unfold maxLen; omega)
          rwa [← hG] at this
        have hzl : Z.length = (G - i) * 8 := by
          rw [hZ, Array.length_toList, Array.size_append, zero_size, zero_size, show zC.cells.size = 8 from rfl]; omega
        have hP : ((es.flatMap cellL).take (i * 8)).length = i * 8 := by rw [List.length_take, hfl]; omega
        have hl0 : ((es.flatMap cellL).take (i * 8) ++ Z).length = G * 8 := by rw [List.length_append, hP, hzl]; omega
        refine (insert_grow g cap i es x vb cur w hlt hl hc hroom hh hz ht hv G hG ((es.flatMap cellL).take (i * 8) ++ Z) _ _ (by rw [hZ]; simp) rfl rfl hl0).mono ?_
        rintro e w' ⟨rfl, rfl⟩
        have hR := grown_row ((es.flatMap cellL).take (i * 8)) (cellL x) ((es.flatMap cellL).drop (i * 8)) Z _ _ _ i es.length G hP rfl (by rw [List.length_drop, hfl]; omega) hi rfl hl0 hGn rfl rfl
        have hn1 := setRow_heap ((w.alloc (.cells ((es.flatMap cellL).take (i * 8) ++ Z).toArray 91)).drew) w.heap.size _ ((((es.flatMap cellL).take (i * 8) ++ Z).take (i * 8) ++ cellL x ++ ((es.flatMap cellL).take (i * 8) ++ Z).drop (i * 8 + (cellL x).length))).toArray _ _ (heap_alloc_new w _)
        refine ⟨_, rfl, ⟨by rw [flat_len], .inr ⟨w.heap.size, G, _, by rw [ins_len _ _ _ hi], hbase, setRow_heap _ w.heap.size _ _ _ _ hn1, by rw [ins_len _ _ _ hi]; exact hGn, hG63, ?_, ?_⟩⟩, ?_⟩
        · rw [List.size_toArray]; exact hR.1
        · rw [ins_len _ _ _ hi, ins_flat]; exact hR.2
        · refine ⟨rfl, rfl, rfl, ?_, fun k hk _ => ?_⟩
          · simp [World.setRow]
          · have h1 := setRow_other ((w.alloc (.cells ((es.flatMap cellL).take (i * 8) ++ Z).toArray 91)).drew) w.heap.size k ((((es.flatMap cellL).take (i * 8) ++ Z).take (i * 8) ++ cellL x ++ ((es.flatMap cellL).take (i * 8) ++ Z).drop (i * 8 + (cellL x).length))).toArray (by omega)
            exact (setRow_other _ w.heap.size k _ (by omega)).trans (h1.trans (((Below.refl w.heap.size w).alloc (Nat.le_refl _) _).block k hk))
      · have hsh := shifted cur.toList (es.flatMap cellL) (cellL x) i es.length hi (by have := Array.length_toList (xs := cur); omega) hfl rfl ht
        refine (insert_room g cap i es x vb cur w hlt hl hroom hm hh hz ht hv hne' _ _ rfl rfl).mono ?_
        rintro e w' ⟨rfl, rfl⟩
        have hn1 := setRow_heap w.drew g _ (cur.toList.take ((i + 1) * 8) ++ (es.flatMap cellL).drop (i * 8) ++ cur.toList.drop ((i + 1) * 8 + ((es.flatMap cellL).drop (i * 8)).length)).toArray _ _ hh
        refine ⟨_, rfl, ⟨by rw [flat_len], .inr ⟨g, cap, _, by rw [ins_len _ _ _ hi], hg, setRow_heap _ g _ _ _ _ hn1, by rw [ins_len _ _ _ hi]; exact hroom, hm, ?_, ?_⟩⟩, ?_⟩
        · rw [List.size_toArray]; exact hsh.2.1.trans (by rw [Array.length_toList, hz])
        · rw [ins_len _ _ _ hi, ins_flat]; exact hsh.2.2
        · exact gb_then (g := g) (gb_then (w1 := w.drew) (g := g) ⟨rfl, rfl, rfl, Nat.le_refl _, fun _ _ _ => rfl⟩ (grown_setRow w.drew g _)) (grown_setRow _ g _)
  · obtain rfl : i = es.length := by omega
    rw [List.take_length, List.drop_length]
    refine insert_end base v es x vb w ho hl hbase ⟨(Array.getElem?_eq_some_iff.1 hv).1, fun j u hu => by rw [Nat.zero_add, hvc]; exact hu, fun j hj => ⟨by rw [Nat.zero_add, hvc, List.getElem?_eq_getElem hj]; rfl, by simp [World.frozen?, hv]⟩⟩
end Left
end Go.Proofs.YtbgjoefpnjgdkaaDoor
