/- tree: the level above a level. -/
import Derived.Test.YtbgjoefpnjgdkaaDoorKTreeChunk
import Derived.Test.YtbgjoefpnjgdkaaDoorJ12
import Derived.Laws.EntriesVeiled
import Derived.Deep.AppendLies
namespace Go.Proofs.YtbgjoefpnjgdkaaDoor
open Go.RowKit Go.Shelf
set_option linter.unusedVariables false
set_option linter.unusedSimpArgs false
set_option maxRecDepth 100000
attribute [local go_sem] Oper.semAt_some
/-- append as it stands: the walk does not open it -/
def appTreeUp (ats : Array TypeId) (ty : TypeId) (args : Array Value) : Sem Value := Builtin.append_ ats ty args
theorem appTreeUp_fold (ats : Array TypeId) (ty : TypeId) (args : Array Value) : Builtin.append_ ats ty args = appTreeUp ats ty args := rfl
attribute [local go_sem ↓] appTreeUp_fold
namespace Tree
open Sha
/-- a row of sums lies there -/
def HRow (w : World) (v : Value) (ls : List (List UInt8)) : Prop :=
  ∃ b o cap, v = .slice (some ⟨b, o, none⟩) ls.length cap ∧ b < w.heap.size ∧ ls.length ≤ cap ∧ ∀ i (h : i < ls.length), w.rangeAt b (o + 32 * i) (bytesV ls[i])
theorem rangeAt_low {w w' : World} {b o : Nat} {cs : List Value} (h : w.rangeAt b o cs) (hb : b < w.heap.size) (hl : Below w.heap.size w w') : w'.rangeAt b o cs := fun j v hv =>
  (hl.cell (p := ⟨b, o + j, none⟩) hb).trans (h j v hv)
theorem rangeAt_lowB {B : Nat} {w w' : World} {b o : Nat} {cs : List Value} (h : w.rangeAt b o cs) (hb : b < B) (hl : Below B w w') : w'.rangeAt b o cs := fun j v hv =>
  (hl.cell (p := ⟨b, o + j, none⟩) hb).trans (h j v hv)
theorem HRow.below {w w' : World} {v : Value} {ls : List (List UInt8)} (h : HRow w v ls) (hl : Below w.heap.size w w') : HRow w' v ls := by
  obtain ⟨b, o, cap, rfl, hb, hc, hr⟩ := h
  exact ⟨b, o, cap, rfl, Nat.lt_of_lt_of_le hb hl.size, hc, fun i h => rangeAt_low (hr i h) hb hl⟩

/-- v owns these sums, in blocks from base on -/
def OwnH (base : Nat) (w : World) (v : Value) (ls : List (List UInt8)) : Prop := w.ownsRow base 30 32 v ls.length (ls.flatMap bytesV)
theorem OwnH.nil (base : Nat) (w : World) : OwnH base w (.slice none 0 0) [] := World.ownsRow_nil w base _ 32
theorem info_hash : (Tryd.prog.info? 30).map (fun i => (i.zero, i.size, i.bytes)) = some (some (.agg (Array.replicate 32 (.int .u8 0))), 32, 32) := by kernel_rfl
theorem flat_at : ∀ (ls : List (List UInt8)) (hls : ∀ l ∈ ls, l.length = 32) (i : Nat) (h : i < ls.length) (j : Nat) (v : Value), (bytesV ls[i])[j]? = some v → (ls.flatMap bytesV)[32 * i + j]? = some v
  | l :: ls, hls, 0, h, j, v, hv => by
    have hl := hls l (by simp)
    have hj : j < (bytesV l).length := (List.getElem?_eq_some_iff.1 hv).1
    rw [List.flatMap_cons, Nat.mul_zero, Nat.zero_add, List.getElem?_append_left hj]
    exact hv
  | l :: ls, hls, i + 1, h, j, v, hv => by
    have hl := hls l (by simp)
    rw [List.flatMap_cons, List.getElem?_append_right (by rw [bytesV_length, hl]; omega), bytesV_length, hl, show 32 * (i + 1) + j - 32 = 32 * i + j by omega]
    exact flat_at ls (fun x hx => hls x (by simp [hx])) i (by simpa using h) j v hv
theorem OwnH.row {base : Nat} {w : World} {v : Value} {ls : List (List UInt8)} (h : OwnH base w v ls) (hls : ∀ l ∈ ls, l.length = 32) (hn : 0 < ls.length) : HRow w v ls := by
  have h0 := h
  rcases h.2 with ⟨_, h1⟩ | ⟨g, cap, cur, rfl, hg, hh, hc, _⟩
  · omega
  · refine ⟨g, 0, cap, rfl, (Array.getElem?_eq_some_iff.1 hh).1, hc, fun i hi j v hv => ?_⟩
    have := World.ownsRow.cells h0 (g := g) rfl (32 * i + j) v (flat_at ls hls i hi j v hv)
    have e : (⟨g, 0, none⟩ : Addr).add (32 * i + j) = ⟨g, 32 * i + j, none⟩ := by unfold Addr.add; split <;> simp_all
    rw [e] at this
    rw [Nat.zero_add]
    exact this

def upL (X kk : Nat → Int) : List (List UInt8) → List (List UInt8)
  | a :: b :: r => aboveL X kk a b :: upL X kk r
  | _ => []

theorem upL_eq (X kk : Nat → Int) : ∀ (m : Nat) (ls : List (List UInt8)), ls.length = 2 * m → upL X kk ls = (List.range m).map fun i => aboveL X kk (ls.getD (2 * i) []) (ls.getD (2 * i + 1) [])
  | 0, ls, h => by
    have : ls = [] := List.length_eq_zero_iff.1 (by omega)
    subst this; rfl
  | m + 1, [], h => by simp at h
  | m + 1, [a], h => by simp at h; omega
  | m + 1, a :: b :: r, h => by
    have ih := upL_eq X kk m r (by simp at h; omega)
    rw [upL, ih, List.range_succ_eq_map, List.map_cons, List.map_map]
    congr 1
theorem upL_length (X kk : Nat → Int) (m : Nat) (ls : List (List UInt8)) (h : ls.length = 2 * m) : (upL X kk ls).length = m := by rw [upL_eq X kk m ls h]; simp
theorem upL_each (X kk : Nat → Int) (m : Nat) (ls : List (List UInt8)) (h : ls.length = 2 * m) : ∀ l ∈ upL X kk ls, l.length = 32 := by
  rw [upL_eq X kk m ls h]
  intro l hl
  obtain ⟨i, _, rfl⟩ := List.mem_map.1 hl
  exact aboveL_length _ _ _ _

theorem gives_agg {P : Program} {w : World} {o : Oper} {a : Act} (ty : TypeId) (x : Operand) (ho : o.op = .load ty x) (b off : Nat) (hx : a.eval x = .pointer (some ⟨b, off, none⟩)) (cs : List Value) (d : TypeDesc) (hr : w.rangeAt b off cs)
    (hu : P.underlying ty = some d) (hd : d.isRow = true) (hi : (P.info? ty).map (·.size) = some cs.length) : (execOp a.eval o).run P w = .ok (.value (.agg cs.toArray)) w := by
  unfold execOp
  simp only [ho, hx, Instr.loadAt, Instr.sureAddr, Sem.run_bind, Sem.run_pure, Result.andThen_ok, run_loadVar_mid w b off ty cs d hr hu hd hi]

theorem fold_at : ∀ (l : List Value) (k : Nat) (z : Array Value) (i : Nat), ((l.zipIdx k).foldl (fun cs x => cs.setIfInBounds x.snd x.fst) z)[i]? = if k ≤ i ∧ i < k + l.length ∧ i < z.size then l[i - k]? else z[i]?
  | [], k, z, i => by rw [List.zipIdx_nil, List.foldl_nil, if_neg (by simp; omega)]
  | v :: l, k, z, i => by
    rw [List.zipIdx_cons, List.foldl_cons, fold_at l (k + 1) _ i, Array.size_setIfInBounds, Array.getElem?_setIfInBounds]
    by_cases hi : i = k
    · subst hi
      rw [if_neg (by omega), if_pos rfl]
      by_cases hz : i < z.size
      · rw [if_pos hz, if_pos ⟨Nat.le_refl _, by simp, hz⟩, Nat.sub_self]; rfl
      · rw [if_neg hz, if_neg (by omega), Array.getElem?_eq_none (by omega)]
    · by_cases h : k + 1 ≤ i ∧ i < k + 1 + l.length ∧ i < z.size
      · rw [if_pos h, if_pos ⟨by omega, by simp; omega, h.2.2⟩, show i - k = (i - (k + 1)) + 1 by omega]; rfl
      · rw [if_neg h, if_neg (fun e => hi e.symm), if_neg (by simp; omega)]
theorem fold_all (l : List Value) (z : Array Value) (h : z.size = l.length) : l.zipIdx.foldl (fun cs x => cs.setIfInBounds x.snd x.fst) z = l.toArray := by
  apply Array.ext_getElem?
  intro i
  rw [fold_at l 0 z i]
  by_cases hi : i < l.length
  · rw [if_pos ⟨by omega, by omega, by omega⟩]; simp
  · rw [if_neg (by omega), Array.getElem?_eq_none (by omega), Array.getElem?_eq_none (by simp; omega)]

/-- what a round of up meets: of the world W0 only the box of what is made has turned -/
def UpI (X kk : Nat → Int) (ls : List (List UInt8)) (nb : Nat) (W0 : World) (pre : List Nat) (W : World) : Prop :=
  ∃ v, W.heap[nb]? = some (.cells #[v, (.func (.func 47) #[] #[])] 113 (0, 0)) ∧ OwnH W0.heap.size W v (pre.map fun i => aboveL X kk (ls.getD (2 * i) []) (ls.getD (2 * i + 1) [])) ∧ W0.grownBy W (some nb)

theorem upI_from (X kk : Nat → Int) (ls : List (List UInt8)) (nb : Nat) (W0 : World) (hnb : nb < W0.heap.size) : OwnFrom W0.heap.size (UpI X kk ls nb W0) := by
  rintro pre W W' row ⟨v, hc, ho, hg0⟩ hg hr
  have hr' : ∀ r, row = some r → ∃ o : Obj, W.heap[r]? = some o ∧ o.isCells = false := fun r e => (hr r e).2
  refine ⟨v, (hg.block nb (Nat.lt_of_lt_of_le hnb hg0.size) (fun e => by have := (hr nb e.symm).1; omega)).trans hc, ?_, ⟨hg.os.trans hg0.os, hg.tape.trans hg0.tape, hg.output.trans hg0.output, Nat.le_trans hg0.size hg.size, fun k hk hne => (hg.block k (Nat.lt_of_lt_of_le hk hg0.size) (fun e => by have := (hr k e.symm).1; omega)).trans (hg0.block k hk hne)⟩⟩
  refine World.ownsRow.kept ho hg ?_
  by_cases h0 : v.ownBlock = none
  · exact .inl h0
  · right
    intro e
    rcases ho.2 with ⟨rfl, _⟩ | ⟨g, cap, cur, rfl, _, hh, _⟩
    · exact h0 rfl
    · obtain ⟨o, ho', hcc⟩ := hr' g e.symm
      rw [hh] at ho'
      cases ho'
      cases hcc

set_option maxHeartbeats 4000000 in
theorem up_fresh (X kk : Nat → Int) (v : Value) (ls : List (List UInt8)) (m : Nat) (hm : ls.length = 2 * m) (hm1 : 1 ≤ m) (hm8 : m ≤ 8) (hls : ∀ l ∈ ls, l.length = 32) (w : World) (hv : HRow w v ls) (hT : Tabs w X kk) :
    Calls Tryd.prog 48 #[.agg #[v, (.func (.func 47) #[] #[])]] w fun e w' => ∃ v', e = .returned (.agg #[v', (.func (.func 47) #[] #[])]) ∧ HRow w' v' (upL X kk ls) ∧ Below w.heap.size w w' ∧ ∀ b o n c, v' = .slice (some ⟨b, o, none⟩) n c → w.heap.size ≤ b := by
  obtain ⟨b, o, cap, rfl, hb, hcap, hrr⟩ := hv
  rw [hm] at hcap ⊢
  have HM := Lib.hid hm
  have HRR := Lib.hid hrr
  have HLS := Lib.hid hls
  have HT := Lib.hid hT
  clear hm hrr hls
  refine callsIn_wide (n := 9).1 ?_
  refine callsIn_of_wp_marks Tryd.func48 rfl trivial ?_ rfl
  simp only [Tryd.ntmps48, List.size_toArray, List.length_cons, List.length_nil, Nat.reduceAdd, Nat.reduceSub, Array.replicate_succ, Array.replicate_zero, List.push_toArray, List.append_toArray, List.nil_append, List.cons_append]
  gi_wp2_with fail
  refine ⟨trivial, (chunk_in Fence.wide 8 trivial rfl _ ⟨_, _, _, rfl⟩ _).mono ?_⟩
  rintro e1 w1 ⟨rfl, rfl⟩
  gi_wp2_with fail
  try simp only [World.size_alloc]
  have HB0 : Hid (Below w.heap.size w (((((w.alloc (.cells #[.slice (some ⟨b, o, none⟩) (2 * m) cap, (.func (.func 47) #[] #[])] 113)).alloc (.cells #[.slice none 0 0, .nilFunc] 113)).alloc (.cells #[.slice none 0 0, (.func (.func 47) #[] #[])] 113)).alloc (.cells #[.slice (some ⟨b, o, none⟩) (2 * m) cap] 33)).alloc (.cells #[.int .i64 2] 3))) := Lib.hid ((((((Below.refl w.heap.size w).alloc (by simp) _).alloc (by simp) _).alloc (by simp <;> omega) _).alloc (by simp <;> omega) _).alloc (by simp <;> omega) _)
  obtain ⟨W0, hW0⟩ : ∃ W0, ((((w.alloc (.cells #[.slice (some ⟨b, o, none⟩) (2 * m) cap, (.func (.func 47) #[] #[])] 113)).alloc (.cells #[.slice none 0 0, .nilFunc] 113)).alloc (.cells #[.slice none 0 0, (.func (.func 47) #[] #[])] 113)).alloc (.cells #[.slice (some ⟨b, o, none⟩) (2 * m) cap] 33)).alloc (.cells #[.int .i64 2] 3) = W0 := ⟨_, rfl⟩
  have z0 : W0.heap.size = w.heap.size + 5 := by rw [← hW0]; simp
  have hat : ∀ (A : World) (obs : List Obj) (i : Nat) (ob : Obj), obs[i]? = some ob → (obs.foldl World.alloc A).heap[A.heap.size + i]? = some ob := by
    intro A obs
    induction obs generalizing A with
    | nil => intro i ob h; cases h
    | cons x r ih =>
      intro i ob h
      cases i with
      | zero =>
        simp only [List.getElem?_cons_zero, Option.some.injEq] at h
        subst h
        have hb : ∀ (r : List Obj) (B : World), A.heap.size < B.heap.size → (r.foldl World.alloc B).heap[A.heap.size]? = B.heap[A.heap.size]? := by
          intro r
          induction r with
          | nil => intro B _; rfl
          | cons y r ih2 =>
            intro B hB
            rw [List.foldl_cons, ih2 _ (by simp; omega), Below.heap_alloc _ _ _ hB]
        rw [List.foldl_cons, Nat.add_zero, hb r _ (by simp)]
        exact World.alloc_heap_new A x
      | succ i =>
        rw [List.foldl_cons]
        have := ih (A.alloc x) i ob (by simpa using h)
        rw [World.size_alloc] at this
        rw [show A.heap.size + (i + 1) = A.heap.size + 1 + i by omega]
        exact this
  have hat0 := hat w [.cells #[.slice (some ⟨b, o, none⟩) (2 * m) cap, (.func (.func 47) #[] #[])] 113, .cells #[.slice none 0 0, .nilFunc] 113, .cells #[.slice none 0 0, (.func (.func 47) #[] #[])] 113, .cells #[.slice (some ⟨b, o, none⟩) (2 * m) cap] 33, .cells #[.int .i64 2] 3]
  simp only [List.foldl_cons, List.foldl_nil] at hat0
  rw [hW0] at hat0 HB0 ⊢
  have q0 := hat0 0 _ rfl
  have q1 := hat0 1 _ rfl
  have q2 := hat0 2 _ rfl
  have q3 := hat0 3 _ rfl
  have q4 := hat0 4 _ rfl
  clear hat hat0 hW0
  have cq3 : W0.cell? ⟨w.heap.size + 1 + 1 + 1, 0, none⟩ = some (.slice (some ⟨b, o, none⟩) (2 * m) cap) := by simp [World.cell?, q3]
  have cq4 : W0.cell? ⟨w.heap.size + 1 + 1 + 1 + 1, 0, none⟩ = some (.int .i64 2) := by simp [World.cell?, q4]
  have hmo : Tryd.prog.follows .mixedOrders = true := by kernel_rfl
  obtain ⟨i0, hi, hz0, hz1, hz2⟩ := info_parts info_hash
  refine range_told rfl (by omega) (gf := 135) (lb := #[.pointer (some ⟨w.heap.size + 1 + 1 + 1, 0, none⟩), .pointer (some ⟨w.heap.size + 1 + 1 + 1 + 1, 0, none⟩)]) rfl trivial (enters_of Tryd.func135 (by kernel_rfl) rfl)
    (chunk_told 8 (by omega) (w.heap.size + 1 + 1 + 1) (w.heap.size + 1 + 1 + 1 + 1) b o m cap hm8 hcap W0 (by omega) (by omega) cq3 cq4)
    (fun h k => ⟨Nat.le_trans h.1 k.1, k.2.1.trans h.2.1, k.2.2.trans h.2.2⟩) (fun W l' o1 o2 hl h hc hw => ⟨by simp, World.putObj_heap_other (by omega), World.putObj_heap_other (by omega)⟩) (fun _ => rfl) (fun _ _ => ownFrom_pure _ (fun _ => _))
    (UpI X kk ls (w.heap.size + 1 + 1) W0) (upI_from X kk ls _ W0 (by omega)) ⟨_, q2, OwnH.nil _ _, ⟨rfl, rfl, rfl, Nat.le_refl _, fun _ _ _ => rfl⟩⟩
    (fun j => { tmps := #[.agg #[.slice (some ⟨b, o, none⟩) (2 * m) cap, (.func (.func 47) #[] #[])], .pointer (some ⟨w.heap.size, 0, none⟩), .pointer (some ⟨w.heap.size + 1, 0, none⟩), .pointer (some ⟨w.heap.size + 1 + 1, 0, none⟩), .slice (some ⟨b, o + 64 * j, none⟩) 2 2, .pointer (some ⟨w.heap.size, 1, none⟩), (.func (.func 47) #[] #[]), .agg #[.slice none 0 0, (.func (.func 47) #[] #[])], .pointer (some ⟨w.heap.size, 0, none⟩), .slice (some ⟨b, o, none⟩) (2 * m) cap, .func (.func 135) #[] #[.pointer (some ⟨w.heap.size + 1 + 1 + 1, 0, none⟩), .pointer (some ⟨w.heap.size + 1 + 1 + 1 + 1, 0, none⟩)], .slice (some ⟨b, o + 64 * j, none⟩) 2 2, undef, undef, undef, undef, undef, undef, undef, undef, undef, undef, undef, undef, undef, undef, undef], defers := [] }) ?assign ?body ?done
  case assign =>
    intro lp x W K hK
    dsimp only [pairV]
    gi_wp2
    exact hK
  case body =>
    rintro lp pre x W ⟨v, hc, ho, hg0⟩ ⟨hxp, hxm⟩
    have HXP := Lib.hid hxp
    clear hxp
    have hlen := HM.out
    have h1 : 2 * x < ls.length := by omega
    have h2 : 2 * x + 1 < ls.length := by omega
    have hWs := hg0.size
    have hBW : Below w.heap.size w W := HB0.out.trans (below_grownBy hg0 (by omega) (by omega))
    have hbW : b < W.heap.size := by omega
    have hx1 : W.rangeAt b (o + 32 * (2 * x)) (bytesV ls[2 * x]) := rangeAt_low (HRR.out (2 * x) h1) hb hBW
    have hx2 : W.rangeAt b (o + 32 * (2 * x + 1)) (bytesV ls[2 * x + 1]) := rangeAt_low (HRR.out (2 * x + 1) h2) hb hBW
    have ha32 := HLS.out _ (List.getElem_mem h1)
    have hb32 := HLS.out _ (List.getElem_mem h2)
    have HAB := Lib.hid (fun (W' : World) (h : Below w.heap.size w W') => above_any X kk ls[2 * x] ls[2 * x + 1] ha32 hb32 W' (HT.out.below rfl h))
    have HNX : Hid (aboveL X kk (ls.getD (2 * x) []) (ls.getD (2 * x + 1) []) = aboveL X kk ls[2 * x] ls[2 * x + 1]) := by
      refine Lib.hid ?_
      rw [List.getD_eq_getElem?_getD, List.getD_eq_getElem?_getD, List.getElem?_eq_getElem h1, List.getElem?_eq_getElem h2]; rfl
    have hy32 := aboveL_length X kk ls[2 * x] ls[2 * x + 1]
    rw [show o + 32 * (2 * x) = o + 64 * x by omega] at hx1
    rw [show o + 32 * (2 * x + 1) = o + 64 * x + 32 by omega] at hx2
    generalize aboveL X kk ls[2 * x] ls[2 * x + 1] = y at *
    generalize ls[2 * x] = ya at *
    generalize ls[2 * x + 1] = yb at *
    have kn : W.heap[w.heap.size]? = some (.cells #[.slice (some ⟨b, o, none⟩) (2 * m) cap, (.func (.func 47) #[] #[])] 113) := (hg0.block _ (by omega) (by intro e; injection e with e; omega)).trans q0
    have kj : W.cell? ⟨w.heap.size, 1, none⟩ = some (.func (.func 47) #[] #[]) := by simp [World.cell?, kn]
    have k0 : W.cell? ⟨w.heap.size + 1 + 1, 0, none⟩ = some v := by simp [World.cell?, hc]
    have k0d : W.drew.cell? ⟨w.heap.size + 1 + 1, 0, none⟩ = some v := k0
    have hlW : w.heap.size + 1 + 1 < W.heap.size := by omega
    have SL : ∀ w2, Below (w.heap.size + 5) W w2 → (w2.cell? ⟨w.heap.size, 1, none⟩ = some (.func (.func 47) #[] #[]) ∧ w2.rangeAt b (o + 64 * x) (bytesV ya) ∧ w2.rangeAt b (o + 64 * x + 32) (bytesV yb)) := fun w2 h => ⟨(h.cell (p := ⟨w.heap.size, 1, none⟩) (by simp)).trans kj, rangeAt_lowB hx1 (by omega) h, rangeAt_lowB hx2 (by omega) h⟩
    have S0 := SL W.drew ((Below.refl _ W).drew)
    have hBd := hBW.drew
    have hia : (Tryd.prog.info? 30).map (·.size) = some (bytesV ya).length := by rw [bytesV_length, ha32]; kernel_rfl
    have hib : (Tryd.prog.info? 30).map (·.size) = some (bytesV yb).length := by rw [bytesV_length, hb32]; kernel_rfl
    have hfold : (bytesV y).zipIdx.foldl (fun cs x => cs.setIfInBounds x.snd x.fst) #[Value.int .u8 0, Value.int .u8 0, Value.int .u8 0, Value.int .u8 0, Value.int .u8 0, Value.int .u8 0, Value.int .u8 0, Value.int .u8 0, Value.int .u8 0, Value.int .u8 0, Value.int .u8 0, Value.int .u8 0, Value.int .u8 0, Value.int .u8 0, Value.int .u8 0, Value.int .u8 0, Value.int .u8 0, Value.int .u8 0, Value.int .u8 0, Value.int .u8 0, Value.int .u8 0, Value.int .u8 0, Value.int .u8 0, Value.int .u8 0, Value.int .u8 0, Value.int .u8 0, Value.int .u8 0, Value.int .u8 0, Value.int .u8 0, Value.int .u8 0, Value.int .u8 0, Value.int .u8 0] = (bytesV y).toArray := fold_all _ _ (by rw [bytesV_length, hy32]; rfl)
    have hbl : (bytesV y).length = 32 := by rw [bytesV_length, hy32]
    have HIA := Lib.hid hia
    have HIB := Lib.hid hib
    have HX1 := Lib.hid hx1
    have HX2 := Lib.hid hx2
    clear hia hib hx1 hx2
    gi_wp2
    refine wpIn_region_held (fun w' => w'.cell? ⟨w.heap.size, 1, none⟩ = some (.func (.func 47) #[] #[]) ∧ w'.rangeAt b (o + 64 * x) (bytesV ya) ∧ w'.rangeAt b (o + 64 * x + 32) (bytesV yb)) hmo ?_
    refine HeldIn.take (Plainly.of (by kernel_rfl)) 0 _ (.pointer (some ⟨w.heap.size + 1 + 1, 0, none⟩)) rfl (by kernel_rfl) (by kernel_rfl) (fun _ _ _ h => h) S0 ⟨by kernel_rfl, fun w _ => by go_simp, fun _ => rfl⟩ ?_
    go_simp
    refine HeldIn.take (Plainly.of (by kernel_rfl)) 2 _ (.pointer (some ⟨w.heap.size, 1, none⟩)) rfl (by kernel_rfl) (by kernel_rfl) (fun _ _ _ h => h) S0 ⟨by kernel_rfl, fun w _ => by go_simp, fun _ => rfl⟩ ?_
    go_simp
    refine HeldIn.take (Plainly.of (by kernel_rfl)) 3 _ (.func (.func 47) #[] #[]) rfl (by kernel_rfl) (by kernel_rfl) (fun _ _ _ h => h) S0 ⟨by kernel_rfl, fun w h => by have h1 := h.1; go_simp, fun _ => rfl⟩ ?_
    go_simp
    refine HeldIn.take (Plainly.of (by kernel_rfl)) 4 _ (.slice (some ⟨b, o + 64 * x, none⟩) 2 2) rfl (by kernel_rfl) (by kernel_rfl) (fun _ _ _ h => h) S0 ⟨by kernel_rfl, fun w _ => by go_simp, fun _ => rfl⟩ ?_
    go_simp
    refine HeldIn.take (Plainly.of (by kernel_rfl)) 5 _ (.pointer (some ⟨b, o + 64 * x, none⟩)) rfl (by kernel_rfl) (by kernel_rfl) (fun _ _ _ h => h) S0 ⟨by kernel_rfl, fun w _ => by go_simp, fun _ => rfl⟩ ?_
    go_simp
    refine HeldIn.take (Plainly.of (by kernel_rfl)) 6 _ (.agg (bytesV ya).toArray) rfl (by kernel_rfl) (by kernel_rfl) (fun _ _ _ h => h) S0 ⟨by kernel_rfl, fun w h => gives_agg _ _ rfl b (o + 64 * x) rfl (bytesV ya) _ h.2.1 Tryd.underlying30 rfl HIA.out, fun _ => rfl⟩ ?_
    go_simp
    refine HeldIn.take (Plainly.of (by kernel_rfl)) 7 _ (.slice (some ⟨b, o + 64 * x, none⟩) 2 2) rfl (by kernel_rfl) (by kernel_rfl) (fun _ _ _ h => h) S0 ⟨by kernel_rfl, fun w _ => by go_simp, fun _ => rfl⟩ ?_
    go_simp
    refine HeldIn.take (Plainly.of (by kernel_rfl)) 8 _ (.pointer (some ⟨b, o + 64 * x + 32, none⟩)) rfl (by kernel_rfl) (by kernel_rfl) (fun _ _ _ h => h) S0 ⟨by kernel_rfl, fun w _ => by go_simp, fun _ => rfl⟩ ?_
    go_simp
    refine HeldIn.take (Plainly.of (by kernel_rfl)) 9 _ (.agg (bytesV yb).toArray) rfl (by kernel_rfl) (by kernel_rfl) (fun _ _ _ h => h) S0 ⟨by kernel_rfl, fun w h => gives_agg _ _ rfl b (o + 64 * x + 32) rfl (bytesV yb) _ h.2.2 Tryd.underlying30 rfl HIB.out, fun _ => rfl⟩ ?_
    go_simp
    refine HeldIn.all [1, 10] (by kernel_rfl) (by simp) (HeldAll.cons rfl (by kernel_rfl) (fun K hK => ?_) (HeldAll.cons rfl (by kernel_rfl) (fun K hK => ?_) HeldAll.nil))
    · go_simp
      refine hK _ _ S0 ?_
      clear hK K
      refine HeldIn.all [10] (by kernel_rfl) (by simp) (HeldAll.cons rfl (by kernel_rfl) (fun K hK => ?_) HeldAll.nil)
      go_simp
      refine ⟨trivial, ((callsIn_wide.2 (HAB.out _ hBd)).inRound lp).mono ?_⟩
      rintro e2 w2 ⟨rfl, hb2⟩
      have hb2' : Below W.heap.size W w2 := (Below.refl W.heap.size W).drew.trans hb2
      have S2 := SL w2 (hb2'.mono (by omega))
      have k2 : w2.cell? ⟨w.heap.size + 1 + 1, 0, none⟩ = some v := (hb2'.cell (p := ⟨w.heap.size + 1 + 1, 0, none⟩) hlW).trans k0
      have S3 := SL (w2.alloc (.cells (bytesV y).toArray 30)) ((hb2'.mono (by omega)).alloc (by have := hb2'.size; omega) _)
      have k3 : (w2.alloc (.cells (bytesV y).toArray 30)).cell? ⟨w.heap.size + 1 + 1, 0, none⟩ = some v := (((Below.refl _ w2).alloc (Nat.le_refl _) _).cell (p := ⟨w.heap.size + 1 + 1, 0, none⟩) (Nat.lt_of_lt_of_le hlW hb2'.size)).trans k2
      refine hK _ _ S2 ?_
      clear hK K
      refine HeldIn.all [11] (by kernel_rfl) (by simp) (HeldAll.cons rfl (by kernel_rfl) (fun K hK => ?_) HeldAll.nil)
      go_simp
      refine hK _ _ S3 ?_
      clear hK K
      have hbs2 := hb2'.size
      have hWA : Below (w.heap.size + 5) W (w2.alloc (.cells (bytesV y).toArray 30)) := (hb2'.mono (by omega)).alloc (by omega) _
      have hOA : (w2.alloc (.cells (bytesV y).toArray 30)).ownsRow W0.heap.size 30 32 v pre.length ((pre.map fun i => aboveL X kk (ls.getD (2 * i) []) (ls.getD (2 * i + 1) [])).flatMap bytesV) := by
        have h := World.ownsRow.kept (row := none) ho ⟨hb2'.os, hb2'.tape, hb2'.output, hb2'.size, fun k hk _ => hb2'.block k hk⟩ (by cases v.ownBlock <;> simp)
        rw [List.length_map] at h
        exact h.alloc _
      have hcA : (w2.alloc (.cells (bytesV y).toArray 30)).heap[w.heap.size + 1 + 1]? = some (.cells #[v, (.func (.func 47) #[] #[])] 113 (0, 0)) := (hWA.block _ (by omega)).trans hc
      have hpl : pre.length ≤ 8 := by have := HXP.out; omega
      obtain ⟨v', w3, hr, ho3, hg3, -⟩ := run_append_own (P := Tryd.prog) (w2.alloc (.cells (bytesV y).toArray 30)) W0.heap.size 33 33 30 i0 (.agg (Array.replicate 32 (.int .u8 0))) 32 32 Tryd.underlying33 hi hz0 hz1 hz2 (by simp [Value.cells]) (by decide) v pre.length _ hOA ⟨w2.heap.size, 0, none⟩ 1 1 (bytesV y) (by rw [hbl]) (World.news_of_block (World.alloc_heap_new w2 _)) (bytesV_cell y) (by unfold maxLen; omega) (by omega) (by simp; omega)
      rw [appTreeUp_fold] at hr
      obtain ⟨p', n', c', rfl⟩ : ∃ p n c, v' = .slice p n c := by
        rcases ho3.2 with ⟨h, _⟩ | ⟨g, c, cur, h, _⟩
        · exact ⟨_, _, _, h⟩
        · exact ⟨_, _, _, h⟩
      have hrow : ∀ k, v.ownBlock = some k → w.heap.size + 5 ≤ k := fun k e => by have := (World.ownsRow.lt hOA k e).1; omega
      have eB : Below (w.heap.size + 5) W w3 := hWA.grown hg3 (by simp; omega) hrow
      have S4 := SL w3 eB
      have hc3 : w3.heap[w.heap.size + 1 + 1]? = some (.cells #[v, (.func (.func 47) #[] #[])] 113 (0, 0)) := (eB.block _ (by omega)).trans hc
      have k4 : w3.cell? ⟨w.heap.size + 1 + 1, 0, none⟩ = some v := by simp [World.cell?, hc3]
      have f4 : w3.frozen? ⟨w.heap.size + 1 + 1, 0, none⟩ = false := by simp [World.frozen?, hc3]
      have eB5 : Below (w.heap.size + 1 + 1) W (w3.setCell ⟨w.heap.size + 1 + 1, 0, none⟩ (.slice p' n' c')) := (eB.mono (B' := w.heap.size + 1 + 1) (by omega)).setCell (p := ⟨w.heap.size + 1 + 1, 0, none⟩) (Nat.le_refl _) _
      have S5 : (w3.setCell ⟨w.heap.size + 1 + 1, 0, none⟩ (.slice p' n' c')).cell? ⟨w.heap.size, 1, none⟩ = some (.func (.func 47) #[] #[]) ∧ (w3.setCell ⟨w.heap.size + 1 + 1, 0, none⟩ (.slice p' n' c')).rangeAt b (o + 64 * x) (bytesV ya) ∧ (w3.setCell ⟨w.heap.size + 1 + 1, 0, none⟩ (.slice p' n' c')).rangeAt b (o + 64 * x + 32) (bytesV yb) :=
        ⟨(eB5.cell (p := ⟨w.heap.size, 1, none⟩) (by simp; omega)).trans kj, rangeAt_lowB HX1.out (by omega) eB5, rangeAt_lowB HX2.out (by omega) eB5⟩
      have hc5 : (w3.setCell ⟨w.heap.size + 1 + 1, 0, none⟩ (.slice p' n' c')).heap[w.heap.size + 1 + 1]? = some (.cells #[.slice p' n' c', (.func (.func 47) #[] #[])] 113 (0, 0)) := by
        simp only [World.setCell]
        rw [Array.getElem?_modify, if_pos rfl, hc3]
        rfl
      have hbl5 : ∀ k, k < w.heap.size + 5 → k ≠ w.heap.size + 1 + 1 → (w3.setCell ⟨w.heap.size + 1 + 1, 0, none⟩ (.slice p' n' c')).heap[k]? = W.heap[k]? := fun k hk hne => (Below.heap_setCell _ _ _ _ hne).trans (eB.block k hk)
      refine HeldIn.all [12] (by kernel_rfl) (by simp) (HeldAll.cons rfl (by kernel_rfl) (fun K hK => ?_) HeldAll.nil)
      go_simp
      refine hK _ _ S4 ?_
      clear hK K
      refine HeldIn.all [13] (by kernel_rfl) (by simp) (HeldAll.cons rfl (by kernel_rfl) (fun K hK => ?_) HeldAll.nil)
      go_simp
      refine hK _ _ S4 ?_
      clear hK K
      refine HeldIn.all [14] (by kernel_rfl) (by simp) (HeldAll.cons rfl (by kernel_rfl) (fun K hK => ?_) HeldAll.nil)
      go_simp
      refine hK _ _ S5 ?_
      clear hK K
      refine HeldIn.done (by kernel_rfl) ?_ _
      gi_wp2
      refine ⟨(((keeps_low hb2').trans (KeepsOthers.alloc _ _)).trans ((KeepsOthers.of_grownBy hg3 (fun j o e1 e2 => by
        rcases hOA.2 with ⟨rfl, _⟩ | ⟨g, cap, cur, rfl, _, hh, _⟩
        · cases e1
        · injection e1 with e1
          simp only at e1
          subst e1
          rw [hh] at e2
          cases e2
          rfl)).trans (KeepsOthers.setCell _ _ _))).from _, ⟨eB5.size, hbl5 _ (by omega) (by omega), hbl5 _ (by omega) (by omega)⟩, ⟨_, hc5, ?_, ⟨eB5.os.trans hg0.os, eB5.tape.trans hg0.tape, eB5.output.trans hg0.output, Nat.le_trans hg0.size eB5.size, fun k hk hne => (hbl5 k (by omega) (fun e => hne (by rw [e]))).trans (hg0.block k hk hne)⟩⟩⟩
      rw [OwnH, List.map_append, List.flatMap_append, List.length_append, List.length_map, List.length_map, List.map_singleton, List.flatMap_singleton, HNX.out]
      refine World.ownsRow.kept ho3 (grownBy_setCell' w3 (w.heap.size + 1 + 1) (.slice p' n' c')) ?_
      by_cases h0 : (Value.slice p' n' c').ownBlock = none
      · exact .inl h0
      · right
        intro e
        have := (World.ownsRow.lt ho3 _ e).1
        omega
    · go_simp
      refine ⟨trivial, ((callsIn_wide.2 (HAB.out _ hBd)).inRound lp).mono ?_⟩
      rintro e2 w2 ⟨rfl, hb2⟩
      have hb2' : Below W.heap.size W w2 := (Below.refl W.heap.size W).drew.trans hb2
      have S2 := SL w2 (hb2'.mono (by omega))
      have k2 : w2.cell? ⟨w.heap.size + 1 + 1, 0, none⟩ = some v := (hb2'.cell (p := ⟨w.heap.size + 1 + 1, 0, none⟩) hlW).trans k0
      have S3 := SL (w2.alloc (.cells (bytesV y).toArray 30)) ((hb2'.mono (by omega)).alloc (by have := hb2'.size; omega) _)
      have k3 : (w2.alloc (.cells (bytesV y).toArray 30)).cell? ⟨w.heap.size + 1 + 1, 0, none⟩ = some v := (((Below.refl _ w2).alloc (Nat.le_refl _) _).cell (p := ⟨w.heap.size + 1 + 1, 0, none⟩) (Nat.lt_of_lt_of_le hlW hb2'.size)).trans k2
      refine hK _ _ S2 ?_
      clear hK K
      refine HeldIn.all [1, 11] (by kernel_rfl) (by simp) (HeldAll.cons rfl (by kernel_rfl) (fun K hK => ?_) (HeldAll.cons rfl (by kernel_rfl) (fun K hK => ?_) HeldAll.nil))
      · go_simp
        refine hK _ _ S2 ?_
        clear hK K
        refine HeldIn.all [11] (by kernel_rfl) (by simp) (HeldAll.cons rfl (by kernel_rfl) (fun K hK => ?_) HeldAll.nil)
        go_simp
        refine hK _ _ S3 ?_
        clear hK K
        have hbs2 := hb2'.size
        have hWA : Below (w.heap.size + 5) W (w2.alloc (.cells (bytesV y).toArray 30)) := (hb2'.mono (by omega)).alloc (by omega) _
        have hOA : (w2.alloc (.cells (bytesV y).toArray 30)).ownsRow W0.heap.size 30 32 v pre.length ((pre.map fun i => aboveL X kk (ls.getD (2 * i) []) (ls.getD (2 * i + 1) [])).flatMap bytesV) := by
          have h := World.ownsRow.kept (row := none) ho ⟨hb2'.os, hb2'.tape, hb2'.output, hb2'.size, fun k hk _ => hb2'.block k hk⟩ (by cases v.ownBlock <;> simp)
          rw [List.length_map] at h
          exact h.alloc _
        have hcA : (w2.alloc (.cells (bytesV y).toArray 30)).heap[w.heap.size + 1 + 1]? = some (.cells #[v, (.func (.func 47) #[] #[])] 113 (0, 0)) := (hWA.block _ (by omega)).trans hc
        have hpl : pre.length ≤ 8 := by have := HXP.out; omega
        obtain ⟨v', w3, hr, ho3, hg3, -⟩ := run_append_own (P := Tryd.prog) (w2.alloc (.cells (bytesV y).toArray 30)) W0.heap.size 33 33 30 i0 (.agg (Array.replicate 32 (.int .u8 0))) 32 32 Tryd.underlying33 hi hz0 hz1 hz2 (by simp [Value.cells]) (by decide) v pre.length _ hOA ⟨w2.heap.size, 0, none⟩ 1 1 (bytesV y) (by rw [hbl]) (World.news_of_block (World.alloc_heap_new w2 _)) (bytesV_cell y) (by unfold maxLen; omega) (by omega) (by simp; omega)
        rw [appTreeUp_fold] at hr
        obtain ⟨p', n', c', rfl⟩ : ∃ p n c, v' = .slice p n c := by
          rcases ho3.2 with ⟨h, _⟩ | ⟨g, c, cur, h, _⟩
          · exact ⟨_, _, _, h⟩
          · exact ⟨_, _, _, h⟩
        have hrow : ∀ k, v.ownBlock = some k → w.heap.size + 5 ≤ k := fun k e => by have := (World.ownsRow.lt hOA k e).1; omega
        have eB : Below (w.heap.size + 5) W w3 := hWA.grown hg3 (by simp; omega) hrow
        have S4 := SL w3 eB
        have hc3 : w3.heap[w.heap.size + 1 + 1]? = some (.cells #[v, (.func (.func 47) #[] #[])] 113 (0, 0)) := (eB.block _ (by omega)).trans hc
        have k4 : w3.cell? ⟨w.heap.size + 1 + 1, 0, none⟩ = some v := by simp [World.cell?, hc3]
        have f4 : w3.frozen? ⟨w.heap.size + 1 + 1, 0, none⟩ = false := by simp [World.frozen?, hc3]
        have eB5 : Below (w.heap.size + 1 + 1) W (w3.setCell ⟨w.heap.size + 1 + 1, 0, none⟩ (.slice p' n' c')) := (eB.mono (B' := w.heap.size + 1 + 1) (by omega)).setCell (p := ⟨w.heap.size + 1 + 1, 0, none⟩) (Nat.le_refl _) _
        have S5 : (w3.setCell ⟨w.heap.size + 1 + 1, 0, none⟩ (.slice p' n' c')).cell? ⟨w.heap.size, 1, none⟩ = some (.func (.func 47) #[] #[]) ∧ (w3.setCell ⟨w.heap.size + 1 + 1, 0, none⟩ (.slice p' n' c')).rangeAt b (o + 64 * x) (bytesV ya) ∧ (w3.setCell ⟨w.heap.size + 1 + 1, 0, none⟩ (.slice p' n' c')).rangeAt b (o + 64 * x + 32) (bytesV yb) :=
          ⟨(eB5.cell (p := ⟨w.heap.size, 1, none⟩) (by simp; omega)).trans kj, rangeAt_lowB HX1.out (by omega) eB5, rangeAt_lowB HX2.out (by omega) eB5⟩
        have hc5 : (w3.setCell ⟨w.heap.size + 1 + 1, 0, none⟩ (.slice p' n' c')).heap[w.heap.size + 1 + 1]? = some (.cells #[.slice p' n' c', (.func (.func 47) #[] #[])] 113 (0, 0)) := by
          simp only [World.setCell]
          rw [Array.getElem?_modify, if_pos rfl, hc3]
          rfl
        have hbl5 : ∀ k, k < w.heap.size + 5 → k ≠ w.heap.size + 1 + 1 → (w3.setCell ⟨w.heap.size + 1 + 1, 0, none⟩ (.slice p' n' c')).heap[k]? = W.heap[k]? := fun k hk hne => (Below.heap_setCell _ _ _ _ hne).trans (eB.block k hk)
        refine HeldIn.all [12] (by kernel_rfl) (by simp) (HeldAll.cons rfl (by kernel_rfl) (fun K hK => ?_) HeldAll.nil)
        go_simp
        refine hK _ _ S4 ?_
        clear hK K
        refine HeldIn.all [13] (by kernel_rfl) (by simp) (HeldAll.cons rfl (by kernel_rfl) (fun K hK => ?_) HeldAll.nil)
        go_simp
        refine hK _ _ S4 ?_
        clear hK K
        refine HeldIn.all [14] (by kernel_rfl) (by simp) (HeldAll.cons rfl (by kernel_rfl) (fun K hK => ?_) HeldAll.nil)
        go_simp
        refine hK _ _ S5 ?_
        clear hK K
        refine HeldIn.done (by kernel_rfl) ?_ _
        gi_wp2
        refine ⟨(((keeps_low hb2').trans (KeepsOthers.alloc _ _)).trans ((KeepsOthers.of_grownBy hg3 (fun j o e1 e2 => by
          rcases hOA.2 with ⟨rfl, _⟩ | ⟨g, cap, cur, rfl, _, hh, _⟩
          · cases e1
          · injection e1 with e1
            simp only at e1
            subst e1
            rw [hh] at e2
            cases e2
            rfl)).trans (KeepsOthers.setCell _ _ _))).from _, ⟨eB5.size, hbl5 _ (by omega) (by omega), hbl5 _ (by omega) (by omega)⟩, ⟨_, hc5, ?_, ⟨eB5.os.trans hg0.os, eB5.tape.trans hg0.tape, eB5.output.trans hg0.output, Nat.le_trans hg0.size eB5.size, fun k hk hne => (hbl5 k (by omega) (fun e => hne (by rw [e]))).trans (hg0.block k hk hne)⟩⟩⟩
        rw [OwnH, List.map_append, List.flatMap_append, List.length_append, List.length_map, List.length_map, List.map_singleton, List.flatMap_singleton, HNX.out]
        refine World.ownsRow.kept ho3 (grownBy_setCell' w3 (w.heap.size + 1 + 1) (.slice p' n' c')) ?_
        by_cases h0 : (Value.slice p' n' c').ownBlock = none
        · exact .inl h0
        · right
          intro e
          have := (World.ownsRow.lt ho3 _ e).1
          omega
      · go_simp
        refine hK _ _ S3 ?_
        clear hK K
        refine HeldIn.all [1] (by kernel_rfl) (by simp) (HeldAll.cons rfl (by kernel_rfl) (fun K hK => ?_) HeldAll.nil)
        go_simp
        refine hK _ _ S3 ?_
        clear hK K
        have hbs2 := hb2'.size
        have hWA : Below (w.heap.size + 5) W (w2.alloc (.cells (bytesV y).toArray 30)) := (hb2'.mono (by omega)).alloc (by omega) _
        have hOA : (w2.alloc (.cells (bytesV y).toArray 30)).ownsRow W0.heap.size 30 32 v pre.length ((pre.map fun i => aboveL X kk (ls.getD (2 * i) []) (ls.getD (2 * i + 1) [])).flatMap bytesV) := by
          have h := World.ownsRow.kept (row := none) ho ⟨hb2'.os, hb2'.tape, hb2'.output, hb2'.size, fun k hk _ => hb2'.block k hk⟩ (by cases v.ownBlock <;> simp)
          rw [List.length_map] at h
          exact h.alloc _
        have hcA : (w2.alloc (.cells (bytesV y).toArray 30)).heap[w.heap.size + 1 + 1]? = some (.cells #[v, (.func (.func 47) #[] #[])] 113 (0, 0)) := (hWA.block _ (by omega)).trans hc
        have hpl : pre.length ≤ 8 := by have := HXP.out; omega
        obtain ⟨v', w3, hr, ho3, hg3, -⟩ := run_append_own (P := Tryd.prog) (w2.alloc (.cells (bytesV y).toArray 30)) W0.heap.size 33 33 30 i0 (.agg (Array.replicate 32 (.int .u8 0))) 32 32 Tryd.underlying33 hi hz0 hz1 hz2 (by simp [Value.cells]) (by decide) v pre.length _ hOA ⟨w2.heap.size, 0, none⟩ 1 1 (bytesV y) (by rw [hbl]) (World.news_of_block (World.alloc_heap_new w2 _)) (bytesV_cell y) (by unfold maxLen; omega) (by omega) (by simp; omega)
        rw [appTreeUp_fold] at hr
        obtain ⟨p', n', c', rfl⟩ : ∃ p n c, v' = .slice p n c := by
          rcases ho3.2 with ⟨h, _⟩ | ⟨g, c, cur, h, _⟩
          · exact ⟨_, _, _, h⟩
          · exact ⟨_, _, _, h⟩
        have hrow : ∀ k, v.ownBlock = some k → w.heap.size + 5 ≤ k := fun k e => by have := (World.ownsRow.lt hOA k e).1; omega
        have eB : Below (w.heap.size + 5) W w3 := hWA.grown hg3 (by simp; omega) hrow
        have S4 := SL w3 eB
        have hc3 : w3.heap[w.heap.size + 1 + 1]? = some (.cells #[v, (.func (.func 47) #[] #[])] 113 (0, 0)) := (eB.block _ (by omega)).trans hc
        have k4 : w3.cell? ⟨w.heap.size + 1 + 1, 0, none⟩ = some v := by simp [World.cell?, hc3]
        have f4 : w3.frozen? ⟨w.heap.size + 1 + 1, 0, none⟩ = false := by simp [World.frozen?, hc3]
        have eB5 : Below (w.heap.size + 1 + 1) W (w3.setCell ⟨w.heap.size + 1 + 1, 0, none⟩ (.slice p' n' c')) := (eB.mono (B' := w.heap.size + 1 + 1) (by omega)).setCell (p := ⟨w.heap.size + 1 + 1, 0, none⟩) (Nat.le_refl _) _
        have S5 : (w3.setCell ⟨w.heap.size + 1 + 1, 0, none⟩ (.slice p' n' c')).cell? ⟨w.heap.size, 1, none⟩ = some (.func (.func 47) #[] #[]) ∧ (w3.setCell ⟨w.heap.size + 1 + 1, 0, none⟩ (.slice p' n' c')).rangeAt b (o + 64 * x) (bytesV ya) ∧ (w3.setCell ⟨w.heap.size + 1 + 1, 0, none⟩ (.slice p' n' c')).rangeAt b (o + 64 * x + 32) (bytesV yb) :=
          ⟨(eB5.cell (p := ⟨w.heap.size, 1, none⟩) (by simp; omega)).trans kj, rangeAt_lowB HX1.out (by omega) eB5, rangeAt_lowB HX2.out (by omega) eB5⟩
        have hc5 : (w3.setCell ⟨w.heap.size + 1 + 1, 0, none⟩ (.slice p' n' c')).heap[w.heap.size + 1 + 1]? = some (.cells #[.slice p' n' c', (.func (.func 47) #[] #[])] 113 (0, 0)) := by
          simp only [World.setCell]
          rw [Array.getElem?_modify, if_pos rfl, hc3]
          rfl
        have hbl5 : ∀ k, k < w.heap.size + 5 → k ≠ w.heap.size + 1 + 1 → (w3.setCell ⟨w.heap.size + 1 + 1, 0, none⟩ (.slice p' n' c')).heap[k]? = W.heap[k]? := fun k hk hne => (Below.heap_setCell _ _ _ _ hne).trans (eB.block k hk)
        refine HeldIn.all [12] (by kernel_rfl) (by simp) (HeldAll.cons rfl (by kernel_rfl) (fun K hK => ?_) HeldAll.nil)
        go_simp
        refine hK _ _ S4 ?_
        clear hK K
        refine HeldIn.all [13] (by kernel_rfl) (by simp) (HeldAll.cons rfl (by kernel_rfl) (fun K hK => ?_) HeldAll.nil)
        go_simp
        refine hK _ _ S4 ?_
        clear hK K
        refine HeldIn.all [14] (by kernel_rfl) (by simp) (HeldAll.cons rfl (by kernel_rfl) (fun K hK => ?_) HeldAll.nil)
        go_simp
        refine hK _ _ S5 ?_
        clear hK K
        refine HeldIn.done (by kernel_rfl) ?_ _
        gi_wp2
        refine ⟨(((keeps_low hb2').trans (KeepsOthers.alloc _ _)).trans ((KeepsOthers.of_grownBy hg3 (fun j o e1 e2 => by
          rcases hOA.2 with ⟨rfl, _⟩ | ⟨g, cap, cur, rfl, _, hh, _⟩
          · cases e1
          · injection e1 with e1
            simp only at e1
            subst e1
            rw [hh] at e2
            cases e2
            rfl)).trans (KeepsOthers.setCell _ _ _))).from _, ⟨eB5.size, hbl5 _ (by omega) (by omega), hbl5 _ (by omega) (by omega)⟩, ⟨_, hc5, ?_, ⟨eB5.os.trans hg0.os, eB5.tape.trans hg0.tape, eB5.output.trans hg0.output, Nat.le_trans hg0.size eB5.size, fun k hk hne => (hbl5 k (by omega) (fun e => hne (by rw [e]))).trans (hg0.block k hk hne)⟩⟩⟩
        rw [OwnH, List.map_append, List.flatMap_append, List.length_append, List.length_map, List.length_map, List.map_singleton, List.flatMap_singleton, HNX.out]
        refine World.ownsRow.kept ho3 (grownBy_setCell' w3 (w.heap.size + 1 + 1) (.slice p' n' c')) ?_
        by_cases h0 : (Value.slice p' n' c').ownBlock = none
        · exact .inl h0
        · right
          intro e
          have := (World.ownsRow.lt ho3 _ e).1
          omega
  case done =>
    rintro D ys W hD rfl ⟨v, hc, ho, hg0⟩ hK
    have hUP : upL X kk ls = (List.range m).map fun i => aboveL X kk (ls.getD (2 * i) []) (ls.getD (2 * i + 1) []) := upL_eq X kk m ls HM.out
    rw [← hUP] at ho
    have hUL := upL_length X kk m ls HM.out
    have hR := ho.row (upL_each X kk m ls HM.out) (by omega)
    obtain ⟨p', n', c', rfl⟩ : ∃ p n c, v = .slice p n c := by
      obtain ⟨b', o', c', h, _⟩ := hR
      exact ⟨_, _, _, h⟩
    have hc1 : W.heap[w.heap.size + 1]? = some (.cells #[.slice none 0 0, .nilFunc] 113 (0, 0)) := (hg0.block _ (by omega) (by intro e; injection e with e; omega)).trans q1
    have k0 : W.cell? ⟨w.heap.size + 1 + 1, 0, none⟩ = some (.slice p' n' c') := by simp [World.cell?, hc]
    have k1 : W.cell? ⟨w.heap.size + 1 + 1, 1, none⟩ = some (.func (.func 47) #[] #[]) := by simp [World.cell?, hc]
    have k2 : W.cell? ⟨w.heap.size + 1, 0, none⟩ = some (.slice none 0 0) := by simp [World.cell?, hc1]
    have k3 : W.cell? ⟨w.heap.size + 1, 1, none⟩ = some .nilFunc := by simp [World.cell?, hc1]
    have f2 : W.frozen? ⟨w.heap.size + 1, 0, none⟩ = false := by simp [World.frozen?, hc1]
    have f3 : W.frozen? ⟨w.heap.size + 1, 1, none⟩ = false := by simp [World.frozen?, hc1]
    have hBW : Below w.heap.size w W := HB0.out.trans (below_grownBy hg0 (by omega) (by omega))
    have HRW := Lib.hid hR
    have HBW := Lib.hid hBW
    have hWs := hg0.size
    clear hUP hUL hR hBW
    gi_wp2
    have hX : Below (w.heap.size + 1) W ((W.setCell ⟨w.heap.size + 1, 0, none⟩ (.slice p' n' c')).setCell ⟨w.heap.size + 1, 1, none⟩ (.func (.func 47) #[] #[])) := ((Below.refl _ W).setCell (p := ⟨w.heap.size + 1, 0, none⟩) (Nat.le_refl _) _).setCell (p := ⟨w.heap.size + 1, 1, none⟩) (Nat.le_refl _) _
    have hDl : D < W.heap.size := (Array.getElem?_eq_some_iff.1 hK).1
    have hXh : ∀ k, k ≠ w.heap.size + 1 → ((W.setCell ⟨w.heap.size + 1, 0, none⟩ (.slice p' n' c')).setCell ⟨w.heap.size + 1, 1, none⟩ (.func (.func 47) #[] #[])).heap[k]? = W.heap[k]? := fun k hne => (Below.heap_setCell _ _ _ _ hne).trans (Below.heap_setCell _ _ _ _ hne)
    have hX1 : ((W.setCell ⟨w.heap.size + 1, 0, none⟩ (.slice p' n' c')).setCell ⟨w.heap.size + 1, 1, none⟩ (.func (.func 47) #[] #[])).heap[w.heap.size + 1]? = some (.cells #[.slice p' n' c', (.func (.func 47) #[] #[])] 113 (0, 0)) := by
      simp only [World.setCell]
      rw [Array.getElem?_modify, if_pos rfl, Array.getElem?_modify, if_pos rfl, hc1]
      rfl
    obtain ⟨V, hV⟩ : ∃ V, (W.setCell ⟨w.heap.size + 1, 0, none⟩ (.slice p' n' c')).setCell ⟨w.heap.size + 1, 1, none⟩ (.func (.func 47) #[] #[]) = V := ⟨_, rfl⟩
    rw [hV] at hX hXh hX1 ⊢
    have hK' : V.heap[D]? = some (.deferred (some [])) := (hXh D (by omega)).trans hK
    have hE : ∀ k, k ≠ D → (V.putObj D (.deferred none)).heap[k]? = V.heap[k]? := fun k hne => World.putObj_heap_other hne
    have hE1 := (hE (w.heap.size + 1) (by omega)).trans hX1
    have c0 : (V.putObj D (.deferred none)).cell? ⟨w.heap.size + 1, 0, none⟩ = some (.slice p' n' c') := by simp [World.cell?, hE1]
    have c1 : (V.putObj D (.deferred none)).cell? ⟨w.heap.size + 1, 1, none⟩ = some (.func (.func 47) #[] #[]) := by simp [World.cell?, hE1]
    refine ⟨by simp, .inl ⟨_, _, rfl, run_takeDeferred hK', ?_⟩⟩
    refine ⟨.agg #[.slice p' n' c', (.func (.func 47) #[] #[])], ?_, _, rfl, ?_, (HBW.out.trans (hX.mono (by omega))).trans (belowK_b (w := w) (Nat.le_refl _) _ D _ _ (by omega) hK' rfl rfl), fun b' o' n'' c'' e => ?_⟩
    · simp [results, Tryd.f48, go_sem, c0, c1]
    · obtain ⟨b', o', c'', e, hb', hcc, hr'⟩ := HRW.out
      have hgb : b' ≠ w.heap.size + 1 ∧ b' ≠ D := by
        have hlo : W0.heap.size ≤ b' := by
          rcases ho.2 with ⟨h, _⟩ | ⟨g, c, cur, h, hg, _⟩
          · rw [h] at e; cases e
          · rw [h] at e
            injection e with e1
            injection e1 with e1
            injection e1 with e1
            omega
        refine ⟨by omega, fun e' => ?_⟩
        have hul : 0 < (upL X kk ls).length := by rw [upL_length X kk m ls HM.out]; omega
        have hcell := hr' 0 hul 0
        subst e'
        have h0 : ∃ u, (bytesV ((upL X kk ls)[0]'hul))[0]? = some u := ⟨(bytesV ((upL X kk ls)[0]'hul))[0]'(by rw [bytesV_length, upL_each X kk m ls HM.out _ (List.getElem_mem _)]; omega), List.getElem?_eq_getElem _⟩
        obtain ⟨u, hu⟩ := h0
        have := hcell u hu
        unfold World.cell? at this
        simp only [hK] at this
        cases this
      exact ⟨b', o', c'', e, by have := hX.size; simp; omega, hcc, fun i hi j u hu => (World.cell?_of_block (a := ⟨b', o' + 32 * i + j, none⟩) ((hE b' hgb.2).trans (hXh b' hgb.1))).trans (hr' i hi j u hu)⟩
    · rcases ho.2 with ⟨h, _⟩ | ⟨g, c, cur, h, hg, _⟩
      · rw [h] at e; cases e
      · rw [h] at e
        injection e with e1
        injection e1 with e1
        injection e1 with e1
        omega

theorem up_any (X kk : Nat → Int) (v : Value) (ls : List (List UInt8)) (m : Nat) (hm : ls.length = 2 * m) (hm1 : 1 ≤ m) (hm8 : m ≤ 8) (hls : ∀ l ∈ ls, l.length = 32) (w : World) (hv : HRow w v ls) (hT : Tabs w X kk) :
    Calls Tryd.prog 48 #[.agg #[v, (.func (.func 47) #[] #[])]] w fun e w' => ∃ v', e = .returned (.agg #[v', (.func (.func 47) #[] #[])]) ∧ HRow w' v' (upL X kk ls) ∧ Below w.heap.size w w' := (up_fresh X kk v ls m hm hm1 hm8 hls w hv hT).mono fun e w' h => by
  obtain ⟨v', h1, h2, h3, _⟩ := h
  exact ⟨v', h1, h2, h3⟩
end Tree
end Go.Proofs.YtbgjoefpnjgdkaaDoor
