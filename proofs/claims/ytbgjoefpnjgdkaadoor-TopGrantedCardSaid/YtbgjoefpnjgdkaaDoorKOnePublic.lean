/- onetime.Public: a seed's sum. -/
import Derived.RangeFuncBox
import Derived.Test.YtbgjoefpnjgdkaaDoorJ02
import Derived.Test.YtbgjoefpnjgdkaaDoorKOneSeq
import Derived.Test.YtbgjoefpnjgdkaaDoorJ12
namespace Go.Proofs.YtbgjoefpnjgdkaaDoor
open Go.RowKit Go.Shelf
set_option linter.unusedVariables false
set_option linter.unusedSimpArgs false
set_option maxRecDepth 100000
attribute [local go_sem] Oper.semAt_some
/-- append as it stands: the walk does not open it -/
def appOnePublic (ats : Array TypeId) (ty : TypeId) (args : Array Value) : Sem Value := Builtin.append_ ats ty args
theorem appOnePublic_fold (ats : Array TypeId) (ty : TypeId) (args : Array Value) : Builtin.append_ ats ty args = appOnePublic ats ty args := rfl
attribute [local go_sem ↓] appOnePublic_fold
namespace One
open Sha Oct

def ends (X kk : Nat → Int) (seed : List UInt8) (pre : List (Fin 68)) : List UInt8 := pre.flatMap fun j => onL X kk 3 (startL X kk seed j.val)
def publicL (X kk : Nat → Int) (seed : List UInt8) : List UInt8 := sumL X kk (4 :: ends X kk seed places)
theorem ends_append (X kk : Nat → Int) (seed : List UInt8) (pre : List (Fin 68)) (j : Fin 68) : ends X kk seed (pre ++ [j]) = ends X kk seed pre ++ onL X kk 3 (startL X kk seed j.val) := by simp [ends]
theorem ends_length (X kk : Nat → Int) (seed : List UInt8) : ∀ (pre : List (Fin 68)), (ends X kk seed pre).length = 16 * pre.length
  | [] => rfl
  | j :: pre => by
    have h := ends_length X kk seed pre
    have h2 := onL_length X kk 3 (startL X kk seed j.val) (startL_length _ _ _ _)
    simp only [ends, List.flatMap_cons, List.length_append, List.length_cons] at h h2 ⊢
    omega

/-- what a round of Public meets -/
def PubI (X kk : Nat → Int) (l : List UInt8) (w : World) (pre : List (Fin 68)) (W : World) : Prop :=
  (∃ v, Boxed W (w.heap.size + 1 + 1) 96 v ∧ Bag (w.heap.size + 1) W v (4 :: ends X kk l pre)) ∧ Boxed W (w.heap.size + 1 + 1 + 1) 9 (.string ⟨l.toArray⟩) ∧ ArrB w.heap.size W (fun _ => 0) 32 ∧ Below w.heap.size w W

theorem pubI_from (X kk : Nat → Int) (l : List UInt8) (w : World) (B : Nat) (hB : w.heap.size ≤ B) : OwnFrom B (PubI X kk l w) := by
  rintro pre W W' row ⟨⟨v, c0, hv⟩, c1, hA, hb⟩ hg hr
  have hr' : ∀ r, row = some r → ∃ o : Obj, W.heap[r]? = some o ∧ o.isCells = false := fun r e => (hr r e).2
  refine ⟨⟨v, c0.kept hg (row_ne_cell c0.cell hr'), hv.from (f := fun pre => 4 :: ends X kk l pre) (by simp) hg hr'⟩, c1.kept hg (row_ne_cell c1.cell hr'), ?_, hb.grown hg hb.size (fun k e => Nat.le_trans hB (hr k e).1)⟩
  have hbl : W'.heap[w.heap.size]? = W.heap[w.heap.size]? := hg.block _ hA.size (row_ne_cell (hA.cell 0 (by omega)) hr')
  exact ⟨Nat.lt_of_lt_of_le hA.size hg.size, fun j hj => by rw [World.cell?_of_block (a := ⟨w.heap.size, j, none⟩) hbl]; exact hA.cell j hj, fun j => by rw [World.frozen?_of_block (a := ⟨w.heap.size, j, none⟩) hbl]; exact hA.froz j⟩

theorem kept_trans {n0 Bn : Nat} {A B C : World} (h : Kept n0 Bn A B) (k : Kept n0 Bn B C) : Kept n0 Bn A C := ⟨k.1.trans h.1, h.2.trans k.2⟩
theorem kept_put {n0 Bn : Nat} {w : World} (hB : Bn < w.heap.size) (hn : n0 ≤ w.heap.size) (W : World) (l : Nat) (o o' : Obj) (hl : w.heap.size ≤ l) (h : W.heap[l]? = some o) (hc : o.isCells = false) (hw : o.isWalk = false) : Kept n0 Bn W (W.putObj l o') :=
  ⟨World.putObj_heap_other (by omega), belowK_b hn W l o o' hl h hc hw⟩

set_option maxHeartbeats 4000000 in
theorem public_any (X kk : Nat → Int) (l : List UInt8) (hl : l.length ≤ 100000) (w : World) (hT : Tabs w X kk) :
    Calls Tryd.prog 13 #[.string ⟨l.toArray⟩] w fun e w' => e = .returned (.agg (bytesV (publicL X kk l)).toArray) ∧ Below w.heap.size w w' := by
  obtain ⟨i0, hi, hz0, hz1, hz2⟩ := info_parts info_u8
  have HL := Lib.hid hl
  clear hl
  refine callsIn_wide (n := 9).1 ?_
  refine callsIn_of_wp_marks Tryd.func13 rfl trivial ?_ rfl
  simp only [Tryd.ntmps13, List.size_toArray, List.length_cons, List.length_nil, Nat.reduceAdd, Nat.reduceSub, Array.replicate_succ, Array.replicate_zero, List.push_toArray, List.append_toArray, List.nil_append, List.cons_append]
  have hcv := Lib.run_convert_bytes_const (P := Tryd.prog) (w.alloc (.cells (Array.replicate 32 (.int .u8 0)) 30)) 96 5 #[.int .u8 4] 1 1 Tryd.underlying96 Tryd.underlying5
  rw [World.size_alloc] at hcv
  rw [show (Array.replicate 32 (Value.int .u8 0)) = #[.int .u8 0, .int .u8 0, .int .u8 0, .int .u8 0, .int .u8 0, .int .u8 0, .int .u8 0, .int .u8 0, .int .u8 0, .int .u8 0, .int .u8 0, .int .u8 0, .int .u8 0, .int .u8 0, .int .u8 0, .int .u8 0, .int .u8 0, .int .u8 0, .int .u8 0, .int .u8 0, .int .u8 0, .int .u8 0, .int .u8 0, .int .u8 0, .int .u8 0, .int .u8 0, .int .u8 0, .int .u8 0, .int .u8 0, .int .u8 0, .int .u8 0, .int .u8 0] from rfl] at hcv
  gi_wp2_with fail
  refine ⟨trivial, (starts_in Fence.wide 8 trivial rfl l _).mono ?_⟩
  rintro e1 w1 ⟨rfl, rfl⟩
  gi_wp2_with fail
  try simp only [World.size_alloc]
  have hpos := hT.k.size
  have hpos' := hT.x.size
  have HT := Lib.hid hT
  have a0 := ArrB.zeros w 32 _ 30 rfl
  rw [show (Array.replicate 32 (Value.int .u8 0)) = #[.int .u8 0, .int .u8 0, .int .u8 0, .int .u8 0, .int .u8 0, .int .u8 0, .int .u8 0, .int .u8 0, .int .u8 0, .int .u8 0, .int .u8 0, .int .u8 0, .int .u8 0, .int .u8 0, .int .u8 0, .int .u8 0, .int .u8 0, .int .u8 0, .int .u8 0, .int .u8 0, .int .u8 0, .int .u8 0, .int .u8 0, .int .u8 0, .int .u8 0, .int .u8 0, .int .u8 0, .int .u8 0, .int .u8 0, .int .u8 0, .int .u8 0, .int .u8 0] from rfl] at a0
  have B0 := (Below.refl w.heap.size w).alloc (Nat.le_refl _) (.cells #[.int .u8 0, .int .u8 0, .int .u8 0, .int .u8 0, .int .u8 0, .int .u8 0, .int .u8 0, .int .u8 0, .int .u8 0, .int .u8 0, .int .u8 0, .int .u8 0, .int .u8 0, .int .u8 0, .int .u8 0, .int .u8 0, .int .u8 0, .int .u8 0, .int .u8 0, .int .u8 0, .int .u8 0, .int .u8 0, .int .u8 0, .int .u8 0, .int .u8 0, .int .u8 0, .int .u8 0, .int .u8 0, .int .u8 0, .int .u8 0, .int .u8 0, .int .u8 0] 30)
  have z0 := World.size_alloc w (.cells #[.int .u8 0, .int .u8 0, .int .u8 0, .int .u8 0, .int .u8 0, .int .u8 0, .int .u8 0, .int .u8 0, .int .u8 0, .int .u8 0, .int .u8 0, .int .u8 0, .int .u8 0, .int .u8 0, .int .u8 0, .int .u8 0, .int .u8 0, .int .u8 0, .int .u8 0, .int .u8 0, .int .u8 0, .int .u8 0, .int .u8 0, .int .u8 0, .int .u8 0, .int .u8 0, .int .u8 0, .int .u8 0, .int .u8 0, .int .u8 0, .int .u8 0, .int .u8 0] 30)
  generalize w.alloc (.cells #[.int .u8 0, .int .u8 0, .int .u8 0, .int .u8 0, .int .u8 0, .int .u8 0, .int .u8 0, .int .u8 0, .int .u8 0, .int .u8 0, .int .u8 0, .int .u8 0, .int .u8 0, .int .u8 0, .int .u8 0, .int .u8 0, .int .u8 0, .int .u8 0, .int .u8 0, .int .u8 0, .int .u8 0, .int .u8 0, .int .u8 0, .int .u8 0, .int .u8 0, .int .u8 0, .int .u8 0, .int .u8 0, .int .u8 0, .int .u8 0, .int .u8 0, .int .u8 0] 30) = wa at *
  have l0 : Bag (w.heap.size + 1) (wa.alloc (.cells #[.int .u8 4] 5 (1, 2))) (.slice (some ⟨w.heap.size + 1, 0, none⟩) 1 1) [4] := Bag.literal wa [4] #[.int .u8 4] 5 1 (w.heap.size + 1) (w.heap.size + 1) z0 (Nat.le_refl _) rfl (by simp) 2
  have a1 := a0.below ((Below.refl _ _).alloc (Nat.le_refl _) (.cells #[.int .u8 4] 5 (1, 2)))
  have B1 := B0.alloc (by omega) (.cells #[.int .u8 4] 5 (1, 2))
  have z1 := World.size_alloc wa (.cells #[.int .u8 4] 5 (1, 2))
  rw [z0] at z1
  generalize wa.alloc (.cells #[.int .u8 4] 5 (1, 2)) = wb at *
  have b0 := (Boxed.new wb 96 (.slice (some ⟨w.heap.size + 1, 0, none⟩) 1 1)).alloc (.cells #[.string ⟨l.toArray⟩] 9)
  have b1 := Boxed.new (wb.alloc (.cells #[.slice (some ⟨w.heap.size + 1, 0, none⟩) 1 1] 96)) 9 (.string ⟨l.toArray⟩)
  have l2 := (l0.alloc (.cells #[.slice (some ⟨w.heap.size + 1, 0, none⟩) 1 1] 96)).alloc (.cells #[.string ⟨l.toArray⟩] 9)
  have a2 := (a1.below ((Below.refl _ _).alloc (Nat.le_refl _) (.cells #[.slice (some ⟨w.heap.size + 1, 0, none⟩) 1 1] 96))).below ((Below.refl _ _).alloc (Nat.le_refl _) (.cells #[.string ⟨l.toArray⟩] 9))
  have B2 := (B1.alloc (by omega) (.cells #[.slice (some ⟨w.heap.size + 1, 0, none⟩) 1 1] 96)).alloc (by simp; omega) (.cells #[.string ⟨l.toArray⟩] 9)
  have z2 : ((wb.alloc (.cells #[.slice (some ⟨w.heap.size + 1, 0, none⟩) 1 1] 96)).alloc (.cells #[.string ⟨l.toArray⟩] 9)).heap.size = w.heap.size + 4 := by simp; omega
  rw [World.size_alloc] at b1
  rw [z1] at b0 b1
  generalize (wb.alloc (.cells #[.slice (some ⟨w.heap.size + 1, 0, none⟩) 1 1] 96)).alloc (.cells #[.string ⟨l.toArray⟩] 9) = W0 at *
  clear hcv a0 a1 l0 B0 B1 z0 z1 hT
  have hmo : Tryd.prog.follows .mixedOrders = true := by kernel_rfl
  refine wpIn_rangeFunc_ownG rfl (by omega) (gf := 93) (lb := #[.pointer (some ⟨w.heap.size + 1 + 1 + 1, 0, none⟩)]) rfl trivial (enters_of Tryd.func93 (by kernel_rfl) rfl)
    (starts_stops X kk 8 (by omega) (w.heap.size + 1 + 1 + 1) w.heap.size l HL.out hpos hpos' W0 (by omega) (by omega) b1.cell (HT.out.below rfl B2)) (fun h1 h2 => kept_trans h1 h2) (fun W l' o o' => kept_put (by omega) (by omega) W l' o o') (Below.refl _ _) (fun _ => rfl)
    (PubI X kk l w) (fun _ _ _ => False) (pubI_from X kk l w _ (by omega)) (fun _ _ _ _ _ hs _ _ => hs) ⟨⟨_, b0, by simpa [ends] using l2⟩, b1, a2, B2⟩
    (fun j => { tmps := #[.string ⟨l.toArray⟩, undef, .pointer (some ⟨w.heap.size, 0, none⟩), .pointer (some ⟨w.heap.size + 1 + 1, 0, none⟩), undef, .string ⟨(startL X kk l j.val).toArray⟩, .slice (some ⟨w.heap.size + 1, 0, none⟩) 1 1, .slice (some ⟨w.heap.size + 1, 0, none⟩) 1 1, .string ⟨l.toArray⟩, .func (.func 93) #[] #[.pointer (some ⟨w.heap.size + 1 + 1 + 1, 0, none⟩)], .int .i64 (j.val : Int), .string ⟨(startL X kk l j.val).toArray⟩, undef, undef, undef, undef, undef, undef, undef], defers := [] }) ?assign ?body ?done ?stop
  case assign =>
    intro lp x W K hK
    gi_wp2
    exact hK
  case body =>
    rintro lp pre x W ⟨⟨v, c0, hv⟩, c1, hA, hB⟩ hlt
    have hsl := startL_length X kk l x.val
    have HON := Lib.hid (fun (W' : World) (h : Below w.heap.size w W') => on_any X kk (startL X kk l x.val) 3 (by omega) (by omega) W' (HT.out.below rfl h))
    have HEA := Lib.hid (ends_append X kk l pre x)
    have HEL := Lib.hid (ends_length X kk l pre)
    have hol := onL_length X kk 3 (startL X kk l x.val) hsl
    generalize onL X kk 3 (startL X kk l x.val) = y at *
    generalize startL X kk l x.val = s0 at *
    have k0 := c0.cell
    gi_wp2
    have k0d : W.drew.cell? ⟨w.heap.size + 1 + 1, 0, none⟩ = some v := k0
    refine wpIn_region_held (fun _ => True) hmo ?_
    refine HeldIn.take (Plainly.of (by kernel_rfl)) 1 _ (.string ⟨s0.toArray⟩) rfl (by kernel_rfl) (by kernel_rfl) (fun _ _ _ h => h) trivial ⟨by kernel_rfl, fun w _ => by go_simp, fun _ => rfl⟩ ?_
    go_simp
    refine HeldIn.all [0, 2] (by kernel_rfl) (by simp) (HeldAll.cons rfl (by kernel_rfl) (fun K hK => ?_) (HeldAll.cons rfl (by kernel_rfl) (fun K hK => ?_) HeldAll.nil))
    · go_simp
      refine hK _ _ trivial ?_
      clear hK K
      refine HeldIn.all [2] (by kernel_rfl) (by simp) (HeldAll.cons rfl (by kernel_rfl) (fun K hK => ?_) HeldAll.nil)
      go_simp
      refine ⟨trivial, ((callsIn_wide.2 (HON.out _ hB.drew)).inRound lp).mono ?_⟩
      rintro e2 w2 ⟨rfl, hb2⟩
      refine hK _ _ trivial ?_
      clear hK K
      have hb2' : Below W.heap.size W w2 := (Below.refl W.heap.size W).drew.trans hb2
      have d0 := boxed_low c0 hb2'
      have d1 := boxed_low c1 hb2'
      have dA := hA.below hb2'
      have dv := hv.below hb2'
      have dB := hB.trans (hb2'.mono hB.size)
      have hs2 := dB.size
      have k2 := d0.cell
      have f2 := d0.frozen
      have l3 := d1.lt
      have hne0 := dv.ne_box (by simp) k2 (by rcases dv with ⟨rfl, h⟩ | ⟨g, c, rfl, _⟩ <;> intro c' h' <;> cases h')
      have hne1 := dv.ne_box (by simp) d1.cell (by intro c h; cases h)
      obtain ⟨v', w3, hr, dv', hg'⟩ := dv.append_string (by omega) 96 ⟨y.toArray⟩ (by have := HEL.out; simp [ByteArray.size]; omega)
      rw [appOnePublic_fold] at hr
      obtain ⟨p', n', c', rfl⟩ : ∃ p n c, v' = .slice p n c := by
        obtain ⟨g, c, h, _⟩ := dv'.form (by simp)
        exact ⟨_, _, _, h⟩
      have e0 := d0.kept hg' hne0.symm
      have e1 := d1.kept hg' hne1.symm
      have eA : ArrB w.heap.size w3 (fun _ => 0) 32 := by
        have hneA : some w.heap.size ≠ v.ownBlock := by
          intro e
          have := dv.lt _ e.symm
          omega
        have hbl : w3.heap[w.heap.size]? = w2.heap[w.heap.size]? := hg'.block _ dA.size hneA
        exact ⟨Nat.lt_of_lt_of_le dA.size hg'.size, fun j hj => by rw [World.cell?_of_block (a := ⟨w.heap.size, j, none⟩) hbl]; exact dA.cell j hj, fun j => by rw [World.frozen?_of_block (a := ⟨w.heap.size, j, none⟩) hbl]; exact dA.froz j⟩
      have eB : Below w.heap.size w w3 := dB.grown hg' hs2 (fun k e => by have := dv.lt k e; omega)
      have hko : KeepsOthers W w3 := (keeps_low hb2').trans (KeepsOthers.of_grownBy hg' (fun j o e1 e2 => by
        have h1 := dv.lt j e1
        rcases dv with ⟨rfl, h⟩ | ⟨g, c, rfl, _, _, _, hc, _⟩
        · cases e1
        · injection e1 with e1
          simp only at e1
          subst e1
          have h0 := hc 0 (by simp)
          unfold World.cell? at h0
          simp only [e2] at h0
          cases o <;> simp_all [Obj.isCells]))
      have k3 := e0.cell
      have f3 := e0.frozen
      refine HeldIn.all [3] (by kernel_rfl) (by simp) (HeldAll.cons rfl (by kernel_rfl) (fun K hK => ?_) HeldAll.nil)
      go_simp
      refine hK _ _ trivial ?_
      clear hK K
      refine HeldIn.all [4] (by kernel_rfl) (by simp) (HeldAll.cons rfl (by kernel_rfl) (fun K hK => ?_) HeldAll.nil)
      go_simp
      refine hK _ _ trivial ?_
      clear hK K
      refine HeldIn.done (by kernel_rfl) ?_ _
      gi_wp2
      have hne3 : (Value.slice p' n' c').ownBlock ≠ some (w.heap.size + 1 + 1) := dv'.ne_box (by simp) k3 (by
        rcases hv with ⟨rfl, h⟩ | ⟨g, c, rfl, _⟩ <;> intro c' h' <;> cases h')
      refine ⟨(hko.trans (KeepsOthers.setCell _ _ _)).from _, ⟨?_, ?_⟩, ⟨⟨_, e0.set _, ?_⟩, e1.other (by omega) _, eA.far (by omega) _ _, eB.setCell (p := ⟨w.heap.size + 1 + 1, 0, none⟩) (by simp; omega) _⟩⟩
      · exact (e1.other (by omega) _).trans c1.symm
      · exact (((hb2'.mono hB.size).grown hg' hs2 (fun k e => by have := dv.lt k e; omega))).setCell (p := ⟨w.heap.size + 1 + 1, 0, none⟩) (by simp; omega) _
      · rw [HEA.out]
        have h5 := dv'.kept (grownBy_setCell' w3 (w.heap.size + 1 + 1) (.slice p' n' c')) (.inr hne3)
        exact h5
    · go_simp
      refine ⟨trivial, ((callsIn_wide.2 (HON.out _ hB.drew)).inRound lp).mono ?_⟩
      rintro e2 w2 ⟨rfl, hb2⟩
      have k2 := (boxed_low c0 ((Below.refl W.heap.size W).drew.trans hb2)).cell
      refine hK _ _ trivial ?_
      clear hK K
      refine HeldIn.all [0] (by kernel_rfl) (by simp) (HeldAll.cons rfl (by kernel_rfl) (fun K hK => ?_) HeldAll.nil)
      go_simp
      refine hK _ _ trivial ?_
      clear hK K
      have hb2' : Below W.heap.size W w2 := (Below.refl W.heap.size W).drew.trans hb2
      have d0 := boxed_low c0 hb2'
      have d1 := boxed_low c1 hb2'
      have dA := hA.below hb2'
      have dv := hv.below hb2'
      have dB := hB.trans (hb2'.mono hB.size)
      have hs2 := dB.size
      have k2 := d0.cell
      have f2 := d0.frozen
      have l3 := d1.lt
      have hne0 := dv.ne_box (by simp) k2 (by rcases dv with ⟨rfl, h⟩ | ⟨g, c, rfl, _⟩ <;> intro c' h' <;> cases h')
      have hne1 := dv.ne_box (by simp) d1.cell (by intro c h; cases h)
      obtain ⟨v', w3, hr, dv', hg'⟩ := dv.append_string (by omega) 96 ⟨y.toArray⟩ (by have := HEL.out; simp [ByteArray.size]; omega)
      rw [appOnePublic_fold] at hr
      obtain ⟨p', n', c', rfl⟩ : ∃ p n c, v' = .slice p n c := by
        obtain ⟨g, c, h, _⟩ := dv'.form (by simp)
        exact ⟨_, _, _, h⟩
      have e0 := d0.kept hg' hne0.symm
      have e1 := d1.kept hg' hne1.symm
      have eA : ArrB w.heap.size w3 (fun _ => 0) 32 := by
        have hneA : some w.heap.size ≠ v.ownBlock := by
          intro e
          have := dv.lt _ e.symm
          omega
        have hbl : w3.heap[w.heap.size]? = w2.heap[w.heap.size]? := hg'.block _ dA.size hneA
        exact ⟨Nat.lt_of_lt_of_le dA.size hg'.size, fun j hj => by rw [World.cell?_of_block (a := ⟨w.heap.size, j, none⟩) hbl]; exact dA.cell j hj, fun j => by rw [World.frozen?_of_block (a := ⟨w.heap.size, j, none⟩) hbl]; exact dA.froz j⟩
      have eB : Below w.heap.size w w3 := dB.grown hg' hs2 (fun k e => by have := dv.lt k e; omega)
      have hko : KeepsOthers W w3 := (keeps_low hb2').trans (KeepsOthers.of_grownBy hg' (fun j o e1 e2 => by
        have h1 := dv.lt j e1
        rcases dv with ⟨rfl, h⟩ | ⟨g, c, rfl, _, _, _, hc, _⟩
        · cases e1
        · injection e1 with e1
          simp only at e1
          subst e1
          have h0 := hc 0 (by simp)
          unfold World.cell? at h0
          simp only [e2] at h0
          cases o <;> simp_all [Obj.isCells]))
      have k3 := e0.cell
      have f3 := e0.frozen
      refine HeldIn.all [3] (by kernel_rfl) (by simp) (HeldAll.cons rfl (by kernel_rfl) (fun K hK => ?_) HeldAll.nil)
      go_simp
      refine hK _ _ trivial ?_
      clear hK K
      refine HeldIn.all [4] (by kernel_rfl) (by simp) (HeldAll.cons rfl (by kernel_rfl) (fun K hK => ?_) HeldAll.nil)
      go_simp
      refine hK _ _ trivial ?_
      clear hK K
      refine HeldIn.done (by kernel_rfl) ?_ _
      gi_wp2
      have hne3 : (Value.slice p' n' c').ownBlock ≠ some (w.heap.size + 1 + 1) := dv'.ne_box (by simp) k3 (by
        rcases hv with ⟨rfl, h⟩ | ⟨g, c, rfl, _⟩ <;> intro c' h' <;> cases h')
      refine ⟨(hko.trans (KeepsOthers.setCell _ _ _)).from _, ⟨?_, ?_⟩, ⟨⟨_, e0.set _, ?_⟩, e1.other (by omega) _, eA.far (by omega) _ _, eB.setCell (p := ⟨w.heap.size + 1 + 1, 0, none⟩) (by simp; omega) _⟩⟩
      · exact (e1.other (by omega) _).trans c1.symm
      · exact (((hb2'.mono hB.size).grown hg' hs2 (fun k e => by have := dv.lt k e; omega))).setCell (p := ⟨w.heap.size + 1 + 1, 0, none⟩) (by simp; omega) _
      · rw [HEA.out]
        have h5 := dv'.kept (grownBy_setCell' w3 (w.heap.size + 1 + 1) (.slice p' n' c')) (.inr hne3)
        exact h5
  case done =>
    rintro D ys W hD rfl ⟨⟨v, c0, hv⟩, c1, hA, hB⟩ hK
    have k0 := c0.cell
    have hc := hv.conv
    have HSM := Lib.hid (sum_any ⟨(4 :: ends X kk l places).toArray⟩ X kk W (HT.out.below rfl hB))
    gi_wp2_with fail
    refine ⟨trivial, (callsIn_wide.2 HSM.out).mono ?_⟩
    rintro e2 w2 ⟨rfl, hb2⟩
    have dA := hA.below hb2
    have dB := hB.trans (hb2.mono hB.size)
    obtain ⟨cs, hcs⟩ : ∃ cs, cs = bytesV (sumL X kk (4 :: ends X kk l places)) := ⟨_, rfl⟩
    rw [← hcs]
    have hl : cs.length = 32 := by rw [hcs, bytesV_length]; exact sumL_length _ _ _
    have ht : w2.there w.heap.size 0 cs.toArray.size := by
      intro j hj
      rw [List.size_toArray, hl] at hj
      rw [Nat.zero_add, dA.cell j hj]
      exact ⟨rfl, dA.froz j⟩
    have hi' : (Tryd.prog.info? 30).map (·.size) = some cs.toArray.size := by rw [List.size_toArray, hl]; kernel_rfl
    have hi3 : (Tryd.prog.info? 30).map (·.size) = some cs.length := by rw [hl]; kernel_rfl
    have h1 : cs.toArray.all (·.oneCell') = true := by rw [hcs]; exact bytesV_one _
    have hst := run_storeCells_cells (P := Tryd.prog) w.heap.size 0 cs 0 w2 (fun j hj => by rw [Nat.zero_add, ]; have := (ht j (by rw [List.size_toArray]; exact hj)).1; simpa using this) (fun j hj => by have := (ht j (by rw [List.size_toArray]; exact hj)).2; simpa using this) (by rw [hcs]; exact bytesV_cell _)
    rw [Nat.zero_add] at hst
    have HCS := Lib.hid hcs
    have HT5 := Lib.hid ht
    have HI3 := Lib.hid hi3
    have HI' := Lib.hid hi'
    have H1 := Lib.hid h1
    have HS := Lib.hid (World.rangeAt_setCells_same w2 w.heap.size 0 cs (by rw [← List.size_toArray]; exact ht))
    clear ht hi' h1 hcs hi3
    gi_wp2
    have hDl : D < W.heap.size := (Array.getElem?_eq_some_iff.1 hK).1
    have hg6 := bag_sets w.heap.size cs 0 w2 w2 ⟨rfl, rfl, rfl, Nat.le_refl _, fun _ _ _ => rfl⟩
    have hK' : (w2.setCells w.heap.size 0 cs).heap[D]? = some (.deferred (some [])) := (hg6.block D (Nat.lt_of_lt_of_le hDl hb2.size) (by intro e; injection e with e; omega)).trans ((hb2.block D hDl).trans hK)
    have B6 : Below w.heap.size w (w2.setCells w.heap.size 0 cs) := dB.grown hg6 dB.size (fun k e => by injection e with e; omega)
    have B7 : Below w.heap.size w ((w2.setCells w.heap.size 0 cs).putObj D (.deferred none)) := B6.trans (belowK_b (w := w) (Nat.le_refl _) _ D _ _ (by omega) hK' rfl rfl)
    have R7 : ((w2.setCells w.heap.size 0 cs).putObj D (.deferred none)).rangeAt w.heap.size 0 cs := fun j v hv =>
      (World.cell?_of_block (a := ⟨w.heap.size, 0 + j, none⟩) (World.putObj_heap_other (show w.heap.size ≠ D by omega))).trans (HS.out j v hv)
    refine ⟨by simp, .inl ⟨_, _, rfl, run_takeDeferred hK', ?_⟩⟩
    refine ⟨.agg cs.toArray, ?_, ?_, B7⟩
    · exact results_cell Tryd.results13 _ _ _ w.heap.size cs rfl (run_loadVar_mid _ w.heap.size 0 30 cs _ R7 Tryd.underlying30 rfl HI3.out)
    · rw [HCS.out]; rfl
  case stop =>
    rintro D c pre W _ _ h _
    exact h.elim
end One
end Go.Proofs.YtbgjoefpnjgdkaaDoor
