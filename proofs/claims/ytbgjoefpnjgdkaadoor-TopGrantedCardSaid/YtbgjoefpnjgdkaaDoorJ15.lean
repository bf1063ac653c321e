/- Joined of 2 texts: their lemmas, one behind the other; each says below what it holds. -/
import Derived.RangeFuncBox
import Derived.Test.YtbgjoefpnjgdkaaDoorJ02
import Derived.Test.YtbgjoefpnjgdkaaDoorJ13
import Derived.Test.YtbgjoefpnjgdkaaDoorKOctGets
/- onetime.Public: a seed's sum. -/
namespace Go.Proofs.YtbgjoefpnjgdkaaDoor
open Go.RowKit Go.Shelf
set_option linter.unusedVariables false
set_option linter.unusedSimpArgs false
set_option maxRecDepth 100000
attribute [local go_sem] Oper.semAt_some
attribute [-go_sem] Builtin.append_
namespace One
open Sha Oct

def ends (X kk : Nat → Int) (seed : List UInt8) (pre : List (Fin 68)) : List UInt8 := pre.flatMap fun j => onL X kk 3 (startL X kk seed j.val)
def publicL (X kk : Nat → Int) (seed : List UInt8) : List UInt8 := sumL X kk (4 :: ends X kk seed places)
theorem ends_append (X kk : Nat → Int) (seed : List UInt8) (pre : List (Fin 68)) (j : Fin 68) : ends X kk seed (pre ++ [j]) = ends X kk seed pre ++ onL X kk 3 (startL X kk seed j.val) := by simp [ends]
theorem ends_length (X kk : Nat → Int) (seed : List UInt8) : ∀ (pre : List (Fin 68)), (ends X kk seed pre).length = 16 * pre.length
  | [] => rfl
  | j :: pre => by
    have h := ends_length X kk seed pre
    have h2 := onL_length X kk 3 (startL X kk seed j.val) (startL_length _ _ _ _)
    simp only [ends, List.flatMap_cons, List.length_append, List.length_cons] at h h2 ⊢
    omega

/-- what a round of Public meets -/
def PubI (X kk : Nat → Int) (l : List UInt8) (w : World) (pre : List (Fin 68)) (W : World) : Prop :=
  (∃ v, Boxed W (w.heap.size + 1 + 1) 96 v ∧ Bag (w.heap.size + 1) W v (4 :: ends X kk l pre)) ∧ Boxed W (w.heap.size + 1 + 1 + 1) 9 (.string ⟨l.toArray⟩) ∧ ArrB w.heap.size W (fun _ => 0) 32 ∧ Below w.heap.size w W

theorem pubI_from (X kk : Nat → Int) (l : List UInt8) (w : World) (B : Nat) (hB : w.heap.size ≤ B) : OwnFrom B (PubI X kk l w) := by
  rintro pre W W' row ⟨⟨v, c0, hv⟩, c1, hA, hb⟩ hg hr
  have hr' : ∀ r, row = some r → ∃ o : Obj, W.heap[r]? = some o ∧ o.isCells = false := fun r e => (hr r e).2
  refine ⟨⟨v, c0.kept hg (row_ne_cell c0.cell hr'), hv.from (f := fun pre => 4 :: ends X kk l pre) (by simp) hg hr'⟩, c1.kept hg (row_ne_cell c1.cell hr'), ?_, hb.grown hg hb.size (fun k e => Nat.le_trans hB (hr k e).1)⟩
  have hbl : W'.heap[w.heap.size]? = W.heap[w.heap.size]? := hg.block _ hA.size (row_ne_cell (hA.cell 0 (by omega)) hr')
  exact ⟨Nat.lt_of_lt_of_le hA.size hg.size, fun j hj => by rw [World.cell?_of_block (a := ⟨w.heap.size, j, none⟩) hbl]; exact hA.cell j hj, fun j => by rw [World.frozen?_of_block (a := ⟨w.heap.size, j, none⟩) hbl]; exact hA.froz j⟩

theorem kept_trans {n0 Bn : Nat} {A B C : World} (h : Kept n0 Bn A B) (k : Kept n0 Bn B C) : Kept n0 Bn A C := ⟨k.1.trans h.1, h.2.trans k.2⟩
theorem kept_put {n0 Bn : Nat} {w : World} (hB : Bn < w.heap.size) (hn : n0 ≤ w.heap.size) (W : World) (l : Nat) (o o' : Obj) (hl : w.heap.size ≤ l) (h : W.heap[l]? = some o) (hc : o.isCells = false) (hw : o.isWalk = false) : Kept n0 Bn W (W.putObj l o') :=
  ⟨World.putObj_heap_other (by omega), belowK_b hn W l o o' hl h hc hw⟩

set_option maxHeartbeats 4000000 in
theorem public_any (X kk : Nat → Int) (l : List UInt8) (hl : l.length ≤ 100000) (w : World) (hT : Tabs w X kk) :
    Calls Tryd.prog 13 #[.string ⟨l.toArray⟩] w fun e w' => e = .returned (.agg (bytesV (publicL X kk l)).toArray) ∧ Below w.heap.size w w' := by
  obtain ⟨i0, hi, hz0, hz1, hz2⟩ := info_parts info_u8
  have HL := Lib.hid hl
  clear hl
  refine callsIn_wide (n := 9).1 ?_
  refine callsIn_of_wp_marks Tryd.func13 rfl trivial ?_ rfl
  simp only [Tryd.ntmps13, List.size_toArray, List.length_cons, List.length_nil, Nat.reduceAdd, Nat.reduceSub, Array.replicate_succ, Array.replicate_zero, List.push_toArray, List.append_toArray, List.nil_append, List.cons_append]
  have hcv := Lib.run_convert_bytes_const (P := Tryd.prog) (w.alloc (.cells (Array.replicate 32 (.int .u8 0)) 30)) 96 5 #[.int .u8 4] 1 1 Tryd.underlying96 Tryd.underlying5
  rw [World.size_alloc] at hcv
  rw [show (Array.replicate 32 (Value.int .u8 0)) = #[.int .u8 0, .int .u8 0, .int .u8 0, .int .u8 0, .int .u8 0, .int .u8 0, .int .u8 0, .int .u8 0, .int .u8 0, .int .u8 0, .int .u8 0, .int .u8 0, .int .u8 0, .int .u8 0, .int .u8 0, .int .u8 0, .int .u8 0, .int .u8 0, .int .u8 0, .int .u8 0, .int .u8 0, .int .u8 0, .int .u8 0, .int .u8 0, .int .u8 0, .int .u8 0, .int .u8 0, .int .u8 0, .int .u8 0, .int .u8 0, .int .u8 0, .int .u8 0] from rfl] at hcv
  gi_wp2_with fail
  refine ⟨trivial, (starts_in Fence.wide 8 trivial rfl l _).mono ?_⟩
  rintro e1 w1 ⟨rfl, rfl⟩
  gi_wp2_with fail
  try simp only [World.size_alloc]
  have hpos := hT.k.size
  have hpos' := hT.x.size
  have HT := Lib.hid hT
  have a0 := ArrB.zeros w 32 _ 30 rfl
  rw [show (Array.replicate 32 (Value.int .u8 0)) = #[.int .u8 0, .int .u8 0, .int .u8 0, .int .u8 0, .int .u8 0, .int .u8 0, .int .u8 0, .int .u8 0, .int .u8 0, .int .u8 0, .int .u8 0, .int .u8 0, .int .u8 0, .int .u8 0, .int .u8 0, .int .u8 0, .int .u8 0, .int .u8 0, .int .u8 0, .int .u8 0, .int .u8 0, .int .u8 0, .int .u8 0, .int .u8 0, .int .u8 0, .int .u8 0, .int .u8 0, .int .u8 0, .int .u8 0, .int .u8 0, .int .u8 0, .int .u8 0] from rfl] at a0
  have B0 := (Below.refl w.heap.size w).alloc (Nat.le_refl _) (.cells #[.int .u8 0, .int .u8 0, .int .u8 0, .int .u8 0, .int .u8 0, .int .u8 0, .int .u8 0, .int .u8 0, .int .u8 0, .int .u8 0, .int .u8 0, .int .u8 0, .int .u8 0, .int .u8 0, .int .u8 0, .int .u8 0, .int .u8 0, .int .u8 0, .int .u8 0, .int .u8 0, .int .u8 0, .int .u8 0, .int .u8 0, .int .u8 0, .int .u8 0, .int .u8 0, .int .u8 0, .int .u8 0, .int .u8 0, .int .u8 0, .int .u8 0, .int .u8 0] 30)
  have z0 := World.size_alloc w (.cells #[.int .u8 0, .int .u8 0, .int .u8 0, .int .u8 0, .int .u8 0, .int .u8 0, .int .u8 0, .int .u8 0, .int .u8 0, .int .u8 0, .int .u8 0, .int .u8 0, .int .u8 0, .int .u8 0, .int .u8 0, .int .u8 0, .int .u8 0, .int .u8 0, .int .u8 0, .int .u8 0, .int .u8 0, .int .u8 0, .int .u8 0, .int .u8 0, .int .u8 0, .int .u8 0, .int .u8 0, .int .u8 0, .int .u8 0, .int .u8 0, .int .u8 0, .int .u8 0] 30)
  generalize w.alloc (.cells #[.int .u8 0, .int .u8 0, .int .u8 0, .int .u8 0, .int .u8 0, .int .u8 0, .int .u8 0, .int .u8 0, .int .u8 0, .int .u8 0, .int .u8 0, .int .u8 0, .int .u8 0, .int .u8 0, .int .u8 0, .int .u8 0, .int .u8 0, .int .u8 0, .int .u8 0, .int .u8 0, .int .u8 0, .int .u8 0, .int .u8 0, .int .u8 0, .int .u8 0, .int .u8 0, .int .u8 0, .int .u8 0, .int .u8 0, .int .u8 0, .int .u8 0, .int .u8 0] 30) = wa at *
  have l0 : Bag (w.heap.size + 1) (wa.alloc (.cells #[.int .u8 4] 5 (1, 2))) (.slice (some ⟨w.heap.size + 1, 0, none⟩) 1 1) [4] := Bag.literal wa [4] #[.int .u8 4] 5 1 (w.heap.size + 1) (w.heap.size + 1) z0 (Nat.le_refl _) rfl (by simp) 2
  have a1 := a0.below ((Below.refl _ _).alloc (Nat.le_refl _) (.cells #[.int .u8 4] 5 (1, 2)))
  have B1 := B0.alloc (by omega) (.cells #[.int .u8 4] 5 (1, 2))
  have z1 := World.size_alloc wa (.cells #[.int .u8 4] 5 (1, 2))
  rw [z0] at z1
  generalize wa.alloc (.cells #[.int .u8 4] 5 (1, 2)) = wb at *
  have b0 := (Boxed.new wb 96 (.slice (some ⟨w.heap.size + 1, 0, none⟩) 1 1)).alloc (.cells #[.string ⟨l.toArray⟩] 9)
  have b1 := Boxed.new (wb.alloc (.cells #[.slice (some ⟨w.heap.size + 1, 0, none⟩) 1 1] 96)) 9 (.string ⟨l.toArray⟩)
  have l2 := (l0.alloc (.cells #[.slice (some ⟨w.heap.size + 1, 0, none⟩) 1 1] 96)).alloc (.cells #[.string ⟨l.toArray⟩] 9)
  have a2 := (a1.below ((Below.refl _ _).alloc (Nat.le_refl _) (.cells #[.slice (some ⟨w.heap.size + 1, 0, none⟩) 1 1] 96))).below ((Below.refl _ _).alloc (Nat.le_refl _) (.cells #[.string ⟨l.toArray⟩] 9))
  have B2 := (B1.alloc (by omega) (.cells #[.slice (some ⟨w.heap.size + 1, 0, none⟩) 1 1] 96)).alloc (by simp; omega) (.cells #[.string ⟨l.toArray⟩] 9)
  have z2 : ((wb.alloc (.cells #[.slice (some ⟨w.heap.size + 1, 0, none⟩) 1 1] 96)).alloc (.cells #[.string ⟨l.toArray⟩] 9)).heap.size = w.heap.size + 4 := by simp; omega
  rw [World.size_alloc] at b1
  rw [z1] at b0 b1
  generalize (wb.alloc (.cells #[.slice (some ⟨w.heap.size + 1, 0, none⟩) 1 1] 96)).alloc (.cells #[.string ⟨l.toArray⟩] 9) = W0 at *
  clear hcv a0 a1 l0 B0 B1 z0 z1 hT
  have hmo : Tryd.prog.follows .mixedOrders = true := by kernel_rfl
  refine wpIn_rangeFunc_ownG rfl (by omega) (gf := 93) (lb := #[.pointer (some ⟨w.heap.size + 1 + 1 + 1, 0, none⟩)]) rfl trivial (enters_of Tryd.func93 (by kernel_rfl) rfl)
    (starts_stops X kk 8 (by omega) (w.heap.size + 1 + 1 + 1) w.heap.size l HL.out hpos hpos' W0 (by omega) (by omega) b1.cell (HT.out.below rfl B2)) (fun h1 h2 => kept_trans h1 h2) (fun W l' o o' => kept_put (by omega) (by omega) W l' o o') (Below.refl _ _) (fun _ => rfl)
    (PubI X kk l w) (fun _ _ _ => False) (pubI_from X kk l w _ (by omega)) (fun _ _ _ _ _ hs _ _ => hs) ⟨⟨_, b0, by simpa [ends] using l2⟩, b1, a2, B2⟩
    (fun j => { tmps := #[.string ⟨l.toArray⟩, undef, .pointer (some ⟨w.heap.size, 0, none⟩), .pointer (some ⟨w.heap.size + 1 + 1, 0, none⟩), undef, .string ⟨(startL X kk l j.val).toArray⟩, .slice (some ⟨w.heap.size + 1, 0, none⟩) 1 1, .slice (some ⟨w.heap.size + 1, 0, none⟩) 1 1, .string ⟨l.toArray⟩, .func (.func 93) #[] #[.pointer (some ⟨w.heap.size + 1 + 1 + 1, 0, none⟩)], .int .i64 (j.val : Int), .string ⟨(startL X kk l j.val).toArray⟩, undef, undef, undef, undef, undef, undef, undef], defers := [] }) ?assign ?body ?done ?stop
  case assign =>
    intro lp x W K hK
    gi_wp2
    exact hK
  case body =>
    rintro lp pre x W ⟨⟨v, c0, hv⟩, c1, hA, hB⟩ hlt
    have hsl := startL_length X kk l x.val
    have HON := Lib.hid (fun (W' : World) (h : Below w.heap.size w W') => on_any X kk (startL X kk l x.val) 3 (by omega) (by omega) W' (HT.out.below rfl h))
    have HEA := Lib.hid (ends_append X kk l pre x)
    have HEL := Lib.hid (ends_length X kk l pre)
    have hol := onL_length X kk 3 (startL X kk l x.val) hsl
    generalize onL X kk 3 (startL X kk l x.val) = y at *
    generalize startL X kk l x.val = s0 at *
    have k0 := c0.cell
    gi_wp2
    have k0d : W.drew.cell? ⟨w.heap.size + 1 + 1, 0, none⟩ = some v := k0
    refine wpIn_region_held (fun _ => True) hmo ?_
    refine HeldIn.take (Plainly.of (by kernel_rfl)) 1 _ (.string ⟨s0.toArray⟩) rfl (by kernel_rfl) (by kernel_rfl) (fun _ _ _ h => h) trivial ⟨by kernel_rfl, fun w _ => by go_simp, fun _ => rfl⟩ ?_
    go_simp
    refine HeldIn.all [0, 2] (by kernel_rfl) (by simp) (HeldAll.cons rfl (by kernel_rfl) (fun K hK => ?_) (HeldAll.cons rfl (by kernel_rfl) (fun K hK => ?_) HeldAll.nil))
    · go_simp
      refine hK _ _ trivial ?_
      clear hK K
      refine HeldIn.all [2] (by kernel_rfl) (by simp) (HeldAll.cons rfl (by kernel_rfl) (fun K hK => ?_) HeldAll.nil)
      go_simp
      refine ⟨trivial, ((callsIn_wide.2 (HON.out _ hB.drew)).inRound lp).mono ?_⟩
      rintro e2 w2 ⟨rfl, hb2⟩
      refine hK _ _ trivial ?_
      clear hK K
      have hb2' : Below W.heap.size W w2 := (Below.refl W.heap.size W).drew.trans hb2
      have d0 := boxed_low c0 hb2'
      have d1 := boxed_low c1 hb2'
      have dA := hA.below hb2'
      have dv := hv.below hb2'
      have dB := hB.trans (hb2'.mono hB.size)
      have hs2 := dB.size
      have k2 := d0.cell
      have f2 := d0.frozen
      have l3 := d1.lt
      have hne0 := dv.ne_box (by simp) k2 (by rcases dv with ⟨rfl, h⟩ | ⟨g, c, rfl, _⟩ <;> intro c' h' <;> cases h')
      have hne1 := dv.ne_box (by simp) d1.cell (by intro c h; cases h)
      obtain ⟨v', w3, hr, dv', hg'⟩ := dv.append_string (by omega) 96 ⟨y.toArray⟩ (by have := HEL.out; simp [ByteArray.size]; omega)
      obtain ⟨p', n', c', rfl⟩ : ∃ p n c, v' = .slice p n c := by
        obtain ⟨g, c, h, _⟩ := dv'.form (by simp)
        exact ⟨_, _, _, h⟩
      have e0 := d0.kept hg' hne0.symm
      have e1 := d1.kept hg' hne1.symm
      have eA : ArrB w.heap.size w3 (fun _ => 0) 32 := by
        have hneA : some w.heap.size ≠ v.ownBlock := by
          intro e
          have := dv.lt _ e.symm
          omega
        have hbl : w3.heap[w.heap.size]? = w2.heap[w.heap.size]? := hg'.block _ dA.size hneA
        exact ⟨Nat.lt_of_lt_of_le dA.size hg'.size, fun j hj => by rw [World.cell?_of_block (a := ⟨w.heap.size, j, none⟩) hbl]; exact dA.cell j hj, fun j => by rw [World.frozen?_of_block (a := ⟨w.heap.size, j, none⟩) hbl]; exact dA.froz j⟩
      have eB : Below w.heap.size w w3 := dB.grown hg' hs2 (fun k e => by have := dv.lt k e; omega)
      have hko : KeepsOthers W w3 := (keeps_low hb2').trans (KeepsOthers.of_grownBy hg' (fun j o e1 e2 => by
        have h1 := dv.lt j e1
        rcases dv with ⟨rfl, h⟩ | ⟨g, c, rfl, _, _, _, hc, _⟩
        · cases e1
        · injection e1 with e1
          simp only at e1
          subst e1
          have h0 := hc 0 (by simp)
          unfold World.cell? at h0
          simp only [e2] at h0
          cases o <;> simp_all [Obj.isCells]))
      have k3 := e0.cell
      have f3 := e0.frozen
      refine HeldIn.all [3] (by kernel_rfl) (by simp) (HeldAll.cons rfl (by kernel_rfl) (fun K hK => ?_) HeldAll.nil)
      go_simp
      refine hK _ _ trivial ?_
      clear hK K
      refine HeldIn.all [4] (by kernel_rfl) (by simp) (HeldAll.cons rfl (by kernel_rfl) (fun K hK => ?_) HeldAll.nil)
      go_simp
      refine hK _ _ trivial ?_
      clear hK K
      refine HeldIn.done (by kernel_rfl) ?_ _
      gi_wp2
      have hne3 : (Value.slice p' n' c').ownBlock ≠ some (w.heap.size + 1 + 1) := dv'.ne_box (by simp) k3 (by
        rcases hv with ⟨rfl, h⟩ | ⟨g, c, rfl, _⟩ <;> intro c' h' <;> cases h')
      refine ⟨(hko.trans (KeepsOthers.setCell _ _ _)).from _, ⟨?_, ?_⟩, ⟨⟨_, e0.set _, ?_⟩, e1.other (by omega) _, eA.far (by omega) _ _, eB.setCell (p := ⟨w.heap.size + 1 + 1, 0, none⟩) (by simp; omega) _⟩⟩
      · exact (e1.other (by omega) _).trans c1.symm
      · exact (((hb2'.mono hB.size).grown hg' hs2 (fun k e => by have := dv.lt k e; omega))).setCell (p := ⟨w.heap.size + 1 + 1, 0, none⟩) (by simp; omega) _
      · rw [HEA.out]
        have h5 := dv'.kept (grownBy_setCell' w3 (w.heap.size + 1 + 1) (.slice p' n' c')) (.inr hne3)
        exact h5
    · go_simp
      refine ⟨trivial, ((callsIn_wide.2 (HON.out _ hB.drew)).inRound lp).mono ?_⟩
      rintro e2 w2 ⟨rfl, hb2⟩
      have k2 := (boxed_low c0 ((Below.refl W.heap.size W).drew.trans hb2)).cell
      refine hK _ _ trivial ?_
      clear hK K
      refine HeldIn.all [0] (by kernel_rfl) (by simp) (HeldAll.cons rfl (by kernel_rfl) (fun K hK => ?_) HeldAll.nil)
      go_simp
      refine hK _ _ trivial ?_
      clear hK K
      have hb2' : Below W.heap.size W w2 := (Below.refl W.heap.size W).drew.trans hb2
      have d0 := boxed_low c0 hb2'
      have d1 := boxed_low c1 hb2'
      have dA := hA.below hb2'
      have dv := hv.below hb2'
      have dB := hB.trans (hb2'.mono hB.size)
      have hs2 := dB.size
      have k2 := d0.cell
      have f2 := d0.frozen
      have l3 := d1.lt
      have hne0 := dv.ne_box (by simp) k2 (by rcases dv with ⟨rfl, h⟩ | ⟨g, c, rfl, _⟩ <;> intro c' h' <;> cases h')
      have hne1 := dv.ne_box (by simp) d1.cell (by intro c h; cases h)
      obtain ⟨v', w3, hr, dv', hg'⟩ := dv.append_string (by omega) 96 ⟨y.toArray⟩ (by have := HEL.out; simp [ByteArray.size]; omega)
      obtain ⟨p', n', c', rfl⟩ : ∃ p n c, v' = .slice p n c := by
        obtain ⟨g, c, h, _⟩ := dv'.form (by simp)
        exact ⟨_, _, _, h⟩
      have e0 := d0.kept hg' hne0.symm
      have e1 := d1.kept hg' hne1.symm
      have eA : ArrB w.heap.size w3 (fun _ => 0) 32 := by
        have hneA : some w.heap.size ≠ v.ownBlock := by
          intro e
          have := dv.lt _ e.symm
          omega
        have hbl : w3.heap[w.heap.size]? = w2.heap[w.heap.size]? := hg'.block _ dA.size hneA
        exact ⟨Nat.lt_of_lt_of_le dA.size hg'.size, fun j hj => by rw [World.cell?_of_block (a := ⟨w.heap.size, j, none⟩) hbl]; exact dA.cell j hj, fun j => by rw [World.frozen?_of_block (a := ⟨w.heap.size, j, none⟩) hbl]; exact dA.froz j⟩
      have eB : Below w.heap.size w w3 := dB.grown hg' hs2 (fun k e => by have := dv.lt k e; omega)
      have hko : KeepsOthers W w3 := (keeps_low hb2').trans (KeepsOthers.of_grownBy hg' (fun j o e1 e2 => by
        have h1 := dv.lt j e1
        rcases dv with ⟨rfl, h⟩ | ⟨g, c, rfl, _, _, _, hc, _⟩
        · cases e1
        · injection e1 with e1
          simp only at e1
          subst e1
          have h0 := hc 0 (by simp)
          unfold World.cell? at h0
          simp only [e2] at h0
          cases o <;> simp_all [Obj.isCells]))
      have k3 := e0.cell
      have f3 := e0.frozen
      refine HeldIn.all [3] (by kernel_rfl) (by simp) (HeldAll.cons rfl (by kernel_rfl) (fun K hK => ?_) HeldAll.nil)
      go_simp
      refine hK _ _ trivial ?_
      clear hK K
      refine HeldIn.all [4] (by kernel_rfl) (by simp) (HeldAll.cons rfl (by kernel_rfl) (fun K hK => ?_) HeldAll.nil)
      go_simp
      refine hK _ _ trivial ?_
      clear hK K
      refine HeldIn.done (by kernel_rfl) ?_ _
      gi_wp2
      have hne3 : (Value.slice p' n' c').ownBlock ≠ some (w.heap.size + 1 + 1) := dv'.ne_box (by simp) k3 (by
        rcases hv with ⟨rfl, h⟩ | ⟨g, c, rfl, _⟩ <;> intro c' h' <;> cases h')
      refine ⟨(hko.trans (KeepsOthers.setCell _ _ _)).from _, ⟨?_, ?_⟩, ⟨⟨_, e0.set _, ?_⟩, e1.other (by omega) _, eA.far (by omega) _ _, eB.setCell (p := ⟨w.heap.size + 1 + 1, 0, none⟩) (by simp; omega) _⟩⟩
      · exact (e1.other (by omega) _).trans c1.symm
      · exact (((hb2'.mono hB.size).grown hg' hs2 (fun k e => by have := dv.lt k e; omega))).setCell (p := ⟨w.heap.size + 1 + 1, 0, none⟩) (by simp; omega) _
      · rw [HEA.out]
        have h5 := dv'.kept (grownBy_setCell' w3 (w.heap.size + 1 + 1) (.slice p' n' c')) (.inr hne3)
        exact h5
  case done =>
    rintro D ys W hD rfl ⟨⟨v, c0, hv⟩, c1, hA, hB⟩ hK
    have k0 := c0.cell
    have hc := hv.conv
    have HSM := Lib.hid (sum_any ⟨(4 :: ends X kk l places).toArray⟩ X kk W (HT.out.below rfl hB))
    gi_wp2_with fail
    refine ⟨trivial, (callsIn_wide.2 HSM.out).mono ?_⟩
    rintro e2 w2 ⟨rfl, hb2⟩
    have dA := hA.below hb2
    have dB := hB.trans (hb2.mono hB.size)
    obtain ⟨cs, hcs⟩ : ∃ cs, cs = bytesV (sumL X kk (4 :: ends X kk l places)) := ⟨_, rfl⟩
    rw [← hcs]
    have hl : cs.length = 32 := by rw [hcs, bytesV_length]; exact sumL_length _ _ _
    have ht : w2.there w.heap.size 0 cs.toArray.size := by
      intro j hj
      rw [List.size_toArray, hl] at hj
      rw [Nat.zero_add, dA.cell j hj]
      exact ⟨rfl, dA.froz j⟩
    have hi' : (Tryd.prog.info? 30).map (·.size) = some cs.toArray.size := by rw [List.size_toArray, hl]; kernel_rfl
    have hi3 : (Tryd.prog.info? 30).map (·.size) = some cs.length := by rw [hl]; kernel_rfl
    have h1 : cs.toArray.all (·.oneCell') = true := by rw [hcs]; exact bytesV_one _
    have hst := run_storeCells_cells (P := Tryd.prog) w.heap.size 0 cs 0 w2 (fun j hj => by rw [Nat.zero_add, ]; have := (ht j (by rw [List.size_toArray]; exact hj)).1; simpa using this) (fun j hj => by have := (ht j (by rw [List.size_toArray]; exact hj)).2; simpa using this) (by rw [hcs]; exact bytesV_cell _)
    rw [Nat.zero_add] at hst
    have HCS := Lib.hid hcs
    have HT5 := Lib.hid ht
    have HI3 := Lib.hid hi3
    have HI' := Lib.hid hi'
    have H1 := Lib.hid h1
    have HS := Lib.hid (World.rangeAt_setCells_same w2 w.heap.size 0 cs (by rw [← List.size_toArray]; exact ht))
    clear ht hi' h1 hcs hi3
    gi_wp2
    have hDl : D < W.heap.size := (Array.getElem?_eq_some_iff.1 hK).1
    have hg6 := bag_sets w.heap.size cs 0 w2 w2 ⟨rfl, rfl, rfl, Nat.le_refl _, fun _ _ _ => rfl⟩
    have hK' : (w2.setCells w.heap.size 0 cs).heap[D]? = some (.deferred (some [])) := (hg6.block D (Nat.lt_of_lt_of_le hDl hb2.size) (by intro e; injection e with e; omega)).trans ((hb2.block D hDl).trans hK)
    have B6 : Below w.heap.size w (w2.setCells w.heap.size 0 cs) := dB.grown hg6 dB.size (fun k e => by injection e with e; omega)
    have B7 : Below w.heap.size w ((w2.setCells w.heap.size 0 cs).putObj D (.deferred none)) := B6.trans (belowK_b (w := w) (Nat.le_refl _) _ D _ _ (by omega) hK' rfl rfl)
    have R7 : ((w2.setCells w.heap.size 0 cs).putObj D (.deferred none)).rangeAt w.heap.size 0 cs := fun j v hv =>
      (World.cell?_of_block (a := ⟨w.heap.size, 0 + j, none⟩) (World.putObj_heap_other (show w.heap.size ≠ D by omega))).trans (HS.out j v hv)
    refine ⟨by simp, .inl ⟨_, _, rfl, run_takeDeferred hK', ?_⟩⟩
    refine ⟨.agg cs.toArray, ?_, ?_, B7⟩
    · exact results_cell Tryd.results13 _ _ _ w.heap.size cs rfl (run_loadVar_mid _ w.heap.size 0 30 cs _ R7 Tryd.underlying30 rfl HI3.out)
    · rw [HCS.out]; rfl
  case stop =>
    rintro D c pre W _ _ h _
    exact h.elim
end One
end Go.Proofs.YtbgjoefpnjgdkaaDoor
/- onetime.Recover: the sum that a signature leads to. -/
namespace Go.Proofs.YtbgjoefpnjgdkaaDoor
open Go.RowKit
set_option linter.unusedVariables false
set_option linter.unusedSimpArgs false
set_option maxRecDepth 100000
namespace One
open Sha Oct

def recEnds (X kk : Nat → Int) : List Nat → List UInt8 → List UInt8
  | [], _ => []
  | d :: ds, s => onL X kk (3 - d) (s.take 16) ++ recEnds X kk ds (s.drop 16)
theorem recEnds_append (X kk : Nat → Int) : ∀ (ds : List Nat) (d : Nat) (s : List UInt8), recEnds X kk (ds ++ [d]) s = recEnds X kk ds s ++ onL X kk (3 - d) ((s.drop (16 * ds.length)).take 16)
  | [], d, s => by simp [recEnds]
  | e :: ds, d, s => by
    rw [List.cons_append, recEnds, recEnds_append X kk ds d, recEnds, List.append_assoc, List.drop_drop, List.length_cons, show 16 + 16 * ds.length = 16 * (ds.length + 1) by omega]
theorem recEnds_length (X kk : Nat → Int) : ∀ (ds : List Nat) (s : List UInt8), s.length = 16 * ds.length → (recEnds X kk ds s).length = 16 * ds.length
  | [], s, h => rfl
  | e :: ds, s, h => by
    rw [List.length_cons] at h
    rw [recEnds, List.length_append, onL_length X kk _ _ (by rw [List.length_take]; omega), recEnds_length X kk ds _ (by rw [List.length_drop]; omega), List.length_cons]
    omega
def recoverL (X kk : Nat → Int) (text sig : List UInt8) : List UInt8 := sumL X kk (4 :: recEnds X kk (digitsL X kk text) sig)

theorem _root_.Go.Proofs.YtbgjoefpnjgdkaaDoor.Sha.ArrB.row {n : Nat} {w w' : World} {f : Nat → UInt8} {N : Nat} {row : Option Nat} (h : ArrB n w f N) (hne : some n ≠ row) (hg : w.grownBy w' row) : ArrB n w' f N := by
  have hbl : w'.heap[n]? = w.heap[n]? := hg.block n h.size hne
  exact ⟨Nat.lt_of_lt_of_le h.size hg.size, fun j hj => by rw [World.cell?_of_block (a := ⟨n, j, none⟩) hbl]; exact h.cell j hj, fun j => by rw [World.frozen?_of_block (a := ⟨n, j, none⟩) hbl]; exact h.froz j⟩

/-- results: one that lies in a block, and one in a slot -/
theorem results_cell_tmp {fn : Func} {t s : Tmp} {ty : TypeId} (h : fn.results = #[.cell t ty, .tmp s]) (tmps : Array Value) (P : Program) (w : World) (b : Nat) (cs : List Value) (u : Value) (hv : tmps.getD t undef = .pointer (some ⟨b, 0, none⟩)) (hs : tmps.getD s undef = u) (hl : (loadVar ty ⟨b, 0, none⟩).run P w = .ok (.agg cs.toArray) w) :
    (results fn tmps).run P w = .ok (.tuple #[.agg cs.toArray, u]) w := by
  have hv' : tmps[t]?.getD undef = .pointer (some ⟨b, 0, none⟩) := by simpa using hv
  have hs' : tmps[s]?.getD undef = u := by simpa using hs
  simp [results, h, hv', asAddr, hl, hs']

set_option maxHeartbeats 4000000 in
theorem recover_any (X kk : Nat → Int) (t : ByteArray) (s : List UInt8) (hs : s.length = 1088) (w : World) (hT : Tabs w X kk) :
    Calls Tryd.prog 15 #[.string t, .string ⟨s.toArray⟩] w fun e w' => e = .returned (.tuple #[.agg (bytesV (recoverL X kk t.data.toList s)).toArray, .int .i64 0]) ∧ Below w.heap.size w w' := by
  have HT := Lib.hid hT
  clear hT
  have hcv := Lib.run_convert_bytes_const (P := Tryd.prog) (w.alloc (.cells (Array.replicate 32 (.int .u8 0)) 30)) 96 5 #[.int .u8 4] 1 1 Tryd.underlying96 Tryd.underlying5
  rw [World.size_alloc] at hcv
  have hz : (Array.replicate 32 (Value.int .u8 0)) = #[.int .u8 0, .int .u8 0, .int .u8 0, .int .u8 0, .int .u8 0, .int .u8 0, .int .u8 0, .int .u8 0, .int .u8 0, .int .u8 0, .int .u8 0, .int .u8 0, .int .u8 0, .int .u8 0, .int .u8 0, .int .u8 0, .int .u8 0, .int .u8 0, .int .u8 0, .int .u8 0, .int .u8 0, .int .u8 0, .int .u8 0, .int .u8 0, .int .u8 0, .int .u8 0, .int .u8 0, .int .u8 0, .int .u8 0, .int .u8 0, .int .u8 0, .int .u8 0] := rfl
  have a0 := ArrB.zeros w 32 _ 30 rfl
  have B0 := (Below.refl w.heap.size w).alloc (Nat.le_refl _) (.cells (Array.replicate 32 (.int .u8 0)) 30)
  have z0 := World.size_alloc w (.cells (Array.replicate 32 (.int .u8 0)) 30)
  rw [hz] at hcv a0 B0 z0
  clear hz
  go_enter Tryd.func15, Tryd.ntmps15
  go_wp2_with fail
  generalize w.alloc (.cells #[.int .u8 0, .int .u8 0, .int .u8 0, .int .u8 0, .int .u8 0, .int .u8 0, .int .u8 0, .int .u8 0, .int .u8 0, .int .u8 0, .int .u8 0, .int .u8 0, .int .u8 0, .int .u8 0, .int .u8 0, .int .u8 0, .int .u8 0, .int .u8 0, .int .u8 0, .int .u8 0, .int .u8 0, .int .u8 0, .int .u8 0, .int .u8 0, .int .u8 0, .int .u8 0, .int .u8 0, .int .u8 0, .int .u8 0, .int .u8 0, .int .u8 0, .int .u8 0] 30) = wa at *
  have l0 : Bag (w.heap.size + 1) (wa.alloc (.cells #[.int .u8 4] 5 (1, 2))) (.slice (some ⟨w.heap.size + 1, 0, none⟩) 1 1) [4] := Bag.literal wa [4] #[.int .u8 4] 5 1 (w.heap.size + 1) (w.heap.size + 1) z0 (Nat.le_refl _) rfl (by simp) 2
  have a1 := a0.below ((Below.refl _ _).alloc (Nat.le_refl _) (.cells #[.int .u8 4] 5 (1, 2)))
  have B1 := B0.alloc (by omega) (.cells #[.int .u8 4] 5 (1, 2))
  have z1 := World.size_alloc wa (.cells #[.int .u8 4] 5 (1, 2))
  rw [z0] at z1
  generalize wa.alloc (.cells #[.int .u8 4] 5 (1, 2)) = wb at *
  refine (digits_any X kk t wb (HT.out.below rfl B1)).mono ?_
  rintro e w1 ⟨vd, rfl, hd, hb⟩
  have hDl := digitsL_length X kk t.data.toList
  have HDL := Lib.hid (digitsL_le X kk t.data.toList)
  have HRL : Hid (recoverL X kk t.data.toList s = sumL X kk (4 :: recEnds X kk (digitsL X kk t.data.toList) s)) := Lib.hid rfl
  generalize digitsL X kk t.data.toList = D at *
  obtain ⟨gd, cd, rfl, hgd, hgs⟩ := World.ownsRow.form hd (by omega)
  have HD := Lib.hid (fun (j : Nat) (hj : j < D.length) => hd.cell (g := gd) rfl j hj)
  have l1 := l0.below hb
  have a2 := a1.below hb
  have B2 := B1.trans (hb.mono (by omega))
  have hgd1 : w.heap.size + 2 ≤ gd := by omega
  have hs1 := hb.size
  have L1 := Lib.hid l1
  have A2 := Lib.hid a2
  have B2' := Lib.hid B2
  have hws : w.heap.size + 2 ≤ w1.heap.size := by omega
  have hrec0 : 4 :: recEnds X kk (D.take 0) s = [4] := rfl
  rw [hDl]
  clear hcv a0 B0 z0 l0 a1 B1 z1 hd hb l1 a2 B2 hgd hs1
  go_wp2_with fail
  go_loopw [1, 6, 18] (fun x v i wr => ∃ k : Nat, k ≤ 68 ∧ x = .string ⟨(s.drop (16 * k)).toArray⟩ ∧ i = .int .i64 (k : Int) ∧ Hid (Bag (w.heap.size + 1) wr v (4 :: recEnds X kk (D.take k) s)) ∧ Hid (∀ (j : Nat) (hj : j < D.length), wr.cell? ⟨gd, j, none⟩ = some (.int .i64 (D[j] : Int))) ∧ Hid (ArrB w.heap.size wr (fun _ => 0) 32) ∧ Hid (Below w.heap.size w wr) ∧ gd < wr.heap.size ∧ w.heap.size + 2 ≤ wr.heap.size) (fun _ _ i _ => 68 - (intOf i).toNat)
  case atStart => exact ⟨0, by omega, by simp, rfl, L1, HD, A2, B2', hgs, hws⟩
  case round =>
    clear L1 HD A2 B2' hgs hws hrec0
    obtain ⟨k, hk, rfl, rfl, HV, HD, HA, HB, hgs, hws⟩ := hrel
    by_cases hlt : k < 68
    · have hki : (k : Int) < 68 := by omega
      have hdk := HD.out k (by omega)
      have hd3 : D[k]'(by omega) ≤ 3 := HDL.out _ (List.getElem_mem _)
      have HRE : Hid (recEnds X kk (D.take (k + 1)) s = recEnds X kk (D.take k) s ++ onL X kk (3 - D[k]'(by omega)) ((s.drop (16 * k)).take 16)) := by
        refine Lib.hid ?_
        rw [List.take_succ_eq_append_getElem (by omega : k < D.length), recEnds_append, show (D.take k).length = k by rw [List.length_take]; omega]
      have HREL : Hid ((recEnds X kk (D.take k) s).length ≤ 2000) := by
        refine Lib.hid ?_
        have h : ∀ (ds : List Nat) (s' : List UInt8), 16 * ds.length ≤ s'.length → (recEnds X kk ds s').length = 16 * ds.length := by
          intro ds
          induction ds with
          | nil => intro s' _; rfl
          | cons e ds ih =>
            intro s' h
            rw [List.length_cons] at h
            rw [recEnds, List.length_append, onL_length X kk _ _ (by rw [List.length_take]; omega), ih _ (by rw [List.length_drop]; omega), List.length_cons]
            omega
        rw [h _ _ (by rw [List.length_take]; omega), List.length_take]
        omega
      generalize D[k]'(by omega) = d at *
      have hdl : (s.drop (16 * k)).length = 1088 - 16 * k := by rw [List.length_drop, hs]
      have HDD : Hid ((s.drop (16 * k)).drop 16 = s.drop (16 * (k + 1))) := Lib.hid (by rw [List.drop_drop, show 16 * k + 16 = 16 * (k + 1) by omega])
      generalize s.drop (16 * k) = y at *
      have hy16 : 16 ≤ y.length := by omega
      have hyi : (16 : Int) ≤ (y.length : Int) := by omega
      have hx1 : (⟨y.toArray⟩ : ByteArray).extract 0 16 = ⟨(y.take 16).toArray⟩ := by
        have := ext_take y 0 16
        rw [List.drop_zero, Nat.zero_add] at this
        exact this
      have hx2 := ext_drop y 16
      have h3d : (3 : Int) - (d : Int) = ((3 - d : Nat) : Int) := by omega
      have HON := Lib.hid (on_any X kk (y.take 16) (3 - d) (by omega) (by rw [List.length_take]; omega) wr (HT.out.below rfl HB.out))
      have hol := onL_length X kk (3 - d) (y.take 16) (by rw [List.length_take]; omega)
      generalize y.take 16 = y0 at *
      generalize y.drop 16 = y1 at *
      generalize onL X kk (3 - d) y0 = z at *
      clear hdl
      go_wp2_with fail
      refine HON.out.mono ?_
      rintro e w2 ⟨rfl, hb2⟩
      have dv := HV.out.below hb2
      have dA := HA.out.below hb2
      have dB := HB.out.trans (hb2.mono (by omega))
      have hs2 := hb2.size
      have DD : ∀ (j : Nat) (hj : j < D.length), w2.cell? ⟨gd, j, none⟩ = some (.int .i64 (D[j] : Int)) := fun j hj => (hb2.cell (p := ⟨gd, j, none⟩) hgs).trans (HD.out j hj)
      have hne := dv.ne_box (b := gd) (by simp) (DD 0 (by omega)) (by intro c h; cases h)
      have hneA : some w.heap.size ≠ _ := fun e => by have := dv.lt _ e.symm; omega
      have HDV := Lib.hid dv
      have HFIT : Hid ((4 :: recEnds X kk (D.take k) s).length + (⟨z.toArray⟩ : ByteArray).size ≤ 1099511627776) := by
        refine Lib.hid ?_
        have := HREL.out
        simp [ByteArray.size]; omega
      have HDA := Lib.hid dA
      have HDB := Lib.hid dB
      have HDD2 := Lib.hid DD
      have HNE := Lib.hid hne
      have HNA := Lib.hid hneA
      clear dv dA dB DD hne hneA
      go_wp2_with (at_builtin; refine wpList_append_bag_string rfl (.tmp 22) (.tmp 27) rfl (w.heap.size + 1) _ (4 :: recEnds X kk (D.take k) s) rfl HDV.out (by omega) ⟨z.toArray⟩ rfl HFIT.out ?_; intro v3 w3 hv3 hg3)
      have hg3s := hg3.size
      go_roundw
      case rel => exact ⟨k + 1, by omega, by rw [HDD.out], by go_num, Lib.hid (by rw [HRE.out, ← List.cons_append]; exact hv3), Lib.hid (fun j hj => (hg3.cell (HDD2.out j hj) HNE.out.symm)), Lib.hid (HDA.out.row HNA.out hg3), Lib.hid (HDB.out.grown hg3 (by omega) (fun k e => by have := HDV.out.lt k e; omega)), by omega, by omega⟩
      case measure => simp [intOf]; omega
    · obtain rfl : k = 68 := by omega
      rw [show D.take 68 = D from List.take_of_length_le (by omega)] at HV
      rw [show ((68 : Nat) : Int) = 68 from rfl]
      clear hlt hk HD
      have hcv := HV.out.conv
      have HSM := Lib.hid (sum_any ⟨(4 :: recEnds X kk D s).toArray⟩ X kk wr (HT.out.below rfl HB.out))
      go_wp2_with fail
      refine HSM.out.mono ?_
      rintro e w2 ⟨rfl, hb2⟩
      have dA := HA.out.below hb2
      have dB := HB.out.trans (hb2.mono (by omega))
      obtain ⟨cs, hcs⟩ : ∃ cs, cs = bytesV (sumL X kk (4 :: recEnds X kk D s)) := ⟨_, rfl⟩
      rw [← hcs]
      have hl : cs.length = 32 := by rw [hcs, bytesV_length]; exact sumL_length _ _ _
      have ht : w2.there w.heap.size 0 cs.toArray.size := by
        intro j hj
        rw [List.size_toArray, hl] at hj
        rw [Nat.zero_add, dA.cell j hj]
        exact ⟨rfl, dA.froz j⟩
      have HI3 : Hid ((Tryd.prog.info? 30).map (·.size) = some cs.length) := by rw [hl]; exact Lib.hid (by kernel_rfl)
      have HI' : Hid ((Tryd.prog.info? 30).map (·.size) = some cs.toArray.size) := by rw [List.size_toArray]; exact HI3
      have H1 : Hid (cs.toArray.all (·.oneCell') = true) := by rw [hcs]; exact Lib.hid (bytesV_one _)
      have HCS := Lib.hid hcs
      have HT5 := Lib.hid ht
      have HS := Lib.hid (World.rangeAt_setCells_same w2 w.heap.size 0 cs (by rw [← List.size_toArray]; exact ht))
      have HB5 := Lib.hid dB
      clear ht hcs hl dA dB
      go_wp2_with (with_reducible refine wpList_store_mid rfl _ _ _ rfl w.heap.size 0 cs.toArray rfl rfl HT5.out HI'.out H1.out ?_)
      refine bodyPost_ret (v := .tuple #[.agg cs.toArray, .int .i64 0]) ?_ rfl ⟨by rw [HCS.out, HRL.out], below_setCells (Nat.le_refl _) _ _ _ HB5.out⟩
      exact results_cell_tmp Tryd.results15 _ _ _ w.heap.size cs _ rfl rfl (run_loadVar_mid _ w.heap.size 0 30 cs _ HS.out Tryd.underlying30 rfl HI3.out)
end One
end Go.Proofs.YtbgjoefpnjgdkaaDoor
