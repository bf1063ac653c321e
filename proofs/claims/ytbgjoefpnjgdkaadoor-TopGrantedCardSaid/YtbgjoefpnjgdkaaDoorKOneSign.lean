/- onetime.Sign: a signature. -/
import Derived.Test.YtbgjoefpnjgdkaaDoorKOneRecover
namespace Go.Proofs.YtbgjoefpnjgdkaaDoor
open Go.RowKit Go.Shelf
set_option linter.unusedVariables false
set_option linter.unusedSimpArgs false
set_option maxRecDepth 100000
attribute [local go_sem] Oper.semAt_some
/-- append as it stands: the walk does not open it -/
def appOneSign (ats : Array TypeId) (ty : TypeId) (args : Array Value) : Sem Value := Builtin.append_ ats ty args
theorem appOneSign_fold (ats : Array TypeId) (ty : TypeId) (args : Array Value) : Builtin.append_ ats ty args = appOneSign ats ty args := rfl
attribute [local go_sem ↓] appOneSign_fold
namespace One
open Sha Oct

def sigEnds (X kk : Nat → Int) (D : List Nat) (seed : List UInt8) (pre : List (Fin 68)) : List UInt8 := pre.flatMap fun j => onL X kk (D.getD j.val 0) (startL X kk seed j.val)
def signL (X kk : Nat → Int) (seed text : List UInt8) : List UInt8 := sigEnds X kk (digitsL X kk text) seed places
theorem sigEnds_append (X kk : Nat → Int) (D : List Nat) (seed : List UInt8) (pre : List (Fin 68)) (j : Fin 68) : sigEnds X kk D seed (pre ++ [j]) = sigEnds X kk D seed pre ++ onL X kk (D.getD j.val 0) (startL X kk seed j.val) := by simp [sigEnds]
theorem sigEnds_length (X kk : Nat → Int) (D : List Nat) (seed : List UInt8) : ∀ (pre : List (Fin 68)), (sigEnds X kk D seed pre).length = 16 * pre.length
  | [] => rfl
  | j :: pre => by
    have h := sigEnds_length X kk D seed pre
    have h2 := onL_length X kk (D.getD j.val 0) (startL X kk seed j.val) (startL_length _ _ _ _)
    simp only [sigEnds, List.flatMap_cons, List.length_append, List.length_cons] at h h2 ⊢
    omega
theorem signL_length (X kk : Nat → Int) (seed text : List UInt8) : (signL X kk seed text).length = 1088 := by
  rw [signL, sigEnds_length, places_length]

/-- what a round of Sign meets -/
def SigI (X kk : Nat → Int) (D : List Nat) (gd cd : Nat) (l : List UInt8) (w : World) (pre : List (Fin 68)) (W : World) : Prop :=
  (∃ v, Boxed W (w.heap.size + 1) 96 v ∧ Bag w.heap.size W v (sigEnds X kk D l pre) ∧ (pre = [] → v = .slice none 0 0)) ∧ Boxed W w.heap.size 115 (.slice (some ⟨gd, 0, none⟩) 68 cd) ∧ Boxed W (w.heap.size + 1 + 1) 9 (.string ⟨l.toArray⟩) ∧ Below w.heap.size w W

theorem sigI_from (X kk : Nat → Int) (D : List Nat) (gd cd : Nat) (l : List UInt8) (w : World) (B : Nat) (hB : w.heap.size ≤ B) : OwnFrom B (SigI X kk D gd cd l w) := by
  rintro pre W W' row ⟨⟨v, c0, hv, hn⟩, c1, c2, hb⟩ hg hr
  have hr' : ∀ r, row = some r → ∃ o : Obj, W.heap[r]? = some o ∧ o.isCells = false := fun r e => (hr r e).2
  refine ⟨⟨v, c0.kept hg (row_ne_cell c0.cell hr'), ?_, hn⟩, c1.kept hg (row_ne_cell c1.cell hr'), c2.kept hg (row_ne_cell c2.cell hr'), hb.grown hg hb.size (fun k e => Nat.le_trans hB (hr k e).1)⟩
  by_cases hp : pre = []
  · subst hp
    rw [hn rfl]
    exact Bag.nil _ _
  · refine hv.from (f := fun pre => sigEnds X kk D l pre) ?_ hg hr'
    rw [sigEnds_length]
    have := List.length_pos_iff.2 hp
    omega

theorem Bag.ne_box' {base b : Nat} {w : World} {v u : Value} {l : List UInt8} (h : Bag base w v l) (hl : l = [] → v = .slice none 0 0) (hb : w.cell? ⟨b, 0, none⟩ = some u) (hu : ∀ c : Int, u ≠ .int .u8 c) : v.ownBlock ≠ some b := by
  by_cases h0 : l = []
  · rw [hl h0]; intro e; cases e
  · exact h.ne_box (List.length_pos_iff.2 h0) hb hu

set_option maxHeartbeats 4000000 in
theorem sign_any (X kk : Nat → Int) (l : List UInt8) (hl : l.length ≤ 100000) (t : ByteArray) (w0 : World) (hT : Tabs w0 X kk) :
    Calls Tryd.prog 16 #[.string ⟨l.toArray⟩, .string t] w0 fun e w' => e = .returned (.string ⟨(signL X kk l t.data.toList).toArray⟩) ∧ Below w0.heap.size w0 w' := by
  have HL := Lib.hid hl
  clear hl
  refine callsIn_wide (n := 9).1 ?_
  refine callsIn_of_wp_marks Tryd.func16 rfl trivial ?_ rfl
  simp only [Tryd.ntmps16, List.size_toArray, List.length_cons, List.length_nil, Nat.reduceAdd, Nat.reduceSub, Array.replicate_succ, Array.replicate_zero, List.push_toArray, List.append_toArray, List.nil_append, List.cons_append]
  gi_wp2_with fail
  refine ⟨trivial, (callsIn_wide.2 (digits_any X kk t w0 hT)).mono ?_⟩
  rintro e0 w ⟨vd, rfl, hd, hb0⟩
  have hpos := hT.k.size
  have hpos' := hT.x.size
  have HT := Lib.hid (hT.below rfl hb0)
  have HB0 := Lib.hid hb0
  have hb0s := hb0.size
  have hDl := digitsL_length X kk t.data.toList
  have HDL := Lib.hid (digitsL_le X kk t.data.toList)
  have HSL : Hid (signL X kk l t.data.toList = sigEnds X kk (digitsL X kk t.data.toList) l places) := Lib.hid rfl
  generalize digitsL X kk t.data.toList = D at *
  obtain ⟨gd, cd, rfl, hgd, hgs⟩ := World.ownsRow.form hd (by omega)
  have HD := Lib.hid (fun (j : Nat) (hj : j < D.length) => hd.cell (g := gd) rfl j hj)
  rw [hDl]
  clear hd hT hb0
  gi_wp2_with fail
  refine ⟨trivial, (starts_in Fence.wide 8 trivial rfl l _).mono ?_⟩
  rintro e1 w1 ⟨rfl, rfl⟩
  gi_wp2_with fail
  try simp only [World.size_alloc]
  have c1 := ((Boxed.new w 115 (.slice (some ⟨gd, 0, none⟩) 68 cd)).alloc (.cells #[.slice none 0 0] 96)).alloc (.cells #[.string ⟨l.toArray⟩] 9)
  have c0 := (Boxed.new (w.alloc (.cells #[.slice (some ⟨gd, 0, none⟩) 68 cd] 115)) 96 (.slice none 0 0)).alloc (.cells #[.string ⟨l.toArray⟩] 9)
  have c2 := Boxed.new ((w.alloc (.cells #[.slice (some ⟨gd, 0, none⟩) 68 cd] 115)).alloc (.cells #[.slice none 0 0] 96)) 9 (.string ⟨l.toArray⟩)
  simp only [World.size_alloc] at c0 c2
  have B2 : Below w.heap.size w (((w.alloc (.cells #[.slice (some ⟨gd, 0, none⟩) 68 cd] 115)).alloc (.cells #[.slice none 0 0] 96)).alloc (.cells #[.string ⟨l.toArray⟩] 9)) := (((Below.refl w.heap.size w).alloc (by simp) _).alloc (by simp) _).alloc (by simp <;> omega) _
  have z2 : (((w.alloc (.cells #[.slice (some ⟨gd, 0, none⟩) 68 cd] 115)).alloc (.cells #[.slice none 0 0] 96)).alloc (.cells #[.string ⟨l.toArray⟩] 9)).heap.size = w.heap.size + 3 := by simp
  generalize ((w.alloc (.cells #[.slice (some ⟨gd, 0, none⟩) 68 cd] 115)).alloc (.cells #[.slice none 0 0] 96)).alloc (.cells #[.string ⟨l.toArray⟩] 9) = W0 at *
  have hmo : Tryd.prog.follows .mixedOrders = true := by kernel_rfl
  refine wpIn_rangeFunc_ownG rfl (by omega) (gf := 93) (lb := #[.pointer (some ⟨w.heap.size + 1 + 1, 0, none⟩)]) rfl trivial (enters_of Tryd.func93 (by kernel_rfl) rfl)
    (starts_stops X kk 8 (by omega) (w.heap.size + 1 + 1) w.heap.size l HL.out (by omega) (by omega) W0 (by omega) (by omega) c2.cell (HT.out.below rfl B2)) (fun h1 h2 => kept_trans h1 h2) (fun W l' o o' => kept_put (by omega) (by omega) W l' o o') (Below.refl _ _) (fun _ => rfl)
    (SigI X kk D gd cd l w) (fun _ _ _ => False) (sigI_from X kk D gd cd l w _ (by omega)) (fun _ _ _ _ _ hs _ _ => hs) ⟨⟨_, c0, Bag.nil _ _, fun _ => rfl⟩, c1, c2, B2⟩
    (fun j => { tmps := #[.string ⟨l.toArray⟩, .string t, undef, undef, .string ⟨#[]⟩, .pointer (some ⟨w.heap.size, 0, none⟩), .pointer (some ⟨w.heap.size + 1, 0, none⟩), .int .i64 (j.val : Int), .string ⟨(startL X kk l j.val).toArray⟩, .string t, .slice (some ⟨gd, 0, none⟩) 68 cd, .string ⟨l.toArray⟩, .func (.func 93) #[] #[.pointer (some ⟨w.heap.size + 1 + 1, 0, none⟩)], .int .i64 (j.val : Int), .string ⟨(startL X kk l j.val).toArray⟩, undef, undef, undef, undef, undef, undef, undef, undef, undef, undef], defers := [] }) ?assign ?body ?done ?stop
  case assign =>
    intro lp x W K hK
    gi_wp2
    exact hK
  case body =>
    rintro lp pre x W ⟨⟨v, c0, hv, hnil⟩, c1, c2, hB⟩ hlt
    have hsl := startL_length X kk l x.val
    have hxl : x.val < D.length := by have := x.isLt; omega
    have hd3 : D.getD x.val 0 ≤ 3 := by
      rw [List.getD_eq_getElem?_getD, List.getElem?_eq_getElem hxl]
      exact HDL.out _ (List.getElem_mem _)
    have HON := Lib.hid (fun (W' : World) (h : Below w.heap.size w W') => on_any X kk (startL X kk l x.val) (D.getD x.val 0) (by omega) (by omega) W' (HT.out.below rfl h))
    have HEA := Lib.hid (sigEnds_append X kk D l pre x)
    have HEL := Lib.hid (sigEnds_length X kk D l pre)
    have hol := onL_length X kk (D.getD x.val 0) (startL X kk l x.val) hsl
    have hdx : w.cell? ⟨gd, x.val, none⟩ = some (.int .i64 ((D.getD x.val 0 : Nat) : Int)) := by
      rw [HD.out x.val hxl, List.getD_eq_getElem?_getD, List.getElem?_eq_getElem hxl]; rfl
    have hgW : gd < W.heap.size := Nat.lt_of_lt_of_le hgs hB.size
    have S0 : W.drew.cell? ⟨w.heap.size, 0, none⟩ = some (.slice (some ⟨gd, 0, none⟩) 68 cd) ∧ W.drew.cell? ⟨gd, x.val, none⟩ = some (.int .i64 ((D.getD x.val 0 : Nat) : Int)) := ⟨c1.cell, (hB.cell (p := ⟨gd, x.val, none⟩) hgs).trans hdx⟩
    have DW0 : ∀ w2, Below W.heap.size W w2 → w2.cell? ⟨gd, 0, none⟩ = some (.int .i64 (D[0]'(by omega) : Int)) := fun w2 h => (h.cell (p := ⟨gd, 0, none⟩) hgW).trans ((hB.cell (p := ⟨gd, 0, none⟩) hgs).trans (HD.out 0 (by omega)))
    have hnil' : sigEnds X kk D l pre = [] → v = .slice none 0 0 := fun h => hnil (by
      have h2 := HEL.out
      rw [h] at h2
      exact List.length_eq_zero_iff.1 (by simp at h2; omega))
    have hvu : ∀ c : Int, v ≠ .int .u8 c := by
      rcases hv with ⟨rfl, _⟩ | ⟨g, c, rfl, _⟩ <;> intro c' h' <;> cases h'
    generalize onL X kk (D.getD x.val 0) (startL X kk l x.val) = y at *
    generalize startL X kk l x.val = s0 at *
    generalize D.getD x.val 0 = d at *
    have k0 : W.drew.cell? ⟨w.heap.size + 1, 0, none⟩ = some v := c0.cell
    have hxi : (x.val : Int) < 68 := by have := x.isLt; omega
    gi_wp2
    refine wpIn_region_held (fun w' => w'.cell? ⟨w.heap.size, 0, none⟩ = some (.slice (some ⟨gd, 0, none⟩) 68 cd) ∧ w'.cell? ⟨gd, x.val, none⟩ = some (.int .i64 (d : Int))) hmo ?_
    refine HeldIn.take (Plainly.of (by kernel_rfl)) 1 _ (.string ⟨s0.toArray⟩) rfl (by kernel_rfl) (by kernel_rfl) (fun _ _ _ h => h) S0 ⟨by kernel_rfl, fun w _ => by go_simp, fun _ => rfl⟩ ?_
    go_simp
    refine HeldIn.take (Plainly.of (by kernel_rfl)) 2 _ (.slice (some ⟨gd, 0, none⟩) 68 cd) rfl (by kernel_rfl) (by kernel_rfl) (fun _ _ _ h => h) S0 ⟨by kernel_rfl, fun w h => by have h1 := h.1; go_simp, fun _ => rfl⟩ ?_
    go_simp
    refine HeldIn.take (Plainly.of (by kernel_rfl)) 3 _ (.int .i64 (x.val : Int)) rfl (by kernel_rfl) (by kernel_rfl) (fun _ _ _ h => h) S0 ⟨by kernel_rfl, fun w _ => by go_simp, fun _ => rfl⟩ ?_
    go_simp
    refine HeldIn.take (Plainly.of (by kernel_rfl)) 4 _ (.pointer (some ⟨gd, x.val, none⟩)) rfl (by kernel_rfl) (by kernel_rfl) (fun _ _ _ h => h) S0 ⟨by kernel_rfl, fun w h => by go_simp, fun _ => rfl⟩ ?_
    go_simp
    refine HeldIn.take (Plainly.of (by kernel_rfl)) 5 _ (.int .i64 (d : Int)) rfl (by kernel_rfl) (by kernel_rfl) (fun _ _ _ h => h) S0 ⟨by kernel_rfl, fun w h => by have h1 := h.2; go_simp, fun _ => rfl⟩ ?_
    go_simp
    refine HeldIn.all [0, 6] (by kernel_rfl) (by simp) (HeldAll.cons rfl (by kernel_rfl) (fun K hK => ?_) (HeldAll.cons rfl (by kernel_rfl) (fun K hK => ?_) HeldAll.nil))
    · go_simp
      refine hK _ _ S0 ?_
      clear hK K
      refine HeldIn.all [6] (by kernel_rfl) (by simp) (HeldAll.cons rfl (by kernel_rfl) (fun K hK => ?_) HeldAll.nil)
      go_simp
      refine ⟨trivial, ((callsIn_wide.2 (HON.out _ hB.drew)).inRound lp).mono ?_⟩
      rintro e2 w2 ⟨rfl, hb2⟩
      have hb2' : Below W.heap.size W w2 := (Below.refl W.heap.size W).drew.trans hb2
      have d0 := boxed_low c0 hb2'
      have d1 := boxed_low c1 hb2'
      have d2 := boxed_low c2 hb2'
      have dv := hv.below hb2'
      have dB := hB.trans (hb2'.mono hB.size)
      have hs2 := dB.size
      have k2 := d0.cell
      have f2 := d0.frozen
      have l3 := d2.lt
      have S2 : w2.cell? ⟨w.heap.size, 0, none⟩ = some (.slice (some ⟨gd, 0, none⟩) 68 cd) ∧ w2.cell? ⟨gd, x.val, none⟩ = some (.int .i64 (d : Int)) := ⟨d1.cell, (hb2'.cell (p := ⟨gd, x.val, none⟩) hgW).trans S0.2⟩
      have hne0 := Bag.ne_box' dv hnil' k2 hvu
      have hne1 := Bag.ne_box' dv hnil' d1.cell (by intro c h; cases h)
      have hne2 := Bag.ne_box' dv hnil' d2.cell (by intro c h; cases h)
      have hneg := Bag.ne_box' dv hnil' (DW0 w2 hb2') (by intro c h; cases h)
      obtain ⟨v', w3, hr, dv', hg'⟩ := dv.append_string (by omega) 96 ⟨y.toArray⟩ (by have := HEL.out; simp [ByteArray.size]; omega)
      rw [appOneSign_fold] at hr
      obtain ⟨p', n', c', rfl⟩ : ∃ p n c, v' = .slice p n c := by
        obtain ⟨g, c, h, _⟩ := dv'.form (by simp; omega)
        exact ⟨_, _, _, h⟩
      have e0 := d0.kept hg' hne0.symm
      have e1 := d1.kept hg' hne1.symm
      have e2 := d2.kept hg' hne2.symm
      have eB : Below w.heap.size w w3 := dB.grown hg' hs2 (fun k e => by have := dv.lt k e; omega)
      have hko : KeepsOthers W w3 := (keeps_low hb2').trans (KeepsOthers.of_grownBy hg' (fun j o e1 e2 => by
        rcases dv with ⟨rfl, h⟩ | ⟨g, c, rfl, _, _, _, hc, _⟩
        · cases e1
        · injection e1 with e1
          simp only at e1
          subst e1
          have h0 := hc 0 (by
            by_cases h : sigEnds X kk D l pre = []
            · have := hnil' h; cases this
            · exact List.length_pos_iff.2 h)
          unfold World.cell? at h0
          simp only [e2] at h0
          cases o <;> simp_all [Obj.isCells]))
      have k3 := e0.cell
      have f3 := e0.frozen
      have S3 : w3.cell? ⟨w.heap.size, 0, none⟩ = some (.slice (some ⟨gd, 0, none⟩) 68 cd) ∧ w3.cell? ⟨gd, x.val, none⟩ = some (.int .i64 (d : Int)) := ⟨e1.cell, hg'.cell S2.2 hneg.symm⟩
      have S4 : (w3.setCell ⟨w.heap.size + 1, 0, none⟩ (.slice p' n' c')).cell? ⟨w.heap.size, 0, none⟩ = some (.slice (some ⟨gd, 0, none⟩) 68 cd) ∧ (w3.setCell ⟨w.heap.size + 1, 0, none⟩ (.slice p' n' c')).cell? ⟨gd, x.val, none⟩ = some (.int .i64 (d : Int)) := ⟨(e1.other (by omega) _).cell, by rw [World.cell?_setCell_other _ _ _ _ (by intro e; injection e with e; omega)]; exact S3.2⟩
      refine hK _ _ S2 ?_
      clear hK K
      refine HeldIn.all [7] (by kernel_rfl) (by simp) (HeldAll.cons rfl (by kernel_rfl) (fun K hK => ?_) HeldAll.nil)
      go_simp
      refine hK _ _ S3 ?_
      clear hK K
      refine HeldIn.all [8] (by kernel_rfl) (by simp) (HeldAll.cons rfl (by kernel_rfl) (fun K hK => ?_) HeldAll.nil)
      go_simp
      refine hK _ _ S4 ?_
      clear hK K
      refine HeldIn.done (by kernel_rfl) ?_ _
      gi_wp2
      have hne3 : (Value.slice p' n' c').ownBlock ≠ some (w.heap.size + 1) := dv'.ne_box (by simp; omega) k3 hvu
      refine ⟨(hko.trans (KeepsOthers.setCell _ _ _)).from _, ⟨?_, ?_⟩, ⟨⟨_, e0.set _, ?_, fun h => by simp at h⟩, e1.other (by omega) _, e2.other (by omega) _, eB.setCell (p := ⟨w.heap.size + 1, 0, none⟩) (by simp) _⟩⟩
      · exact (e2.other (by omega) _).trans c2.symm
      · exact (((hb2'.mono hB.size).grown hg' hs2 (fun k e => by have := dv.lt k e; omega))).setCell (p := ⟨w.heap.size + 1, 0, none⟩) (by simp) _
      · rw [HEA.out]
        exact dv'.kept (grownBy_setCell' w3 (w.heap.size + 1) (.slice p' n' c')) (.inr hne3)
    · go_simp
      refine ⟨trivial, ((callsIn_wide.2 (HON.out _ hB.drew)).inRound lp).mono ?_⟩
      rintro e2 w2 ⟨rfl, hb2⟩
      have hb2' : Below W.heap.size W w2 := (Below.refl W.heap.size W).drew.trans hb2
      have d0 := boxed_low c0 hb2'
      have d1 := boxed_low c1 hb2'
      have d2 := boxed_low c2 hb2'
      have dv := hv.below hb2'
      have dB := hB.trans (hb2'.mono hB.size)
      have hs2 := dB.size
      have k2 := d0.cell
      have f2 := d0.frozen
      have l3 := d2.lt
      have S2 : w2.cell? ⟨w.heap.size, 0, none⟩ = some (.slice (some ⟨gd, 0, none⟩) 68 cd) ∧ w2.cell? ⟨gd, x.val, none⟩ = some (.int .i64 (d : Int)) := ⟨d1.cell, (hb2'.cell (p := ⟨gd, x.val, none⟩) hgW).trans S0.2⟩
      have hne0 := Bag.ne_box' dv hnil' k2 hvu
      have hne1 := Bag.ne_box' dv hnil' d1.cell (by intro c h; cases h)
      have hne2 := Bag.ne_box' dv hnil' d2.cell (by intro c h; cases h)
      have hneg := Bag.ne_box' dv hnil' (DW0 w2 hb2') (by intro c h; cases h)
      obtain ⟨v', w3, hr, dv', hg'⟩ := dv.append_string (by omega) 96 ⟨y.toArray⟩ (by have := HEL.out; simp [ByteArray.size]; omega)
      rw [appOneSign_fold] at hr
      obtain ⟨p', n', c', rfl⟩ : ∃ p n c, v' = .slice p n c := by
        obtain ⟨g, c, h, _⟩ := dv'.form (by simp; omega)
        exact ⟨_, _, _, h⟩
      have e0 := d0.kept hg' hne0.symm
      have e1 := d1.kept hg' hne1.symm
      have e2 := d2.kept hg' hne2.symm
      have eB : Below w.heap.size w w3 := dB.grown hg' hs2 (fun k e => by have := dv.lt k e; omega)
      have hko : KeepsOthers W w3 := (keeps_low hb2').trans (KeepsOthers.of_grownBy hg' (fun j o e1 e2 => by
        rcases dv with ⟨rfl, h⟩ | ⟨g, c, rfl, _, _, _, hc, _⟩
        · cases e1
        · injection e1 with e1
          simp only at e1
          subst e1
          have h0 := hc 0 (by
            by_cases h : sigEnds X kk D l pre = []
            · have := hnil' h; cases this
            · exact List.length_pos_iff.2 h)
          unfold World.cell? at h0
          simp only [e2] at h0
          cases o <;> simp_all [Obj.isCells]))
      have k3 := e0.cell
      have f3 := e0.frozen
      have S3 : w3.cell? ⟨w.heap.size, 0, none⟩ = some (.slice (some ⟨gd, 0, none⟩) 68 cd) ∧ w3.cell? ⟨gd, x.val, none⟩ = some (.int .i64 (d : Int)) := ⟨e1.cell, hg'.cell S2.2 hneg.symm⟩
      have S4 : (w3.setCell ⟨w.heap.size + 1, 0, none⟩ (.slice p' n' c')).cell? ⟨w.heap.size, 0, none⟩ = some (.slice (some ⟨gd, 0, none⟩) 68 cd) ∧ (w3.setCell ⟨w.heap.size + 1, 0, none⟩ (.slice p' n' c')).cell? ⟨gd, x.val, none⟩ = some (.int .i64 (d : Int)) := ⟨(e1.other (by omega) _).cell, by rw [World.cell?_setCell_other _ _ _ _ (by intro e; injection e with e; omega)]; exact S3.2⟩
      refine hK _ _ S2 ?_
      clear hK K
      refine HeldIn.all [0] (by kernel_rfl) (by simp) (HeldAll.cons rfl (by kernel_rfl) (fun K hK => ?_) HeldAll.nil)
      go_simp
      refine hK _ _ S2 ?_
      clear hK K
      refine HeldIn.all [7] (by kernel_rfl) (by simp) (HeldAll.cons rfl (by kernel_rfl) (fun K hK => ?_) HeldAll.nil)
      go_simp
      refine hK _ _ S3 ?_
      clear hK K
      refine HeldIn.all [8] (by kernel_rfl) (by simp) (HeldAll.cons rfl (by kernel_rfl) (fun K hK => ?_) HeldAll.nil)
      go_simp
      refine hK _ _ S4 ?_
      clear hK K
      refine HeldIn.done (by kernel_rfl) ?_ _
      gi_wp2
      have hne3 : (Value.slice p' n' c').ownBlock ≠ some (w.heap.size + 1) := dv'.ne_box (by simp; omega) k3 hvu
      refine ⟨(hko.trans (KeepsOthers.setCell _ _ _)).from _, ⟨?_, ?_⟩, ⟨⟨_, e0.set _, ?_, fun h => by simp at h⟩, e1.other (by omega) _, e2.other (by omega) _, eB.setCell (p := ⟨w.heap.size + 1, 0, none⟩) (by simp) _⟩⟩
      · exact (e2.other (by omega) _).trans c2.symm
      · exact (((hb2'.mono hB.size).grown hg' hs2 (fun k e => by have := dv.lt k e; omega))).setCell (p := ⟨w.heap.size + 1, 0, none⟩) (by simp) _
      · rw [HEA.out]
        exact dv'.kept (grownBy_setCell' w3 (w.heap.size + 1) (.slice p' n' c')) (.inr hne3)
  case done =>
    rintro E ys W hE rfl ⟨⟨v, c0, hv, hnil⟩, c1, c2, hB⟩ hK
    have k0 := c0.cell
    have hc := hv.conv
    gi_wp2
    refine ⟨by simp, .inl ⟨_, _, rfl, run_takeDeferred hK, ?_⟩⟩
    refine ⟨.string ⟨(sigEnds X kk D l places).toArray⟩, ?_, ?_, (HB0.out.trans (hB.mono hb0s)).trans (belowK_b (w := w0) (Nat.le_refl _) _ E _ _ (by omega) hK rfl rfl)⟩
    · simp [results, Tryd.f16, go_sem]
    · rw [HSL.out]
  case stop =>
    rintro D c pre W _ _ h _
    exact h.elim
end One
end Go.Proofs.YtbgjoefpnjgdkaaDoor
