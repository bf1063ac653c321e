/- tree.Path: the sums beside a leaf's way up. -/
import Derived.Test.YtbgjoefpnjgdkaaDoorKTreeLevels
import Derived.Maps.AppendAt
namespace Go.Proofs.YtbgjoefpnjgdkaaDoor
open Go.RowKit Go.Shelf
set_option linter.unusedVariables false
set_option linter.unusedSimpArgs false
set_option maxRecDepth 100000
attribute [local go_sem] Oper.semAt_some
/-- append as it stands: the walk does not open it -/
def appTreePath (ats : Array TypeId) (ty : TypeId) (args : Array Value) : Sem Value := Builtin.append_ ats ty args
theorem appTreePath_fold (ats : Array TypeId) (ty : TypeId) (args : Array Value) : Builtin.append_ ats ty args = appTreePath ats ty args := rfl
attribute [local go_sem ↓] appTreePath_fold
namespace Tree
open Sha
/-- the sums beside a leaf's way up, so many levels -/
def pathL (X kk : Nat → Int) (ls : List (List UInt8)) (i m : Nat) : List (List UInt8) := (List.range m).map fun j => (upN X kk j ls).getD ((i / 2 ^ j) ^^^ 1) []
theorem pathL_length (X kk : Nat → Int) (ls : List (List UInt8)) (i m : Nat) : (pathL X kk ls i m).length = m := by simp [pathL]
theorem pathL_succ (X kk : Nat → Int) (ls : List (List UInt8)) (i m : Nat) : pathL X kk ls i (m + 1) = pathL X kk ls i m ++ [(upN X kk m ls).getD ((i / 2 ^ m) ^^^ 1) []] := by
  rw [pathL, List.range_succ, List.map_append]; rfl

theorem xor1 (n : Nat) (h : n < 256) : bits .xor .i64 (n : Int) 1 = ((n ^^^ 1 : Nat) : Int) := by
  have h' : ∀ a : Fin 256, bits .xor .i64 (a.val : Int) 1 = ((a.val ^^^ 1 : Nat) : Int) := by decide +kernel
  exact h' ⟨n, h⟩

theorem levT_from (X kk : Nat → Int) (ls : List (List UInt8)) (bo n0 B : Nat) (hbo : bo < B) (pre : List (Value × List (List UInt8))) (x : Value × List (List UInt8)) : OwnFrom B (fun (_ : Unit) W => LevT X kk ls bo n0 pre x W) := by
  rintro s W W' row hL hg hr
  obtain ⟨h1, h2, b, o, c, hx, hb, hlo, hn, hR⟩ := hL
  have hbk : W'.heap[bo]? = W.heap[bo]? := hg.block bo hlo (fun e => by have := (hr bo e.symm).1; omega)
  refine ⟨h1, h2, b, o, c, hx, Nat.lt_of_lt_of_le hb hg.size, Nat.lt_of_lt_of_le hlo hg.size, fun e => hn ?_, fun i hi j u hu => ?_⟩
  · unfold rowOf at e ⊢
    rw [World.cell?_of_block (a := ⟨bo, 0, none⟩) hbk] at e
    exact e
  · have h := hR i hi j u hu
    obtain ⟨cs, t, f, ho⟩ := cell_obj h
    refine (World.cell?_of_block (a := ⟨b, o + 32 * i + j, none⟩) (hg.block b hb (fun e => ?_))).trans h
    obtain ⟨_, o', ho', hc⟩ := hr b e.symm
    rw [ho] at ho'
    cases ho'
    cases hc

/-- an append onto the row that the box holds -/
theorem KeptP.appended {bo bi : Nat} {W W2 w3 : World} {v : Value} {p : Option Addr} {n c : Nat} (hv : v = .slice none 0 0 ∨ ∃ g n c, v = .slice (some ⟨g, 0, none⟩) n c) (hbo : W.cell? ⟨bo, 0, none⟩ = some v) (hW : Below W.heap.size W W2) (hg : W2.grownBy w3 v.ownBlock) (hv' : ∀ k n' c', (Value.slice p n c) = .slice (some ⟨k, 0, none⟩) n' c' → some k = v.ownBlock ∨ (W2.heap.size ≤ k ∧ k < w3.heap.size)) (hf : (w3.setCell ⟨bo, 0, none⟩ (.slice p n c)).cell? ⟨bo, 0, none⟩ = some (.slice p n c)) : KeptP bo bi W (w3.setCell ⟨bo, 0, none⟩ (.slice p n c)) := by
  have hs : (w3.setCell ⟨bo, 0, none⟩ (.slice p n c)).heap.size = w3.heap.size := by simp [World.setCell]
  have hrow : ∀ k, some k = v.ownBlock → rowOf W bo k := fun k e => by
    rcases hv with rfl | ⟨g, n, c, rfl⟩
    · cases e
    · cases e
      exact ⟨_, _, hbo⟩
  refine ⟨by rw [hs]; exact Nat.le_trans hW.size hg.size, fun k cs t f hk h1 h2 h3 => ?_, fun k hk => ?_⟩
  · have hkl := (Array.getElem?_eq_some_iff.1 hk).1
    rw [Below.heap_setCell _ _ _ _ h1, hg.block k (Nat.lt_of_lt_of_le hkl hW.size) (fun e => h3 (hrow k e)), hW.block k hkl]
  · obtain ⟨n', c', e⟩ := hk
    rw [hf] at e
    rcases hv' k n' c' (Option.some.inj e) with h | h
    · exact .inl (hrow k h)
    · exact .inr ⟨Nat.le_trans hW.size h.1, by rw [hs]; exact h.2⟩
theorem KeptP.set {bo bi : Nat} (W : World) (v : Value) (hne : bo ≠ bi) : KeptP bo bi W (W.setCell ⟨bi, 0, none⟩ v) := by
  refine ⟨by simp [World.setCell], fun k cs t f hk h1 h2 h3 => Below.heap_setCell _ _ _ _ h2, fun k hk => .inl ?_⟩
  unfold rowOf at hk ⊢
  rw [World.cell?_of_block (a := ⟨bo, 0, none⟩) (Below.heap_setCell _ _ _ _ hne)] at hk
  exact hk

/-- what a round of Path meets -/
def PathI (X kk : Nat → Int) (ls : List (List UInt8)) (i k N : Nat) (W0 : World) (pre : List (Value × List (List UInt8))) (W : World) : Prop :=
  ∃ v, Boxed W N 3 (.int .i64 ((i / 2 ^ pre.length : Nat) : Int)) ∧ Boxed W (N + 1) 33 v ∧ OwnH W0.heap.size W v (pathL X kk ls i pre.length) ∧ (pre = [] → v = .slice none 0 0) ∧ pre.length ≤ k ∧ Below N W0 W

theorem ownH_far {base : Nat} {w w' : World} {v : Value} {ls : List (List UInt8)} {row : Option Nat} (h : OwnH base w v ls) (hg : w.grownBy w' row) (hr : ∀ r, row = some r → ∃ o : Obj, w.heap[r]? = some o ∧ ∀ cs f, o ≠ .cells cs 30 f) : OwnH base w' v ls := by
  refine World.ownsRow.kept h hg ?_
  by_cases h0 : v.ownBlock = none
  · exact .inl h0
  · right
    intro e
    rcases h.2 with ⟨rfl, _⟩ | ⟨g, cap, cur, rfl, _, hh, _⟩
    · exact h0 rfl
    · obtain ⟨o, ho', hcc⟩ := hr g e.symm
      rw [hh] at ho'
      cases ho'
      exact hcc _ _ rfl

theorem pathI_any (X kk : Nat → Int) (ls : List (List UInt8)) (i k N : Nat) (W0 : World) (hN : N + 2 ≤ W0.heap.size) {pre : List (Value × List (List UInt8))} {W W' : World} {row : Option Nat} (h : PathI X kk ls i k N W0 pre W) (hg : W.grownBy W' row) (hr : ∀ r, row = some r → W0.heap.size ≤ r ∧ ∃ o : Obj, W.heap[r]? = some o ∧ ∀ cs f, o ≠ .cells cs 30 f) : PathI X kk ls i k N W0 pre W' := by
  obtain ⟨v, c0, c1, ho, hn, hk, hb⟩ := h
  exact ⟨v, c0.kept hg (fun e => by have := (hr N e.symm).1; omega), c1.kept hg (fun e => by have := (hr (N + 1) e.symm).1; omega), ownH_far ho hg (fun r e => (hr r e).2), hn, hk, hb.grown hg (by have := hb.size; omega) (fun r e => by have := (hr r e).1; omega)⟩

set_option maxHeartbeats 4000000 in
theorem path_any (X kk : Nat → Int) (v : Value) (ls : List (List UInt8)) (k i : Nat) (hk : k ≤ 3) (hl : ls.length = 2 ^ k) (hi : i < 2 ^ k) (hls : ∀ l ∈ ls, l.length = 32) (w : World) (hv : HRow w v ls) (hT : Tabs w X kk) (hk0 : 3 < w.heap.size) (hb0 : 0 < w.heap.size) :
    Calls Tryd.prog 17 #[v, .int .i64 (i : Int)] w fun e w' => ∃ v', e = .returned (.tuple #[v', .int .i64 0]) ∧ OwnH w.heap.size w' v' (pathL X kk ls i k) ∧ (k = 0 → v' = .slice none 0 0) ∧ Below w.heap.size w w' := by
  have hn8 : ls.length ≤ 8 := by
    rw [hl]
    exact Nat.le_trans (Nat.pow_le_pow_right (by omega) hk) (by decide)
  have hfit : fitsB ls.length = true := by
    rw [hl]
    match k, hk with
    | 0, _ | 1, _ | 2, _ | 3, _ => rfl
  have HF := Lib.hid (fits_any ls.length hn8)
  rw [hfit] at HF
  have HV := Lib.hid hv
  have HT := Lib.hid hT
  have HL := Lib.hid hl
  have HLS := Lib.hid hls
  obtain ⟨b, o, cap, rfl, hb, hcap, hrr⟩ := hv
  have HRR := Lib.hid hrr
  have hil : (i : Int) < (ls.length : Int) := by rw [hl]; omega
  have hnn : (0 : Int) ≤ (ls.length : Int) := by omega
  have hi8 : i < 8 := by omega
  clear hl hls hfit hT hi hrr
  refine callsIn_wide (n := 9).1 ?_
  refine callsIn_of_wp_marks Tryd.func17 rfl trivial ?_ rfl
  simp only [Tryd.ntmps17, List.size_toArray, List.length_cons, List.length_nil, Nat.reduceAdd, Nat.reduceSub, Array.replicate_succ, Array.replicate_zero, List.push_toArray, List.append_toArray, List.nil_append, List.cons_append]
  gi_wp2_with fail
  refine ⟨trivial, (callsIn_wide.2 (HF.out _)).mono ?_⟩
  rintro e1 w1 ⟨rfl, rfl⟩
  gi_wp2_with fail
  refine ⟨trivial, (levels_in Fence.wide 8 trivial rfl _ _ _ _).mono ?_⟩
  rintro e2 w2 ⟨rfl, rfl⟩
  gi_wp2_with fail
  try simp only [World.size_alloc]
  have c0 := ((Boxed.new w 3 (.int .i64 (i : Int))).alloc (.cells #[.slice none 0 0] 33)).alloc (.cells #[.slice (some ⟨b, o, none⟩) ls.length cap, (.func (.func 47) #[] #[])] 113)
  have c1 := (Boxed.new (w.alloc (.cells #[.int .i64 (i : Int)] 3)) 33 (.slice none 0 0)).alloc (.cells #[.slice (some ⟨b, o, none⟩) ls.length cap, (.func (.func 47) #[] #[])] 113)
  have q2 := World.alloc_heap_new ((w.alloc (.cells #[.int .i64 (i : Int)] 3)).alloc (.cells #[.slice none 0 0] 33)) (.cells #[.slice (some ⟨b, o, none⟩) ls.length cap, (.func (.func 47) #[] #[])] 113)
  simp only [World.size_alloc] at c1 q2
  have B2 : Below w.heap.size w (((w.alloc (.cells #[.int .i64 (i : Int)] 3)).alloc (.cells #[.slice none 0 0] 33)).alloc (.cells #[.slice (some ⟨b, o, none⟩) ls.length cap, (.func (.func 47) #[] #[])] 113)) := (((Below.refl w.heap.size w).alloc (by simp) _).alloc (by simp) _).alloc (by simp <;> omega) _
  have z2 : (((w.alloc (.cells #[.int .i64 (i : Int)] 3)).alloc (.cells #[.slice none 0 0] 33)).alloc (.cells #[.slice (some ⟨b, o, none⟩) ls.length cap, (.func (.func 47) #[] #[])] 113)).heap.size = w.heap.size + 3 := by simp
  generalize ((w.alloc (.cells #[.int .i64 (i : Int)] 3)).alloc (.cells #[.slice none 0 0] 33)).alloc (.cells #[.slice (some ⟨b, o, none⟩) ls.length cap, (.func (.func 47) #[] #[])] 113) = W0 at *
  have hmo : Tryd.prog.follows .mixedOrders = true := by kernel_rfl
  obtain ⟨i0, hin, hz0, hz1, hz2⟩ := info_parts info_hash
  have hseq := levels_told X kk 8 (by omega) (w.heap.size + 1) w.heap.size (w.heap.size + 1 + 1) w.heap.size b o cap k hk ls HL.out HLS.out W0 (by omega) (by omega) (by omega) (by omega) (by omega) (by omega) (by omega) hb hk0 hb0 (fun i h => rangeAt_low (HRR.out i h) hb B2) hcap q2 c1.cell (HT.out.below rfl B2)
  refine range_told_by rfl (by omega) (gf := 98) (lb := #[.pointer (some ⟨w.heap.size + 1 + 1, 0, none⟩)]) rfl trivial (enters_of Tryd.func98 (by kernel_rfl) rfl) hseq
    (fun h k => h.trans k) (fun W l o1 o2 hl h hc hw => KeptP.put (by omega) h hc) (fun _ => rfl) (fun pre x => levT_from X kk ls _ _ _ (by omega) pre x)
    (PathI X kk ls i k w.heap.size W0) (fun s A B row hs hg hr => pathI_any X kk ls i k _ W0 (by omega) hs hg (fun r e => ⟨(hr r e).1, by obtain ⟨o, h1, h2⟩ := (hr r e).2; exact ⟨o, h1, fun cs f e => by subst e; cases h2⟩⟩))
    (fun s A B row hs hg hr => pathI_any X kk ls i k _ W0 (by omega) hs hg (fun r e => ⟨(hr r e).1, by obtain ⟨o, h1, cs', f', h2⟩ := (hr r e).2; exact ⟨o, h1, fun cs f e => by rw [h2] at e; injection e with _ e; cases e⟩⟩))
    ⟨_, by simpa using c0, c1, OwnH.nil _ _, fun _ => rfl, by simp, Below.refl _ _⟩
    (fun x => { tmps := #[.slice (some ⟨b, o, none⟩) ls.length cap, .int .i64 (i : Int), undef, .pointer (some ⟨w.heap.size, 0, none⟩), .slice none 0 0, .int .i64 0, .pointer (some ⟨w.heap.size + 1, 0, none⟩), x.1, .slice (some ⟨b, o, none⟩) ls.length cap, .int .i64 (ls.length : Int), .bool true, .bool false, .bool false, .int .i64 (i : Int), .bool (decide ((i : Int) < 0)), .bool (decide ((i : Int) < 0)), .bool (decide ((i : Int) < 0)), .int .i64 (i : Int), .slice (some ⟨b, o, none⟩) ls.length cap, .int .i64 (ls.length : Int), .bool false, .bool (decide ((i : Int) < 0)), .slice (some ⟨b, o, none⟩) ls.length cap, .agg #[.slice (some ⟨b, o, none⟩) ls.length cap, (.func (.func 47) #[] #[])], .func (.func 98) #[] #[.pointer (some ⟨w.heap.size + 1 + 1, 0, none⟩)], x.1, undef, undef, undef, undef, undef, undef, undef, undef, undef, undef, undef], defers := [] }) ?assign ?body ?done
  case assign =>
    intro lp x W K hK
    gi_wp2
    exact hK
  case body =>
    rintro lp pre ⟨xv, l⟩ W ⟨v, d0, d1, ho, hnil, hpk, hB⟩ ⟨hU, hlen, b', o', c', hx, hb', hlo, hnr, hR⟩
    dsimp only at hU hlen hx hR
    subst hx
    have hWs := hB.size
    have hul := upN_length X kk pre.length (k - pre.length) ls (by rw [HL.out, show pre.length + (k - pre.length) = k by omega])
    have hue := upN_each X kk pre.length (k - pre.length) ls (by rw [HL.out, show pre.length + (k - pre.length) = k by omega]) HLS.out
    rw [← hU] at hul hue
    have hpk2 : pre.length < k := by
      rcases Nat.lt_or_ge pre.length k with h | h
      · exact h
      · rw [show k - pre.length = 0 by omega] at hul
        omega
    have hmd : i / 2 ^ pre.length < 2 ^ (k - pre.length) := by
      have h2 : i < 2 ^ k := by have := HL.out; omega
      rw [Nat.div_lt_iff_lt_mul (Nat.two_pow_pos _), ← Nat.pow_add, show k - pre.length + pre.length = k by omega]
      exact h2
    have hz : (i / 2 ^ pre.length) ^^^ 1 < l.length := by
      rw [hul]
      exact Nat.xor_lt_two_pow hmd (Nat.lt_of_lt_of_le (by decide : 1 < 2 ^ 1) (Nat.pow_le_pow_right (by omega) (by omega)))
    have HPL := Lib.hid (pathL_succ X kk ls i pre.length)
    rw [← hU, List.getD_eq_getElem?_getD, List.getElem?_eq_getElem hz, Option.getD_some] at HPL
    have hm8 : i / 2 ^ pre.length < 8 := Nat.lt_of_le_of_lt (Nat.div_le_self _ _) hi8
    have HX1 := xor1 (i / 2 ^ pre.length) (by omega)
    have HDV : Hid (i / 2 ^ (pre.length + 1) = i / 2 ^ pre.length / 2) := by
      rw [Nat.pow_succ, Nat.div_div_eq_div_mul]; exact Lib.hid rfl
    have hr := hR _ hz
    have hy32 := hue _ (List.getElem_mem hz)
    have hll : l.length ≤ 8 := by
      rw [hul]
      exact Nat.le_trans (Nat.pow_le_pow_right (by omega) (show k - pre.length ≤ 3 by omega)) (by decide)
    have HPLEN := Lib.hid (pathL_length X kk ls i pre.length)
    generalize pathL X kk ls i pre.length = pl at *
    generalize hpl2 : pathL X kk ls i (pre.length + 1) = pl2 at *
    have HP2 := Lib.hid hpl2
    clear hpl2
    generalize l[(i / 2 ^ pre.length) ^^^ 1] = y at *
    generalize (i / 2 ^ pre.length) ^^^ 1 = z at *
    generalize hM : i / 2 ^ pre.length = m at *
    have hzl : (z : Int) < (l.length : Int) := by omega
    rw [Nat.mul_comm] at hr
    have hia : (Tryd.prog.info? 30).map (·.size) = some (bytesV y).length := by rw [bytesV_length, hy32]; kernel_rfl
    have hfold : (bytesV y).zipIdx.foldl (fun cs x => cs.setIfInBounds x.snd x.fst) #[Value.int .u8 0, Value.int .u8 0, Value.int .u8 0, Value.int .u8 0, Value.int .u8 0, Value.int .u8 0, Value.int .u8 0, Value.int .u8 0, Value.int .u8 0, Value.int .u8 0, Value.int .u8 0, Value.int .u8 0, Value.int .u8 0, Value.int .u8 0, Value.int .u8 0, Value.int .u8 0, Value.int .u8 0, Value.int .u8 0, Value.int .u8 0, Value.int .u8 0, Value.int .u8 0, Value.int .u8 0, Value.int .u8 0, Value.int .u8 0, Value.int .u8 0, Value.int .u8 0, Value.int .u8 0, Value.int .u8 0, Value.int .u8 0, Value.int .u8 0, Value.int .u8 0, Value.int .u8 0] = (bytesV y).toArray := fold_all _ _ (by rw [bytesV_length, hy32]; rfl)
    have hbl : (bytesV y).length = 32 := by rw [bytesV_length, hy32]
    have HIA := Lib.hid hia
    have HR := Lib.hid hr
    have HUE := Lib.hid hue
    clear hia hr hR hue hU hul hlen hmd hm8 hll
    have k0 : W.drew.cell? ⟨w.heap.size + 1, 0, none⟩ = some v := d1.cell
    have S0 : W.drew.cell? ⟨w.heap.size, 0, none⟩ = some (.int .i64 (m : Int)) ∧ W.drew.rangeAt b' (o' + z * 32) (bytesV y) := ⟨d0.cell, HR.out⟩
    gi_wp2
    refine wpIn_region_held (fun w' => w'.cell? ⟨w.heap.size, 0, none⟩ = some (.int .i64 (m : Int)) ∧ w'.rangeAt b' (o' + z * 32) (bytesV y)) hmo ?_
    refine HeldIn.take (Plainly.of (by kernel_rfl)) 1 _ (.slice (some ⟨b', o', none⟩) l.length c') rfl (by kernel_rfl) (by kernel_rfl) (fun _ _ _ h => h) S0 ⟨by kernel_rfl, fun w _ => by go_simp, fun _ => rfl⟩ ?_
    go_simp
    refine HeldIn.take (Plainly.of (by kernel_rfl)) 2 _ (.int .i64 (m : Int)) rfl (by kernel_rfl) (by kernel_rfl) (fun _ _ _ h => h) S0 ⟨by kernel_rfl, fun w h => by have h1 := h.1; go_simp, fun _ => rfl⟩ ?_
    go_simp
    refine HeldIn.take (Plainly.of (by kernel_rfl)) 3 _ (.int .i64 (z : Int)) rfl (by kernel_rfl) (by kernel_rfl) (fun _ _ _ h => h) S0 ⟨by kernel_rfl, fun w _ => by go_simp, fun _ => rfl⟩ ?_
    go_simp
    refine HeldIn.take (Plainly.of (by kernel_rfl)) 4 _ (.pointer (some ⟨b', o' + z * 32, none⟩)) rfl (by kernel_rfl) (by kernel_rfl) (fun _ _ _ h => h) S0 ⟨by kernel_rfl, fun w h => by go_simp, fun _ => rfl⟩ ?_
    go_simp
    refine HeldIn.take (Plainly.of (by kernel_rfl)) 5 _ (.agg (bytesV y).toArray) rfl (by kernel_rfl) (by kernel_rfl) (fun _ _ _ h => h) S0 ⟨by kernel_rfl, fun w h => gives_agg _ _ rfl b' (o' + z * 32) rfl (bytesV y) _ h.2 Tryd.underlying30 rfl HIA.out, fun _ => rfl⟩ ?_
    go_simp
    -- behind the literal of one sum, and behind the append
    have bA : Below W.heap.size W (W.drew.alloc (.cells (bytesV y).toArray 30)) := (Below.refl W.heap.size W).drew.alloc (Nat.le_refl _) _
    have sA : (W.drew.alloc (.cells (bytesV y).toArray 30)).heap.size = W.heap.size + 1 := by simp
    have nA := World.alloc_heap_new W.drew (.cells (bytesV y).toArray 30)
    obtain ⟨WA, hWA⟩ : ∃ WA, W.drew.alloc (.cells (bytesV y).toArray 30) = WA := ⟨_, rfl⟩
    rw [hWA] at bA sA nA
    have hWA' : (W.alloc (.cells (bytesV y).toArray 30)).drew = WA := hWA
    have S1 : WA.cell? ⟨w.heap.size, 0, none⟩ = some (.int .i64 (m : Int)) ∧ WA.rangeAt b' (o' + z * 32) (bytesV y) := ⟨(boxed_low d0 bA).cell, rangeAt_low HR.out hb' bA⟩
    have e0 := boxed_low d0 bA
    have e1 := boxed_low d1 bA
    have k1 := e1.cell
    have hOA : WA.ownsRow W0.heap.size 30 32 v pre.length (pl.flatMap bytesV) := by
      have h := ownH_far (row := none) ho ⟨bA.os, bA.tape, bA.output, bA.size, fun k hk _ => bA.block k hk⟩ (fun r e => by cases e)
      rw [OwnH, HPLEN.out] at h
      exact h
    obtain ⟨v', w3, hrun, ho3, hg3, hnz, hown⟩ := run_append_own_at (P := Tryd.prog) WA W0.heap.size 33 33 30 i0 (.agg (Array.replicate 32 (.int .u8 0))) 32 32 Tryd.underlying33 hin hz0 hz1 hz2 (by simp [Value.cells]) (by decide) v pre.length _ hOA ⟨W.heap.size, 0, none⟩ 1 1 (bytesV y) (by rw [hbl]) (World.news_of_block nA) (bytesV_cell y) (by unfold maxLen; omega) (by omega) (by rw [sA]; omega)
    rw [appTreePath_fold] at hrun
    obtain ⟨p', n', c2, rfl⟩ : ∃ p n c, v' = .slice p n c := by
      rcases ho3.2 with ⟨h, _⟩ | ⟨g, c, cur, h, _⟩
      · exact ⟨_, _, _, h⟩
      · exact ⟨_, _, _, h⟩
    have hvf : v = .slice none 0 0 ∨ ∃ g n c, v = .slice (some ⟨g, 0, none⟩) n c := by
      rcases hOA.2 with ⟨h, _⟩ | ⟨g, c, cur, h, _⟩
      · exact .inl h
      · exact .inr ⟨_, _, _, h⟩
    have hrow : ∀ k, v.ownBlock = some k → W0.heap.size ≤ k := fun k e => (World.ownsRow.lt hOA k e).1
    have g0 : Boxed w3 w.heap.size 3 (.int .i64 (m : Int)) := e0.kept hg3 (fun e => by have := hrow _ e.symm; omega)
    have g1 : Boxed w3 (w.heap.size + 1) 33 v := e1.kept hg3 (fun e => by have := hrow _ e.symm; omega)
    have hbne : some b' ≠ v.ownBlock := by
      intro e
      rcases hvf with rfl | ⟨g, n, c, rfl⟩
      · cases e
      · cases e
        exact hnr ⟨_, _, d1.cell⟩
    have S2 : w3.cell? ⟨w.heap.size, 0, none⟩ = some (.int .i64 (m : Int)) ∧ w3.rangeAt b' (o' + z * 32) (bytesV y) := ⟨g0.cell, fun j u hu => (World.cell?_of_block (a := ⟨b', o' + z * 32 + j, none⟩) (hg3.block b' (by omega) hbne)).trans (S1.2 j u hu)⟩
    have k2 := g1.cell
    have f2 := g1.frozen
    have l2 := g1.lt
    have hbo' : b' ≠ w.heap.size + 1 := by
      rintro rfl
      have hh := S1.2 0 (.int .u8 ((y[0]'(by omega)).toNat : Int)) (by simp [bytesV, hy32])
      have hh2 := e1
      unfold Boxed at hh2
      simp only [World.cell?, hh2] at hh
      rcases hq : o' + z * 32 + 0 with _ | q
      · rw [hq] at hh
        simp at hh
        rcases hvf with rfl | ⟨g, n, c, rfl⟩ <;> cases hh
      · rw [hq] at hh; simp at hh
    have h1 : Boxed (w3.setCell ⟨w.heap.size + 1, 0, none⟩ (.slice p' n' c2)) (w.heap.size + 1) 33 (.slice p' n' c2) := g1.set _
    have h0 : Boxed (w3.setCell ⟨w.heap.size + 1, 0, none⟩ (.slice p' n' c2)) w.heap.size 3 (.int .i64 (m : Int)) := (Below.heap_setCell _ _ _ _ (by show w.heap.size ≠ w.heap.size + 1; omega)).trans g0
    have S3 : (w3.setCell ⟨w.heap.size + 1, 0, none⟩ (.slice p' n' c2)).cell? ⟨w.heap.size, 0, none⟩ = some (.int .i64 (m : Int)) ∧ (w3.setCell ⟨w.heap.size + 1, 0, none⟩ (.slice p' n' c2)).rangeAt b' (o' + z * 32) (bytesV y) := ⟨h0.cell, fun j u hu => (World.cell?_of_block (a := ⟨b', o' + z * 32 + j, none⟩) (Below.heap_setCell _ _ _ _ hbo')).trans (S2.2 j u hu)⟩
    have K1 : KeptP (w.heap.size + 1) w.heap.size W (w3.setCell ⟨w.heap.size + 1, 0, none⟩ (.slice p' n' c2)) := KeptP.appended hvf d1.cell bA hg3 (fun k n'' c'' e => by
      have hb2 : (Value.slice p' n' c2).ownBlock = some k := by rw [e]; rfl
      rcases hown with h | h
      · exact .inl (by rw [← h, hb2])
      · rw [hb2] at h
        exact .inr ⟨by have := Option.some.inj h; omega, (World.ownsRow.lt ho3 k hb2).2⟩) h1.cell
    have ho4 : OwnH W0.heap.size (w3.setCell ⟨w.heap.size + 1, 0, none⟩ (.slice p' n' c2)) (.slice p' n' c2) pl2 := by
      rw [OwnH, HPL.out, List.length_append, List.flatMap_append, List.flatMap_singleton, HPLEN.out]
      refine World.ownsRow.kept ho3 (grownBy_setCell' w3 (w.heap.size + 1) (.slice p' n' c2)) (.inr (fun e => ?_))
      have := (World.ownsRow.lt ho3 _ e).1
      omega
    have hko : KeepsOthers W (w3.setCell ⟨w.heap.size + 1, 0, none⟩ (.slice p' n' c2)) := (keeps_low bA).trans ((KeepsOthers.of_grownBy hg3 (fun j o e1 e2 => by
        rcases hOA.2 with ⟨rfl, _⟩ | ⟨g, cap, cur, rfl, _, hh, _⟩
        · cases e1
        · injection e1 with e1
          simp only at e1
          subst e1
          rw [hh] at e2
          cases e2
          rfl)).trans (KeepsOthers.setCell _ _ _))
    have hB4 : Below w.heap.size W0 (w3.setCell ⟨w.heap.size + 1, 0, none⟩ (.slice p' n' c2)) := ((hB.trans (bA.mono (by omega))).grown hg3 (by omega) (fun k e => by have := hrow k e; omega)).setCell (p := ⟨w.heap.size + 1, 0, none⟩) (by simp) _
    have kk0 := h0.cell
    have kf0 := h0.frozen
    have HO4 := Lib.hid ho4
    have HK1 := Lib.hid K1
    have HKO := Lib.hid hko
    have HB4 := Lib.hid hB4
    clear ho4 K1 hko hB4 hown hnz ho3 hg3
    refine HeldIn.all [0, 6] (by kernel_rfl) (by simp) (HeldAll.cons rfl (by kernel_rfl) (fun K hK => ?_) (HeldAll.cons rfl (by kernel_rfl) (fun K hK => ?_) HeldAll.nil))
    · go_simp
      refine hK _ _ S0 ?_
      clear hK K
      refine HeldIn.all [6] (by kernel_rfl) (by simp) (HeldAll.cons rfl (by kernel_rfl) (fun K hK => ?_) HeldAll.nil)
      go_simp
      refine hK _ _ S1 ?_
      clear hK K
      refine HeldIn.all [7] (by kernel_rfl) (by simp) (HeldAll.cons rfl (by kernel_rfl) (fun K hK => ?_) HeldAll.nil)
      go_simp
      refine hK _ _ S2 ?_
      clear hK K
      refine HeldIn.all [8] (by kernel_rfl) (by simp) (HeldAll.cons rfl (by kernel_rfl) (fun K hK => ?_) HeldAll.nil)
      go_simp
      refine hK _ _ S3 ?_
      clear hK K
      refine HeldIn.done (by kernel_rfl) ?_ _
      gi_wp2
      have hlp : (pre ++ [(Value.slice (some ⟨b', o', none⟩) l.length c', l)]).length = pre.length + 1 := by simp
      have hm2 : ((i / 2 ^ (pre.length + 1) : Nat) : Int) = (m : Int) / 2 := by rw [HDV.out]; omega
      refine ⟨(HKO.out.trans (KeepsOthers.setCell _ _ _)).from _, HK1.out.trans (KeptP.set _ _ (by omega)), ⟨_, ?_, (Below.heap_setCell _ _ _ _ (by show w.heap.size + 1 ≠ w.heap.size; omega)).trans h1, ?_, fun h => by simp at h, by rw [hlp]; omega, HB4.out.setCell (p := ⟨w.heap.size, 0, none⟩) (Nat.le_refl _) _⟩⟩
      · rw [hlp, hm2]
        exact h0.set _
      · rw [hlp, HP2.out]
        exact ownH_far HO4.out (grownBy_setCell' _ _ _) (fun r e => by cases e; exact ⟨_, h0, fun cs f e => by injection e with _ e; cases e⟩)
    · go_simp
      refine hK _ _ S1 ?_
      clear hK K
      refine HeldIn.all [0] (by kernel_rfl) (by simp) (HeldAll.cons rfl (by kernel_rfl) (fun K hK => ?_) HeldAll.nil)
      go_simp
      refine hK _ _ S1 ?_
      clear hK K
      refine HeldIn.all [7] (by kernel_rfl) (by simp) (HeldAll.cons rfl (by kernel_rfl) (fun K hK => ?_) HeldAll.nil)
      go_simp
      refine hK _ _ S2 ?_
      clear hK K
      refine HeldIn.all [8] (by kernel_rfl) (by simp) (HeldAll.cons rfl (by kernel_rfl) (fun K hK => ?_) HeldAll.nil)
      go_simp
      refine hK _ _ S3 ?_
      clear hK K
      refine HeldIn.done (by kernel_rfl) ?_ _
      gi_wp2
      have hlp : (pre ++ [(Value.slice (some ⟨b', o', none⟩) l.length c', l)]).length = pre.length + 1 := by simp
      have hm2 : ((i / 2 ^ (pre.length + 1) : Nat) : Int) = (m : Int) / 2 := by rw [HDV.out]; omega
      refine ⟨(HKO.out.trans (KeepsOthers.setCell _ _ _)).from _, HK1.out.trans (KeptP.set _ _ (by omega)), ⟨_, ?_, (Below.heap_setCell _ _ _ _ (by show w.heap.size + 1 ≠ w.heap.size; omega)).trans h1, ?_, fun h => by simp at h, by rw [hlp]; omega, HB4.out.setCell (p := ⟨w.heap.size, 0, none⟩) (Nat.le_refl _) _⟩⟩
      · rw [hlp, hm2]
        exact h0.set _
      · rw [hlp, HP2.out]
        exact ownH_far HO4.out (grownBy_setCell' _ _ _) (fun r e => by cases e; exact ⟨_, h0, fun cs f e => by injection e with _ e; cases e⟩)
  case done =>
    rintro D xs W hD hS ⟨v', d0, d1, ho, hnil, hpk, hB⟩ hK
    have k0 := d1.cell
    gi_wp2
    refine ⟨by simp, .inl ⟨_, _, rfl, run_takeDeferred hK, ?_⟩⟩
    refine ⟨.tuple #[v', .int .i64 0], ?_, v', rfl, ?_, fun h => hnil (List.length_eq_zero_iff.1 (by omega)), ?_⟩
    · simp [results, Tryd.f17, go_sem]
    · have h := ownH_far (row := some D) ho (grownBy_putObj' W D (.deferred none)) (fun r e => by cases e; exact ⟨_, hK, fun cs f e => by cases e⟩)
      rw [hS] at h
      exact ⟨h.1, h.2.imp_right (fun ⟨g, cap, cur, e, hg, r⟩ => ⟨g, cap, cur, e, Nat.le_trans (by omega) hg, r⟩)⟩
    · exact (B2.trans hB).trans (belowK_b (w := w) (Nat.le_refl _) W D _ _ (by omega) hK rfl rfl)
end Tree
end Go.Proofs.YtbgjoefpnjgdkaaDoor
