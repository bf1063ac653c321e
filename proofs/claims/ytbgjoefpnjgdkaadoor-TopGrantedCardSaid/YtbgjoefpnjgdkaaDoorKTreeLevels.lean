/- tree: the iterator of all levels from the leaves to below the root. -/
import Derived.Test.YtbgjoefpnjgdkaaDoorKTreeClimb
import Derived.Test.YtbgjoefpnjgdkaaDoorKOneSeq
import Derived.Test.YtbgjoefpnjgdkaaDoorKToldBy
namespace Go.Proofs.YtbgjoefpnjgdkaaDoor
open Go.RowKit Go.Shelf
set_option linter.unusedVariables false
set_option linter.unusedSimpArgs false
set_option maxRecDepth 100000
attribute [local go_sem] Oper.semAt_some
namespace Tree
open Sha
set_option maxHeartbeats 1000000 in
theorem levels_in (F : Fence) (n : Nat) (hF : F.fn 50) (hro : F.round = none) (p : Option Addr) (m c : Nat) (w : World) :
    CallsIn F n Tryd.prog 50 #[.agg #[.slice p m c, (.func (.func 47) #[] #[])]] w fun e w' => e = .returned (.func (.func 98) #[] #[.pointer (some ⟨w.heap.size, 0, none⟩)]) ∧
      w' = w.alloc (.cells #[.slice p m c, (.func (.func 47) #[] #[])] 113) := by
  refine callsIn_of_wp Tryd.func50 rfl hF ?_ hro
  simp only [Tryd.ntmps50, List.size_toArray, List.length_cons, List.length_nil, Nat.reduceAdd, Nat.reduceSub, Array.replicate_succ, Array.replicate_zero, List.push_toArray, List.append_toArray, List.nil_append, List.cons_append]
  gi_wp2
  go_ret
  exact ⟨rfl, rfl⟩

/-- block k is the row of the slice that lies in box bo -/
def rowOf (A : World) (bo k : Nat) : Prop := ∃ n c, A.cell? ⟨bo, 0, none⟩ = some (.slice (some ⟨k, 0, none⟩) n c)
/-- what a round must leave as it was: all cells but those of its two boxes and of its own row -/
structure KeptP (bo bi : Nat) (A B : World) : Prop where
  size : A.heap.size ≤ B.heap.size
  same : ∀ k cs t f, A.heap[k]? = some (.cells cs t f) → k ≠ bo → k ≠ bi → ¬ rowOf A bo k → B.heap[k]? = A.heap[k]?
  row : ∀ k, rowOf B bo k → rowOf A bo k ∨ (A.heap.size ≤ k ∧ k < B.heap.size)
theorem KeptP.trans {bo bi : Nat} {A B C : World} (h : KeptP bo bi A B) (g : KeptP bo bi B C) : KeptP bo bi A C := by
  refine ⟨Nat.le_trans h.size g.size, fun k cs t f hk h1 h2 h3 => ?_, fun k hk => ?_⟩
  · have e := h.same k cs t f hk h1 h2 h3
    refine (g.same k cs t f (e.trans hk) h1 h2 (fun hr => ?_)).trans e
    rcases h.row k hr with h4 | h4
    · exact h3 h4
    · have := (Array.getElem?_eq_some_iff.1 hk).1
      omega
  · rcases g.row k hk with h4 | h4
    · rcases h.row k h4 with h5 | h5
      · exact .inl h5
      · exact .inr ⟨h5.1, Nat.lt_of_lt_of_le h5.2 g.size⟩
    · exact .inr ⟨Nat.le_trans h.size h4.1, h4.2⟩
theorem KeptP.put {bo bi l : Nat} {W : World} {o o' : Obj} (hbo : bo ≠ l) (h : W.heap[l]? = some o) (hc : o.isCells = false) : KeptP bo bi W (W.putObj l o') := by
  refine ⟨by simp, fun k cs t f hk _ _ _ => World.putObj_heap_other (fun e => ?_), fun k hk => .inl ?_⟩
  · subst e; rw [h] at hk; cases hk; cases hc
  · obtain ⟨n, c, e⟩ := hk
    exact ⟨n, c, by rw [← e]; exact (World.cell?_of_block (a := ⟨bo, 0, none⟩) (World.putObj_heap_other hbo)).symm⟩
theorem rowOf_low {A B : World} {bo k : Nat} (hb : Below A.heap.size A B) (hl : bo < A.heap.size) : rowOf B bo k ↔ rowOf A bo k := by
  unfold rowOf
  rw [hb.cell (p := ⟨bo, 0, none⟩) hl]

/-- what the iterator tells of a level: it is the one so many levels up, and lies there -/
def LevT (X kk : Nat → Int) (ls : List (List UInt8)) (bo n0 : Nat) (pre : List (Value × List (List UInt8))) (x : Value × List (List UInt8)) (W : World) : Prop :=
  x.2 = upN X kk pre.length ls ∧ 1 < x.2.length ∧ ∃ b o c, x.1 = .slice (some ⟨b, o, none⟩) x.2.length c ∧ b < W.heap.size ∧ bo < W.heap.size ∧ ¬ rowOf W bo b ∧ ∀ i (h : i < x.2.length), W.rangeAt b (o + 32 * i) (bytesV x.2[i])

theorem upN_succ (X kk : Nat → Int) : ∀ (j : Nat) (ls : List (List UInt8)), upN X kk (j + 1) ls = upL X kk (upN X kk j ls)
  | 0, ls => rfl
  | j + 1, ls => by rw [upN, upN_succ X kk j, upN]
theorem upN_each (X kk : Nat → Int) : ∀ (j d : Nat) (ls : List (List UInt8)), ls.length = 2 ^ (j + d) → (∀ l ∈ ls, l.length = 32) → ∀ l ∈ upN X kk j ls, l.length = 32
  | 0, d, ls, h, he => he
  | j + 1, d, ls, h, he => by
    rw [upN]
    have hm : ls.length = 2 * 2 ^ (j + d) := by rw [h, show j + 1 + d = (j + d) + 1 by omega, Nat.pow_succ]; omega
    exact upN_each X kk j d _ (upL_length X kk _ ls hm) (upL_each X kk _ ls hm)

/-- what holds at each turn of the iterator: its box nb, the level that lies in block b' -/
structure LevI (X kk : Nat → Int) (ls : List (List UInt8)) (bo bi n0 : Nat) (wr : World) (nb : Nat) (l : List (List UInt8)) (b' o' c' : Nat) : Prop where
  box : wr.heap[nb]? = some (.cells #[.slice (some ⟨b', o', none⟩) l.length c', (.func (.func 47) #[] #[])] 113 (0, 0))
  nb1 : nb ≠ bo
  nb2 : nb ≠ bi
  nb3 : ¬ rowOf wr bo nb
  b1 : b' ≠ bo
  b2 : b' ≠ bi
  b3 : ¬ rowOf wr bo b'
  b4 : b' < wr.heap.size
  cap : l.length ≤ c'
  pos : 0 < l.length
  each : ∀ x ∈ l, x.length = 32
  row : ∀ i (h : i < l.length), wr.rangeAt b' (o' + 32 * i) (bytesV l[i])
  tabs : Tabs wr X kk
  rows : ∀ r, rowOf wr bo r → n0 ≤ r ∧ r < wr.heap.size
  lo : bo < wr.heap.size
  li : bi < wr.heap.size

theorem cell_obj {w : World} {k j : Nat} {v : Value} (h : w.cell? ⟨k, j, none⟩ = some v) : ∃ cs t f, w.heap[k]? = some (.cells cs t f) := by
  unfold World.cell? at h
  cases hk : w.heap[k]? with
  | none => simp [hk] at h
  | some o => cases o <;> simp_all

theorem LevI.low {X kk : Nat → Int} {ls : List (List UInt8)} {bo bi n0 nb b' o' c' : Nat} {l : List (List UInt8)} {wr W : World} (h : LevI X kk ls bo bi n0 wr nb l b' o' c') (hb : Below wr.heap.size wr W) : LevI X kk ls bo bi n0 W nb l b' o' c' := by
  have hnb := (Array.getElem?_eq_some_iff.1 h.box).1
  exact ⟨(hb.block nb hnb).trans h.box, h.nb1, h.nb2, fun e => h.nb3 ((rowOf_low hb h.lo).1 e), h.b1, h.b2, fun e => h.b3 ((rowOf_low hb h.lo).1 e), Nat.lt_of_lt_of_le h.b4 hb.size, h.cap, h.pos, h.each, fun i hi => rangeAt_low (h.row i hi) h.b4 hb, h.tabs.below rfl hb,
    fun r e => ⟨(h.rows r ((rowOf_low hb h.lo).1 e)).1, Nat.lt_of_lt_of_le (h.rows r ((rowOf_low hb h.lo).1 e)).2 hb.size⟩, Nat.lt_of_lt_of_le h.lo hb.size, Nat.lt_of_lt_of_le h.li hb.size⟩

theorem LevI.kept {X kk : Nat → Int} {ls : List (List UInt8)} {bo bi n0 nb b' o' c' : Nat} {l : List (List UInt8)} {wr W : World} (h : LevI X kk ls bo bi n0 wr nb l b' o' c') (hk : KeptP bo bi wr W) (hn0 : n0 ≤ bo) (hn1 : n0 ≤ bi) (hk0 : 3 < n0) (hb0 : 0 < n0) : LevI X kk ls bo bi n0 W nb l b' o' c' := by
  have hb' : W.heap[b']? = wr.heap[b']? := by
    have hu : (bytesV (l[0]'h.pos))[0]? = some (.int .u8 ((((l[0]'h.pos))[0]'(by rw [h.each _ (List.getElem_mem _)]; omega)).toNat : Int)) := by simp [bytesV, h.each _ (List.getElem_mem h.pos)]
    obtain ⟨cs, t, f, ho⟩ := cell_obj (h.row 0 h.pos 0 _ hu)
    exact hk.same b' cs t f ho h.b1 h.b2 h.b3
  have hnb := hk.same nb _ _ _ h.box h.nb1 h.nb2 h.nb3
  have lt := fun k (e : k < n0) => fun (er : rowOf wr bo k) => (Nat.not_lt.2 (h.rows k er).1) e
  have hK : W.heap[3]? = wr.heap[3]? := by
    obtain ⟨cs, t, f, ho⟩ := cell_obj (h.tabs.k.cell 0 (by omega))
    exact hk.same _ cs t f ho (by omega) (by omega) (lt _ hk0)
  have hX : W.heap[0]? = wr.heap[0]? := by
    obtain ⟨cs, t, f, ho⟩ := cell_obj (h.tabs.x.cell 0 (by omega))
    exact hk.same _ cs t f ho (by omega) (by omega) (lt _ hb0)
  have hnbl := (Array.getElem?_eq_some_iff.1 h.box).1
  have far : ∀ r, r < wr.heap.size → ¬ rowOf wr bo r → ¬ rowOf W bo r := fun r hr hn e => by
    rcases hk.row r e with h1 | h1
    · exact hn h1
    · omega
  exact ⟨hnb.trans h.box, h.nb1, h.nb2, far nb hnbl h.nb3, h.b1, h.b2, far b' h.b4 h.b3, Nat.lt_of_lt_of_le h.b4 hk.size, h.cap, h.pos, h.each, fun i hi j u hu => (World.cell?_of_block (a := ⟨b', o' + 32 * i + j, none⟩) hb').trans (h.row i hi j u hu),
    ⟨⟨Nat.lt_of_lt_of_le h.tabs.x.size hk.size, fun j hj => (World.cell?_of_block (a := ⟨0, j, none⟩) hX).trans (h.tabs.x.cell j hj)⟩, ⟨Nat.lt_of_lt_of_le h.tabs.k.size hk.size, fun j hj => (World.cell?_of_block (a := ⟨3, j, none⟩) hK).trans (h.tabs.k.cell j hj)⟩⟩,
    fun r e => by
      rcases hk.row r e with h1 | h1
      · exact ⟨(h.rows r h1).1, Nat.lt_of_lt_of_le (h.rows r h1).2 hk.size⟩
      · exact ⟨by have := h.lo; omega, h1.2⟩, Nat.lt_of_lt_of_le h.lo hk.size, Nat.lt_of_lt_of_le h.li hk.size⟩

/-- the iterator's new box, and the level above in it -/
theorem LevI.next {X kk : Nat → Int} {ls : List (List UInt8)} {bo bi n0 nb b' o' c' b2 o2 c2 : Nat} {l l2 : List (List UInt8)} {w4 : World} {v0 : Value} (h : LevI X kk ls bo bi n0 w4 nb l b' o' c') (N : Nat) (hN : N < w4.heap.size) (hNo : N ≠ bo) (hNi : N ≠ bi) (hNr : ¬ rowOf w4 bo N)
    (hbox : w4.heap[N]? = some (.cells #[v0, (.func (.func 47) #[] #[])] 113 (0, 0))) (hv0 : ∀ c : Int, v0 ≠ .int .u8 c) (hb2 : b2 < w4.heap.size) (hb2o : b2 ≠ bo) (hb2i : b2 ≠ bi) (hb2r : ¬ rowOf w4 bo b2) (hc2 : l2.length ≤ c2) (hp2 : 0 < l2.length) (he2 : ∀ x ∈ l2, x.length = 32) (hr2 : ∀ i (h : i < l2.length), w4.rangeAt b2 (o2 + 32 * i) (bytesV l2[i])) (hn0 : n0 ≤ N) (hk0 : 3 < n0) (hb0 : 0 < n0) :
    LevI X kk ls bo bi n0 ((w4.setCell ⟨N, 0, none⟩ (.slice (some ⟨b2, o2, none⟩) l2.length c2)).setCell ⟨N, 1, none⟩ (.func (.func 47) #[] #[])) N l2 b2 o2 c2 := by
  have hne : b2 ≠ N := HRow.ne (cap := c2) (n := 0) hr2 hp2 he2 hbox hv0 (by intro c h; cases h)
  have hX : ∀ k, k ≠ N → ((w4.setCell ⟨N, 0, none⟩ (.slice (some ⟨b2, o2, none⟩) l2.length c2)).setCell ⟨N, 1, none⟩ (.func (.func 47) #[] #[])).heap[k]? = w4.heap[k]? := fun k hk => (Below.heap_setCell _ _ _ _ hk).trans (Below.heap_setCell _ _ _ _ hk)
  have hro : ∀ r, rowOf ((w4.setCell ⟨N, 0, none⟩ (.slice (some ⟨b2, o2, none⟩) l2.length c2)).setCell ⟨N, 1, none⟩ (.func (.func 47) #[] #[])) bo r ↔ rowOf w4 bo r := fun r => by
    unfold rowOf
    rw [World.cell?_of_block (a := ⟨bo, 0, none⟩) (hX bo hNo.symm)]
  have hs : ((w4.setCell ⟨N, 0, none⟩ (.slice (some ⟨b2, o2, none⟩) l2.length c2)).setCell ⟨N, 1, none⟩ (.func (.func 47) #[] #[])).heap.size = w4.heap.size := by simp [World.setCell]
  refine ⟨?_, hNo, hNi, fun e => hNr ((hro N).1 e), hb2o, hb2i, fun e => hb2r ((hro b2).1 e), by rw [hs]; exact hb2, hc2, hp2, he2, fun i hi j u hu => (World.cell?_of_block (a := ⟨b2, o2 + 32 * i + j, none⟩) (hX b2 hne)).trans (hr2 i hi j u hu), ?_, fun r e => by rw [hs]; exact h.rows r ((hro r).1 e), by rw [hs]; exact h.lo, by rw [hs]; exact h.li⟩
  · simp only [World.setCell]
    rw [Array.getElem?_modify, if_pos rfl, Array.getElem?_modify, if_pos rfl, hbox]
    rfl
  · exact ⟨⟨by rw [hs]; exact h.tabs.x.size, fun j hj => (World.cell?_of_block (a := ⟨0, j, none⟩) (hX 0 (by omega))).trans (h.tabs.x.cell j hj)⟩, ⟨by rw [hs]; exact h.tabs.k.size, fun j hj => (World.cell?_of_block (a := ⟨3, j, none⟩) (hX 3 (by omega))).trans (h.tabs.k.cell j hj)⟩⟩

set_option maxHeartbeats 4000000 in
theorem levels_told (X kk : Nat → Int) (n : Nat) (hn : 3 ≤ n) (bo bi Bn n0 b o cap k : Nat) (hk3 : k ≤ 3) (ls : List (List UInt8)) (hl : ls.length = 2 ^ k) (hls : ∀ l ∈ ls, l.length = 32) (w : World)
    (hbo : bo < w.heap.size) (hbi : bi < w.heap.size) (hBn : Bn < w.heap.size) (hne1 : Bn ≠ bo) (hne2 : Bn ≠ bi) (hn0 : n0 ≤ bo) (hn1 : n0 ≤ bi) (hb : b < n0) (hk0 : 3 < n0) (hb0 : 0 < n0)
    (hrow : ∀ i (h : i < ls.length), w.rangeAt b (o + 32 * i) (bytesV ls[i])) (hcap : ls.length ≤ cap) (hbox : w.heap[Bn]? = some (.cells #[.slice (some ⟨b, o, none⟩) ls.length cap, (.func (.func 47) #[] #[])] 113 (0, 0)))
    (hnil : w.cell? ⟨bo, 0, none⟩ = some (.slice none 0 0)) (hT : Tabs w X kk) :
    ToldBy Fence.wide n Tryd.prog 98 #[.pointer (some ⟨Bn, 0, none⟩)] (fun x => #[x.1]) (KeptP bo bi) (LevT X kk ls bo n0) (fun xs => xs.length = k) (fun ob => ∃ cs f, ob = .cells cs 113 f) w := by
  intro lp J W hW hJ hY h0
  have hWs := hW.size
  have q1 : W.heap[Bn]? = some (.cells #[.slice (some ⟨b, o, none⟩) ls.length cap, (.func (.func 47) #[] #[])] 113 (0, 0)) := (hW.block Bn hBn).trans hbox
  have qn : W.cell? ⟨bo, 0, none⟩ = some (.slice none 0 0) := (hW.cell (p := ⟨bo, 0, none⟩) hbo).trans hnil
  have qT := hT.below rfl hW
  have qr : ∀ i (h : i < ls.length), W.rangeAt b (o + 32 * i) (bytesV ls[i]) := fun i h => rangeAt_low (hrow i h) (by omega) hW
  have k0 : W.cell? ⟨Bn, 0, none⟩ = some (.slice (some ⟨b, o, none⟩) ls.length cap) := by simp [World.cell?, q1]
  have k1 : W.cell? ⟨Bn, 1, none⟩ = some (.func (.func 47) #[] #[]) := by simp [World.cell?, q1]
  have hbo' : bo < W.heap.size := by omega
  have hbi' : bi < W.heap.size := by omega
  have HLS := Lib.hid hls
  have HL := Lib.hid hl
  have HQR := Lib.hid qr
  have HQT := Lib.hid qT
  have hnorow : ∀ r, ¬ rowOf W bo r := fun r ⟨n, c, e⟩ => by rw [qn] at e; cases e
  -- the first box of the iterator's own
  have L0 : LevI X kk ls bo bi n0 (W.alloc (.cells #[.slice (some ⟨b, o, none⟩) ls.length cap, (.func (.func 47) #[] #[])] 113)) W.heap.size ls b o cap := by
    have hba := (Below.refl W.heap.size W).alloc (Nat.le_refl _) (.cells #[.slice (some ⟨b, o, none⟩) ls.length cap, (.func (.func 47) #[] #[])] 113)
    have hno : ∀ r, ¬ rowOf (W.alloc (.cells #[.slice (some ⟨b, o, none⟩) ls.length cap, (.func (.func 47) #[] #[])] 113)) bo r := fun r e => hnorow r ((rowOf_low hba hbo').1 e)
    exact ⟨World.alloc_heap_new W _, by omega, by omega, hno _, by omega, by omega, hno _, by simp; omega, hcap, by rw [hl]; exact Nat.one_le_two_pow, hls, fun i h => rangeAt_low (qr i h) (by omega) hba, qT.below rfl hba, fun r e => absurd e (hno r), by simp; omega, by simp; omega⟩
  have J0 := hJ _ W (W.alloc (.cells #[.slice (some ⟨b, o, none⟩) ls.length cap, (.func (.func 47) #[] #[])] 113)) none h0 (World.grownBy_alloc W _ none) (fun r e => by cases e)
  have HL := Lib.hid hl
  have HLS := Lib.hid hls
  clear hl hls qr qT hrow hT hbox hnil hW hBn hbo hbi hnorow
  refine callsIn_of_wp Tryd.func98 rfl trivial ?_ rfl
  simp only [Tryd.ntmps98, List.size_toArray, List.length_cons, List.length_nil, Nat.reduceAdd, Nat.reduceSub, Array.replicate_succ, Array.replicate_zero, List.push_toArray, List.append_toArray, List.nil_append, List.cons_append]
  gi_wp2
  generalize W.alloc (.cells #[.slice (some ⟨b, o, none⟩) ls.length cap, (.func (.func 47) #[] #[])] 113) = W1 at *
  gi_loopw [3] (fun a wr => ∃ (nb j d : Nat) (l : List (List UInt8)) (b' o' c' : Nat) (pre : List (Value × List (List UInt8))), a = .pointer (some ⟨nb, 0, none⟩) ∧ Hid (j + d = k) ∧ Hid (l = upN X kk j ls) ∧ Hid (l.length = 2 ^ d) ∧ Hid (pre.length = j) ∧ Hid (LevI X kk ls bo bi n0 wr nb l b' o' c') ∧ n0 ≤ nb ∧ W.heap.size ≤ nb ∧ J pre wr)
    (fun a wr => match a with | .pointer (some p) => (match wr.cell? p with | some (.slice _ m _) => m | _ => 0) | _ => 0)
  case atStart => exact ⟨W.heap.size, 0, k, ls, b, o, cap, [], rfl, Lib.hid (by omega), Lib.hid rfl, HL, Lib.hid rfl, Lib.hid L0, by omega, Nat.le_refl _, J0⟩
  case round =>
    clear L0 J0
    obtain ⟨nb, j, d, l, b', o', c', pre, rfl, HJ, HU, HD, HP, HI, hnb, hnW, hJ1⟩ := hrel
    have m0 : wr.cell? ⟨nb, 0, none⟩ = some (.slice (some ⟨b', o', none⟩) l.length c') := by simp [World.cell?, HI.out.box]
    have m1 : wr.cell? ⟨nb, 1, none⟩ = some (.func (.func 47) #[] #[]) := by simp [World.cell?, HI.out.box]
    cases d with
    | succ d =>
      have hlen : 1 < l.length := by
        rw [HD.out, Nat.pow_succ]
        have := Nat.one_le_two_pow (n := d)
        omega
      have hleni : (1 : Int) < (l.length : Int) := by omega
      obtain ⟨fn, tmps, assign, body, hy, hR⟩ := hY pre (.slice (some ⟨b', o', none⟩) l.length c', l) wr hJ1 ⟨by rw [HP.out, HU.out], hlen, b', o', c', rfl, HI.out.b4, HI.out.lo, HI.out.b3, HI.out.row⟩
      dsimp only at hy
      gi_wp2
      refine ⟨fun _ => by omega, hR.mono ?_⟩
      rintro e W3 ⟨rfl, hJ3, hk3⟩
      have I3 := HI.out.kept hk3 hn0 hn1 hk0 hb0
      have p0 : W3.cell? ⟨nb, 0, none⟩ = some (.slice (some ⟨b', o', none⟩) l.length c') := by simp [World.cell?, I3.box]
      have p1 : W3.cell? ⟨nb, 1, none⟩ = some (.func (.func 47) #[] #[]) := by simp [World.cell?, I3.box]
      have hs3 := hk3.size
      have hba := (Below.refl W3.heap.size W3).alloc (Nat.le_refl _) (.cells #[.slice (some ⟨b', o', none⟩) l.length c', (.func (.func 47) #[] #[])] 113)
      have hnl := (Array.getElem?_eq_some_iff.1 HI.out.box).1
      have I4 := I3.low hba
      have hN4 : (W3.alloc (.cells #[.slice (some ⟨b', o', none⟩) l.length c', (.func (.func 47) #[] #[])] 113)).heap[W3.heap.size]? = some (.cells #[.slice (some ⟨b', o', none⟩) l.length c', (.func (.func 47) #[] #[])] 113 (0, 0)) := World.alloc_heap_new W3 _
      have J4 := hJ _ W3 (W3.alloc (.cells #[.slice (some ⟨b', o', none⟩) l.length c', (.func (.func 47) #[] #[])] 113)) none hJ3 (World.grownBy_alloc W3 _ none) (fun r e => by cases e)
      have hs4 : (W3.alloc (.cells #[.slice (some ⟨b', o', none⟩) l.length c', (.func (.func 47) #[] #[])] 113)).heap.size = W3.heap.size + 1 := by simp
      have hno4 : ∀ r, rowOf (W3.alloc (.cells #[.slice (some ⟨b', o', none⟩) l.length c', (.func (.func 47) #[] #[])] 113)) bo r → r < W3.heap.size := fun r e => (I3.rows r ((rowOf_low hba I3.lo).1 e)).2
      have hm : l.length = 2 * 2 ^ d := by rw [HD.out, Nat.pow_succ]; omega
      have hd8 : 2 ^ d ≤ 8 := Nat.le_trans (Nat.pow_le_pow_right (by omega) (show d ≤ 3 by have := HJ.out; omega)) (by decide)
      have hd1 := Nat.one_le_two_pow (n := d)
      have HC := Lib.hid (up_fresh X kk (.slice (some ⟨b', o', none⟩) l.length c') l (2 ^ d) hm hd1 hd8 I4.each _ ⟨b', o', c', rfl, I4.b4, I4.cap, I4.row⟩ I4.tabs)
      have HUL := Lib.hid (upL_length X kk (2 ^ d) l hm)
      have HUE := Lib.hid (upL_each X kk (2 ^ d) l hm)
      have HI4 := Lib.hid I4
      have HN4 := Lib.hid hN4
      clear I3 I4 hba hm hd8 hd1 hN4
      gi_wp2_with fail
      generalize W3.alloc (.cells #[.slice (some ⟨b', o', none⟩) l.length c', (.func (.func 47) #[] #[])] 113) = W4 at *
      refine ⟨trivial, fun _ => by omega, (callsIn_wide.2 HC.out).mono ?_⟩
      rintro e5 w5 ⟨v2, rfl, hR2, hb5, hfr⟩
      obtain ⟨b2, o2, c2, rfl, hb2, hc2, hr2⟩ := hR2
      have hf2 := hfr b2 o2 _ c2 rfl
      have I5 := HI4.out.low hb5
      have hs5 := hb5.size
      have hN5 : w5.heap[W3.heap.size]? = some (.cells #[.slice (some ⟨b', o', none⟩) l.length c', (.func (.func 47) #[] #[])] 113 (0, 0)) := (hb5.block _ (by omega)).trans HN4.out
      have J5 := hJ _ W4 w5 none J4 ⟨hb5.os, hb5.tape, hb5.output, hb5.size, fun k hk _ => hb5.block k hk⟩ (fun r e => by cases e)
      have hnr : ∀ r, W3.heap.size ≤ r → ¬ rowOf w5 bo r := fun r hr e => by
        have e4 := (rowOf_low hb5 HI4.out.lo).1 e
        have := hno4 r e4
        omega
      have g0 : w5.cell? ⟨W3.heap.size, 0, none⟩ = some (.slice (some ⟨b', o', none⟩) l.length c') := by simp [World.cell?, hN5]
      have g1 : w5.cell? ⟨W3.heap.size, 1, none⟩ = some (.func (.func 47) #[] #[]) := by simp [World.cell?, hN5]
      have f0 : w5.frozen? ⟨W3.heap.size, 0, none⟩ = false := by simp [World.frozen?, hN5]
      have f1 : w5.frozen? ⟨W3.heap.size, 1, none⟩ = false := by simp [World.frozen?, hN5]
      have hbo3 : bo < W3.heap.size := by omega
      have hbi3 : bi < W3.heap.size := by omega
      have I6 := I5.next (l2 := upL X kk l) (o2 := o2) (c2 := c2) W3.heap.size (by omega) (by omega) (by omega) (hnr _ (Nat.le_refl _)) hN5 (by intro c h; cases h) hb2 (by omega) (by omega) (hnr b2 (by omega)) hc2 (by rw [HUL.out]; exact Nat.one_le_two_pow) HUE.out hr2 (by omega) hk0 hb0
      have G6 : w5.grownBy ((w5.setCell ⟨W3.heap.size, 0, none⟩ (.slice (some ⟨b2, o2, none⟩) (upL X kk l).length c2)).setCell ⟨W3.heap.size, 1, none⟩ (.func (.func 47) #[] #[])) (some W3.heap.size) := bag_set (bag_set ⟨rfl, rfl, rfl, Nat.le_refl _, fun _ _ _ => rfl⟩ _ _) _ _
      have J6 := hJ _ w5 _ (some W3.heap.size) J5 G6 (fun r e => by cases e; exact ⟨by omega, _, hN5, _, _, rfl⟩)
      have HI6 := Lib.hid I6
      clear I5 I6 hb5 hfr hN5
      gi_wp2
      go_roundw
      case rel => exact ⟨W3.heap.size, j + 1, d, upL X kk l, b2, o2, c2, _, rfl, Lib.hid (by have := HJ.out; omega), Lib.hid (by rw [upN_succ, ← HU.out]), HUL, Lib.hid (by rw [List.length_append, HP.out]; rfl), HI6, by omega, by omega, J6⟩
      case measure =>
        have e6 : ((w5.setCell ⟨W3.heap.size, 0, none⟩ (.slice (some ⟨b2, o2, none⟩) (upL X kk l).length c2)).setCell ⟨W3.heap.size, 1, none⟩ (.func (.func 47) #[] #[])).cell? ⟨W3.heap.size, 0, none⟩ = some (.slice (some ⟨b2, o2, none⟩) (upL X kk l).length c2) := by simp [World.cell?, HI6.out.box]
        simp only [e6, m0]
        rw [HUL.out, HD.out, Nat.pow_succ]
        have := Nat.one_le_two_pow (n := d)
        omega
    | zero =>
      have hl1 : ¬ (1 : Int) < (l.length : Int) := by rw [HD.out]; decide
      gi_wp2
      refine bodyPost_end (results_none rfl _ _ _) rfl ?_
      exact ⟨⟨_, rfl⟩, _, by rw [HP.out]; have := HJ.out; omega, hJ1⟩
end Tree
end Go.Proofs.YtbgjoefpnjgdkaaDoor
