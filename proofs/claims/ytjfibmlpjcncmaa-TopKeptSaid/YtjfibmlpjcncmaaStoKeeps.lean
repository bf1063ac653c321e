/- The walk of chapter 10's law StoreKeeps. -/
import Derived.Test.YtjfibmlpjcncmaaStoKeepPlain
import Derived.Test.YtjfibmlpjcncmaaStoLives
import Derived.Test.YtjfibmlpjcncmaaJrnKeeps
import Derived.Lib.QuietBelow
import Derived.BigQuiet
import Derived.Outline
import Derived.Deep.DeepCutAuto
import Derived.Deep.CutBlock
import Derived.Deep.LoopGhost
namespace Go.Proofs.Ytjfibmlpjcncmaa
open Go.RowKit
set_option linter.unusedVariables false
set_option linter.unusedSimpArgs false
set_option maxRecDepth 100000
namespace Sto
open Oct Crc Disk Jrn

/-- behind a call of a round: the disk's block, the new disk's, the call's text and number -/
theorem after2 {wr w4 : World} {n5 : Nat} {a b c d e f k0 k1 k2 k3 : Value} {t4 t3 : TypeId} (T : One n5 wr a b c)
    (hb : Below ((wr.alloc (.cells #[k0, k1, k2, k3] t4)).alloc (.cells #[d, e, f] t3)).heap.size ((wr.alloc (.cells #[k0, k1, k2, k3] t4)).alloc (.cells #[d, e, f] t3)) w4) :
    One n5 w4 a b c ∧ One (wr.heap.size + 1) w4 d e f ∧ w4.cell? ⟨wr.heap.size, 1, none⟩ = some k1 ∧ w4.cell? ⟨wr.heap.size, 2, none⟩ = some k2 ∧ Below wr.heap.size wr w4 ∧ wr.heap.size + 1 < w4.heap.size := by
  obtain ⟨h1, h2, h3, h4, h5⟩ := after T hb
  refine ⟨h1, h2, h3, ?_, h4, h5⟩
  rw [hb.cell (p := ⟨wr.heap.size, 2, none⟩) (by simp; omega), World.cell?_alloc_lt _ _ _ (by simp)]
  exact World.cell?_alloc_mark wr #[k0, k1, k2, k3] t4 (0, 0) 2

/-- what holds at each round's head -/
structure KeepS (room : Int) (n5 : Nat) (w wr : World) (v s ct mo : Value) (rs : List (List UInt8)) (r : Nat) (es : List (List UInt8)) (m k c : Nat) : Prop where
  one : One n5 wr (.string ⟨(recsB rs).toArray⟩) (.int .i64 ((recsB (rs.take r)).length : Int)) (.int .i64 room)
  row : wr.ownsRow (n5 + 1) 9 1 v es.length (strsV es)
  syn : s = .int .i64 (k : Int)
  cnt : ct = .int .i64 (c : Int)
  mst : mo = .int .i64 (m : Int)
  told : Told rs r es m k c
  fits : ((recsB rs).length : Int) ≤ room
  low : Below w.heap.size w wr
  new : w.heap.size ≤ n5

/-- what holds behind a call of a round, ahead of 'if no != api.OK && e != d' -/
structure MidS (room : Int) (n5 ne : Nat) (w wx : World) (A B v s ct mo no : Value) (rs : List (List UInt8)) (r : Nat) (es : List (List UInt8)) (m k c : Nat) : Prop where
  old : One n5 wx A B (.int .i64 room)
  new : One ne wx (.string ⟨(recsB rs).toArray⟩) (.int .i64 ((recsB (rs.take r)).length : Int)) (.int .i64 room)
  row : wx.ownsRow (n5 + 1) 9 1 v es.length (strsV es)
  syn : s = .int .i64 (k : Int)
  cnt : ct = .int .i64 (c : Int)
  mst : mo = .int .i64 (m : Int)
  told : Told rs r es m k c
  fits : ((recsB rs).length : Int) ≤ room
  low : Below w.heap.size w wx
  no : no = .int .i64 0 ∨ ∃ er : Int, er ≠ 0 ∧ no = .int .i64 er ∧ A = .string ⟨(recsB rs).toArray⟩ ∧ B = .int .i64 ((recsB (rs.take r)).length : Int)

/-- a round's head, behind the call's and the new disk's boxes -/
theorem at_block (wr : World) (n5 : Nat) {a b c : Value} (k0 k1 k2 k3 d e f : Value) (t4 t3 : TypeId) (T : One n5 wr a b c) :
    One n5 ((wr.alloc (.cells #[k0, k1, k2, k3] t4)).alloc (.cells #[d, e, f] t3)) a b c ∧ One (wr.heap.size + 1) ((wr.alloc (.cells #[k0, k1, k2, k3] t4)).alloc (.cells #[d, e, f] t3)) d e f ∧
    ((wr.alloc (.cells #[k0, k1, k2, k3] t4)).alloc (.cells #[d, e, f] t3)).cell? ⟨wr.heap.size, 1, none⟩ = some k1 ∧ ((wr.alloc (.cells #[k0, k1, k2, k3] t4)).alloc (.cells #[d, e, f] t3)).cell? ⟨wr.heap.size, 2, none⟩ = some k2 ∧
    ((wr.alloc (.cells #[k0, k1, k2, k3] t4)).alloc (.cells #[d, e, f] t3)).cell? ⟨wr.heap.size, 3, none⟩ = some k3 ∧ Below wr.heap.size wr ((wr.alloc (.cells #[k0, k1, k2, k3] t4)).alloc (.cells #[d, e, f] t3)) ∧
    wr.heap.size + 1 < ((wr.alloc (.cells #[k0, k1, k2, k3] t4)).alloc (.cells #[d, e, f] t3)).heap.size := by
  obtain ⟨h1, h2, h3, h4, h5, h6⟩ := after2 T (Below.refl ((wr.alloc (.cells #[k0, k1, k2, k3] t4)).alloc (.cells #[d, e, f] t3)).heap.size _)
  refine ⟨h1, h2, h3, h4, ?_, h5, h6⟩
  rw [World.cell?_alloc_lt _ _ _ (by simp)]
  exact World.cell?_alloc_mark wr #[k0, k1, k2, k3] t4 (0, 0) 3

theorem same_one (va vb : Value) (l : List (List UInt8)) (w : World) (ha : StrRow w va l) (hb : StrRow w vb l) (h : (l.length : Int) ≤ 2097152) :
    Calls Try.prog 26 #[va, vb] w fun e w' => e = .returned (.bool true) ∧ Below w.heap.size w w' := by
  have k := same_big va vb l l w ha hb h
  rwa [decide_eq_true rfl] at k

theorem One.drew' {n : Nat} {w : World} {a b c : Value} (h : One n w a b c) : One n w.drew a b c := ⟨h.size, h.a0, h.a1, h.a2, h.f0, h.f1, h.f2⟩

theorem row_len {W : World} {p : Option Addr} {c n : Nat} {l : List (List UInt8)} (h : StrRow W (.slice p l.length c) l) (hn : n = l.length) : StrRow W (.slice p n c) l := by subst hn; exact h

theorem cell_one_set (w : World) (n : Nat) (a s r v : Value) (t : TypeId) : ∀ j u, [v][j]? = some u → ((((w.setCell ⟨n, 0, none⟩ a).setCell ⟨n, 1, none⟩ s).setCell ⟨n, 2, none⟩ r).alloc (.cells #[v] t)).cell? ((⟨w.heap.size, 0, none⟩ : Addr).add j) = some u := by
  have h := cell_one_new (((w.setCell ⟨n, 0, none⟩ a).setCell ⟨n, 1, none⟩ s).setCell ⟨n, 2, none⟩ r) v t
  rwa [show (((w.setCell ⟨n, 0, none⟩ a).setCell ⟨n, 1, none⟩ s).setCell ⟨n, 2, none⟩ r).heap.size = w.heap.size by simp [World.setCell]] at h

theorem cnt_range (n : Int) (h : (cntR n).2 = 0) : ∃ q : Nat, n = (q : Int) ∧ q ≤ 1048576 := by
  unfold cntR at h
  by_cases hn : n < 0 ∨ 1048576 < n
  · rw [if_pos hn] at h; simp at h
  · exact ⟨n.toNat, by omega, by omega⟩

/-- what a failure leaves, and what a server starts again with -/
theorem rest_torn (rs : List (List UInt8)) (r : Nat) (es : List (List UInt8)) (m k c : Nat) (h : Told rs r es m k c) (room n : Int) (b : UInt8) (hfit : ((recsB rs).length : Int) ≤ room) (hri : room ≤ 1048576)
    (hR : Right ⟨(recsB rs).toArray⟩ ((recsB (rs.take r)).length : Int) room) :
    ∃ (F : List UInt8) (qs es' : List (List UInt8)) (m' : Nat), Told qs qs.length es' m' es'.length m' ∧ es'.length ≤ es.length ∧ es' = es.take es'.length ∧ k ≤ es'.length ∧ c ≤ m' ∧ m' ≤ m ∧ (recsB qs).length ≤ (recsB rs).length ∧ F.length ≤ (recsB rs).length ∧
      restR ⟨F.toArray⟩ (F.length : Int) room = (⟨⟨(recsB qs).toArray⟩, ((recsB qs).length : Int), room, 0⟩, es', m') ∧
      ∀ w, Calls Try.prog 42 #[.agg #[.string ⟨(recsB rs).toArray⟩, .int .i64 ((recsB (rs.take r)).length : Int), .int .i64 room], .int .i64 n, .int .u8 (b.toNat : Int)] w fun e w' => e = .returned (.tuple #[.agg #[.string ⟨F.toArray⟩, .int .i64 (F.length : Int), .int .i64 room], .int .i64 0]) ∧ Below w.heap.size w w' := by
  obtain ⟨F, f1, f2, f3, f4, cA⟩ := fail_torn (recsB rs) (recsB (rs.take r)).length room n b hR
  obtain ⟨j', g1, g2, g3, g4⟩ := torn rs r h.rle h.short F f1 f2 (fun hh => by rw [f3 hh, take_recs]) f4
  obtain ⟨es', m', b1, b2, b3, b4, b5, b6⟩ := h.back j' g1 g2
  have hj : (rs.take j').length = j' := by rw [List.length_take]; omega
  have hFr : (F.length : Int) ≤ room := by omega
  refine ⟨F, rs.take j', es', m', by rw [hj]; exact b1, b2, b3, b4, b5, b6, recs_take_le rs j', f2, ?_, cA⟩
  have hm : mendR ⟨F.toArray⟩ (F.length : Int) room = ⟨⟨(recsB (rs.take j')).toArray⟩, ((recsB (rs.take j')).length : Int), room, 0⟩ := by
    rw [mend_ok F _ room ((right_iff _ _ _).2 (right_of F F.length room (Nat.le_refl _) hFr hri)), g3]
    dsimp only
    rw [g4]
  unfold restR
  rw [hm]
  dsimp only
  rw [b1.spec]
  simp

set_option maxHeartbeats 16000000 in
theorem skeeps_walk (room : Int) (h0 : 0 ≤ room) (hri : room ≤ 1048576) (b off cap : Nat) (L : List ActD) (hL : L.length ≤ 60) (w : World) (hA : Acts w b off L) :
    Calls Try.prog 13 #[.int .i64 room, .slice (some ⟨b, off, none⟩) L.length cap] w fun e w' => e = .returned (.bool true) ∧ Below w.heap.size w w' := by
  obtain ⟨i0, hi, hz0, hz1, hz2⟩ := info_parts info_str
  have hLi : (L.length : Int) ≤ 60 := by omega
  have hd60 : decide ((60 : Int) < (L.length : Int)) = false := by simp; omega
  go_enter Try.func13, Try.ntmps13
  go_wp2_with fail
  refine (sto_lives _).mono ?_
  rintro e w1 ⟨rfl, B⟩
  go_wp2_with fail
  refine (new_ok room ⟨by omega, hri⟩ _).mono ?_
  rintro e w2 ⟨rfl, hb⟩
  have T2 := One.made w2 (.string ⟨#[]⟩) (.int .i64 0) (.int .i64 room) 47
  have B2 : Below w.heap.size w (w2.alloc (.cells #[.string ⟨#[]⟩, .int .i64 0, .int .i64 room] 47)) := (B.trans (hb.mono B.size)).alloc (by have := B.size; have := hb.size; omega) _
  have hz2' : w.heap.size ≤ w2.heap.size := by have := B.size; have := hb.size; omega
  clear hb B
  go_wp2_with fail
  obtain ⟨n5, hn⟩ : ∃ x, x = w2.heap.size := ⟨_, rfl⟩
  rw [← hn] at T2 ⊢
  have hz5 : w.heap.size ≤ n5 := by omega
  clear hn hz2'
  generalize w2.alloc (.cells #[.string ⟨#[]⟩, .int .i64 0, .int .i64 room] 47) = w3 at *
  go_loopg [7, 8, 9, 10, 46] L.length (fun g v s ct mo i wr => ∃ (j : Nat) (rs : List (List UInt8)) (r : Nat) (es : List (List UInt8)) (m k c : Nat), j ≤ L.length ∧ g = L.length - j ∧ i = .int .i64 (j : Int) ∧ KeepS room n5 w wr v s ct mo rs r es m k c)
  case atStart => exact ⟨0, [], 0, [], 0, 0, 0, by omega, by omega, rfl, ⟨T2, World.ownsRow_nil _ _ _ _, rfl, rfl, rfl, Told.nil, by simpa [recsB] using h0, B2, hz5⟩⟩
  case round =>
    obtain ⟨j, rs, r, es, m, k, c, hj, hg, rfl, hK⟩ := hrel
    clear T2 B2
    by_cases hlt : j < L.length
    · obtain ⟨x, hx⟩ : ∃ x, L[j]? = some x := ⟨_, List.getElem?_eq_getElem hlt⟩
      have hbw : b < w.heap.size := hA.lt (by intro h; rw [h] at hx; simp at hx)
      have x0 := (hK.low.cell (p := ⟨b, off + j * 4, none⟩) hbw).trans (hA.c0 j x hx)
      have x1 := (hK.low.cell (p := ⟨b, off + j * 4 + 1, none⟩) hbw).trans (hA.c1 j x hx)
      have x2 := (hK.low.cell (p := ⟨b, off + j * 4 + 2, none⟩) hbw).trans (hA.c2 j x hx)
      have x3 := (hK.low.cell (p := ⟨b, off + j * 4 + 3, none⟩) hbw).trans (hA.c3 j x hx)
      have hltw := hK.low.size
      clear hA hx
      obtain ⟨kind, text, n, bits⟩ := x
      dsimp only at x0 x1 x2 x3
      obtain ⟨t, rfl, -⟩ := Jrn.bytes_of text
      obtain ⟨T5, hrow, rfl, rfl, rfl, htold, hfit, h6, h7⟩ := hK
      obtain ⟨pv, cv, rfl⟩ := own_of_row hrow
      have hcnt := recsB_count rs
      have hsz := htold.size
      have hll : es.length ≤ 300000 := by omega
      have hS := recs_take_le rs r
      have hmi : (m : Int) ≤ 1048576 := by omega
      have hci : (c : Int) ≤ (m : Int) := by
        have h := (htold.back r (Nat.le_refl _) htold.rle)
        obtain ⟨es', m', h1, -, -, -, h2, h3⟩ := h
        omega
      have hki : (k : Int) ≤ (es.length : Int) := by have := htold.kle; omega
      have ne6 : some (wr.heap.size + 1) ≠ (Value.slice pv es.length cv).ownBlock := fun e => by have := (hrow.lt _ e.symm).2; omega
      have T5' := Lib.hid T5
      have H6 := Lib.hid h6
      have HR := Lib.hid hrow
      have TD := Lib.hid htold
      have HLL := Lib.hid hll
      have N6 := Lib.hid ne6
      have HRI := Lib.hid (right_of _ _ room hS hfit hri)
      have HC := Lib.hid hfit
      clear h6 hrow htold hll hcnt hfit hS hsz ne6
      obtain ⟨kz, ka, kb, kc, kf, kg, kh⟩ := T5
      have hbr : b < wr.heap.size := by omega
      go_upto_block 2 with fail
      obtain ⟨U5, U6, y1, y2, y3, hlow, hsz⟩ := at_block wr n5 (.int .i64 kind) (.string ⟨t.toArray⟩) (.int .i64 n) (.int .u8 (bits.toNat : Int)) (.string ⟨(recsB rs).toArray⟩) (.int .i64 ((recsB (rs.take r)).length : Int)) (.int .i64 room) 69 47 T5'.out
      obtain ⟨n4, hn4⟩ : ∃ x, x = wr.heap.size := ⟨_, rfl⟩
      have LB : Hid (Below w.heap.size w ((wr.alloc (.cells #[.int .i64 kind, .string ⟨t.toArray⟩, .int .i64 n, .int .u8 (bits.toNat : Int)] 69)).alloc (.cells #[.string ⟨(recsB rs).toArray⟩, .int .i64 ((recsB (rs.take r)).length : Int), .int .i64 room] 47))) := H6.out.trans (hlow.mono hltw)
      have rb := own_kept HR.out hlow
      have hn5 : n5 < wr.heap.size := kz
      have N6' := N6.out
      rw [← hn4] at U6 y1 y2 y3 hsz hn5 N6' ⊢
      generalize (wr.alloc (.cells #[.int .i64 kind, .string ⟨t.toArray⟩, .int .i64 n, .int .u8 (bits.toNat : Int)] 69)).alloc (.cells #[.string ⟨(recsB rs).toArray⟩, .int .i64 ((recsB (rs.take r)).length : Int), .int .i64 room] 47) = wb at *
      have LBs : w.heap.size ≤ wb.heap.size := LB.out.size
      have hs4 : n4 < wb.heap.size := by omega
      have hne1 : ¬ n5 = n4 + 1 := by omega
      have hne2 : ¬ n4 + 1 = n5 := by omega
      have hne3 : ¬ n5 = n4 := by omega
      have hne4 : ¬ n4 = n5 := by omega
      have n6h := Lib.hid N6'
      have RB := Lib.hid rb
      have V5 := Lib.hid U5
      have V6 := Lib.hid U6
      clear x0 x1 x2 x3 kz ka kb kc kf kg kh hlow T5' hbr HR H6 rb hn4 N6 N6' hltw
      obtain ⟨kz, ka, kb, kc, kf, kg, kh⟩ := U5
      obtain ⟨lz, la, lb, lc, lf, lg, lh⟩ := U6
      go_cut [7, 8, 9, 10, 14, 46] (fun v s ct mo no i wx => ∃ (A B : Value) (rs' : List (List UInt8)) (r' : Nat) (es' : List (List UInt8)) (m' k' c' : Nat), i = .int .i64 (j : Int) ∧ MidS room n5 (n4 + 1) w wx A B v s ct mo no rs' r' es' m' k' c')
      case first =>
        by_cases k0 : kind = 0
        · subst k0
          have cA := fun w => putEntry_any ⟨(recsB rs).toArray⟩ ((recsB (rs.take r)).length : Int) room t w
          obtain hw | ⟨er, her, hw⟩ := rec_ways (recsB rs) ((recsB (rs.take r)).length : Int) room ((right_iff _ _ _).2 HRI.out) (entR t)
          · obtain ⟨g1, g2, g3, g4⟩ := hw
            rw [g4, ← recsB_append] at cA
            dsimp only at cA
            have hk' : (rs ++ [(entR t).1]).take r = rs.take r := List.take_append_of_le_length TD.out.rle
            have TD' := Lib.hid (TD.out.entry t ⟨g1, g2⟩)
            have hfi : ((recsB (rs ++ [(entR t).1])).length : Int) ≤ room := by rw [recsB_append, List.length_append]; omega
            generalize (entR t).1 = x at *
            have HK := Lib.hid hk'
            have FI := Lib.hid hfi
            clear hk' hfi g3 g4
            clear g1 g2
            go_wp2_with fail
            refine (cA _).mono ?_
            rintro e4 w4 ⟨rfl, hb⟩
            have U5 := V5.out.below' hb
            have U6 := V6.out.below' hb
            have xt := (hb.cell (p := ⟨n4, 1, none⟩) hs4).trans y1
            have xn := (hb.cell (p := ⟨n4, 2, none⟩) hs4).trans y2
            have L4 : Hid (Below w.heap.size w w4) := LB.out.trans (hb.mono LB.out.size)
            have L4s : w.heap.size ≤ w4.heap.size := L4.out.size
            have hr4 := own_kept RB.out hb
            have hsz4 : n4 + 1 < w4.heap.size := U6.size
            have R4 := Lib.hid hr4
            have U5' := Lib.hid U5
            have U6' := Lib.hid U6
            clear y1 y2 y3 kz ka kb kc kf kg kh lz la lb lc lf lg lh hb V5 V6 RB LB LBs hr4 hsz hs4
            obtain ⟨kz, ka, kb, kc, kf, kg, kh⟩ := U5
            obtain ⟨lz, la, lb, lc, lf, lg, lh⟩ := U6
            clear cA
            have hlt5 := HLL.out
            have aS := low_al (((w4.setCell ⟨n4 + 1, 0, none⟩ (.string ⟨(recsB (rs ++ [x])).toArray⟩)).setCell ⟨n4 + 1, 1, none⟩ (.int .i64 ((recsB (rs.take r)).length : Int))).setCell ⟨n4 + 1, 2, none⟩ (.int .i64 room)) (.cells #[.string ⟨t.toArray⟩] 9)
            have hE := (One.stored U6'.out (.string ⟨(recsB (rs ++ [x])).toArray⟩) (.int .i64 ((recsB (rs.take r)).length : Int)) (.int .i64 room)).below' aS
            have hN : One n5 (((w4.setCell ⟨n4 + 1, 0, none⟩ (.string ⟨(recsB (rs ++ [x])).toArray⟩)).setCell ⟨n4 + 1, 1, none⟩ (.int .i64 ((recsB (rs.take r)).length : Int))).setCell ⟨n4 + 1, 2, none⟩ (.int .i64 room)) (.string ⟨(recsB rs).toArray⟩) (.int .i64 ((recsB (rs.take r)).length : Int)) (.int .i64 room) := (((U5'.out.far (by omega) _ _).far (by omega) _ _).far (by omega) _ _)
            replace hN := hN.below' aS
            have hRW := (((R4.out.kept (grownBy_setC _ (n4 + 1) 0 (.string ⟨(recsB (rs ++ [x])).toArray⟩)) (.inr n6h.out.symm)).kept (grownBy_setC _ (n4 + 1) 1 (.int .i64 ((recsB (rs.take r)).length : Int))) (.inr n6h.out.symm)).kept (grownBy_setC _ (n4 + 1) 2 (.int .i64 room)) (.inr n6h.out.symm))
            have hRS := hRW.alloc (.cells #[.string ⟨t.toArray⟩] 9)
            have hBW := (((L4.out.setCell (p := ⟨n4 + 1, 0, none⟩) (by simp; omega) (.string ⟨(recsB (rs ++ [x])).toArray⟩)).setCell (p := ⟨n4 + 1, 1, none⟩) (by simp; omega) (.int .i64 ((recsB (rs.take r)).length : Int))).setCell (p := ⟨n4 + 1, 2, none⟩) (by simp; omega) (.int .i64 room))
            replace hBW := hBW.trans (aS.mono hBW.size)
            have NE := Lib.hid (And.intro (low_ne_row R4.out (show n5 < n5 + 1 by omega)) n6h.out)
            have HE := Lib.hid hE
            have HN := Lib.hid hN
            have HW := Lib.hid hBW
            have HS := Lib.hid hRS
            clear hE hN hBW hRW hRS aS
            go_wp2_with (at_builtin; go_must (refine wpList_append_own _ rfl _ _ _ rfl (n5 + 1) 9 i0 (.string ⟨#[]⟩) 1 16 Try.underlying32 hi hz0 hz1 hz2 rfl (by decide) _ _ _ rfl HS.out ⟨w4.heap.size, 0, none⟩ 1 1 [.string ⟨t.toArray⟩] rfl rfl (cell_one_set _ _ _ _ _ _ _) (by simp [Value.oneCell']) (by unfold maxLen; omega) (by omega) (by simp [World.setCell]; omega) ?_; intro v' w6 hown' hgrow0 hiff; clear hiff; have hgrow : (((((w4.setCell ⟨n4 + 1, 0, none⟩ (.string ⟨(recsB (rs ++ [x])).toArray⟩)).setCell ⟨n4 + 1, 1, none⟩ (.int .i64 ((recsB (rs.take r)).length : Int))).setCell ⟨n4 + 1, 2, none⟩ (.int .i64 room)).alloc (.cells #[.string ⟨t.toArray⟩] 9)).grownBy w6 (Value.slice pv es.length cv).ownBlock) := hgrow0; have E6 := Lib.hid (HE.out.grown hgrow NE.out.2); have N6 := Lib.hid (HN.out.grown hgrow NE.out.1); have W6 := Lib.hid (HW.out.grown hgrow HW.out.size (fun q hq => by have := (R4.out.lt q hq).1; omega)); have O6 : Hid (w6.ownsRow (n5 + 1) 9 1 v' (es ++ [t]).length (strsV (es ++ [t]))) := Lib.hid (by rw [strsV_append, List.length_append]; exact hown'); clear hgrow0 hown' hgrow HE HN HW NE HS kz ka kb kc kf kg kh lz la lb lc lf lg lh xt xn R4 L4 U5' U6'))
            go_meet
            exact ⟨_, _, (rs ++ [x]), r, (es ++ [t]), m, k, c, rfl, ⟨N6.out, (by rw [HK.out]; exact E6.out), O6.out, rfl, rfl, rfl, TD'.out, FI.out, W6.out, .inl rfl⟩⟩
          · rw [hw] at cA
            dsimp only at cA
            clear hw
            have hei : ¬ (er = 0) := her
            have heb : (er == 0) = false := by simpa using her
            go_wp2_with fail
            refine (cA _).mono ?_
            rintro e4 w4 ⟨rfl, hb⟩
            have U5 := V5.out.below' hb
            have U6 := V6.out.below' hb
            have xt := (hb.cell (p := ⟨n4, 1, none⟩) hs4).trans y1
            have xn := (hb.cell (p := ⟨n4, 2, none⟩) hs4).trans y2
            have L4 : Hid (Below w.heap.size w w4) := LB.out.trans (hb.mono LB.out.size)
            have L4s : w.heap.size ≤ w4.heap.size := L4.out.size
            have hr4 := own_kept RB.out hb
            have hsz4 : n4 + 1 < w4.heap.size := U6.size
            have R4 := Lib.hid hr4
            have U5' := Lib.hid U5
            have U6' := Lib.hid U6
            clear y1 y2 y3 kz ka kb kc kf kg kh lz la lb lc lf lg lh hb V5 V6 RB LB LBs hr4 hsz hs4
            obtain ⟨kz, ka, kb, kc, kf, kg, kh⟩ := U5
            obtain ⟨lz, la, lb, lc, lf, lg, lh⟩ := U6
            clear cA
            go_wp2_with fail
            go_meet
            exact ⟨_, _, rs, r, es, m, k, c, rfl, ⟨(((U5'.out.far (by omega) _ _).far (by omega) _ _).far (by omega) _ _), One.stored U6'.out _ _ _, (((R4.out.kept (grownBy_setC _ (n4 + 1) 0 (.string ⟨(recsB rs).toArray⟩)) (.inr n6h.out.symm)).kept (grownBy_setC _ (n4 + 1) 1 (.int .i64 ((recsB (rs.take r)).length : Int))) (.inr n6h.out.symm)).kept (grownBy_setC _ (n4 + 1) 2 (.int .i64 room)) (.inr n6h.out.symm)), rfl, rfl, rfl, TD.out, HC.out, (((L4.out.setCell (p := ⟨n4 + 1, 0, none⟩) (by simp; omega) (.string ⟨(recsB rs).toArray⟩)).setCell (p := ⟨n4 + 1, 1, none⟩) (by simp; omega) (.int .i64 ((recsB (rs.take r)).length : Int))).setCell (p := ⟨n4 + 1, 2, none⟩) (by simp; omega) (.int .i64 room)), .inr ⟨er, her, rfl, rfl, rfl⟩⟩⟩
        · by_cases k1 : kind = 1
          · subst k1
            as_aux_lemma =>
              have cA := fun w => putCount_any ⟨(recsB rs).toArray⟩ ((recsB (rs.take r)).length : Int) room n w
              obtain hw | ⟨er, her, hw⟩ := rec_ways (recsB rs) ((recsB (rs.take r)).length : Int) room ((right_iff _ _ _).2 HRI.out) (cntR n)
              · obtain ⟨q, rfl, hq⟩ := cnt_range n hw.1
                obtain ⟨g1, g2, g3, g4⟩ := hw
                rw [g4, ← recsB_append] at cA
                dsimp only at cA
                have hk' : (rs ++ [(cntR (q : Int)).1]).take r = rs.take r := List.take_append_of_le_length TD.out.rle
                have TD' := Lib.hid (TD.out.count q hq)
                have hfi : ((recsB (rs ++ [(cntR (q : Int)).1])).length : Int) ≤ room := by rw [recsB_append, List.length_append]; omega
                generalize (cntR (q : Int)).1 = x at *
                have HK := Lib.hid hk'
                have FI := Lib.hid hfi
                clear hk' hfi g3 g4
                have hmx : ((max m q : Nat) : Int) = max (m : Int) (q : Int) := by omega
                have HMX := Lib.hid hmx
                clear g1 g2 hmx
                go_wp2_with fail
                refine (cA _).mono ?_
                rintro e4 w4 ⟨rfl, hb⟩
                have U5 := V5.out.below' hb
                have U6 := V6.out.below' hb
                have xt := (hb.cell (p := ⟨n4, 1, none⟩) hs4).trans y1
                have xn := (hb.cell (p := ⟨n4, 2, none⟩) hs4).trans y2
                have L4 : Hid (Below w.heap.size w w4) := LB.out.trans (hb.mono LB.out.size)
                have L4s : w.heap.size ≤ w4.heap.size := L4.out.size
                have hr4 := own_kept RB.out hb
                have hsz4 : n4 + 1 < w4.heap.size := U6.size
                have R4 := Lib.hid hr4
                have U5' := Lib.hid U5
                have U6' := Lib.hid U6
                clear y1 y2 y3 kz ka kb kc kf kg kh lz la lb lc lf lg lh hb V5 V6 RB LB LBs hr4 hsz hs4
                obtain ⟨kz, ka, kb, kc, kf, kg, kh⟩ := U5
                obtain ⟨lz, la, lb, lc, lf, lg, lh⟩ := U6
                clear cA
                go_wp2_with fail
                go_meet
                exact ⟨_, _, (rs ++ [x]), r, es, (max m q), k, c, rfl, ⟨(((U5'.out.far (by omega) _ _).far (by omega) _ _).far (by omega) _ _), (by rw [HK.out]; exact One.stored U6'.out _ _ _), (((R4.out.kept (grownBy_setC _ (n4 + 1) 0 (.string ⟨(recsB (rs ++ [x])).toArray⟩)) (.inr n6h.out.symm)).kept (grownBy_setC _ (n4 + 1) 1 (.int .i64 ((recsB (rs.take r)).length : Int))) (.inr n6h.out.symm)).kept (grownBy_setC _ (n4 + 1) 2 (.int .i64 room)) (.inr n6h.out.symm)), rfl, rfl, (by rw [HMX.out]), TD'.out, FI.out, (((L4.out.setCell (p := ⟨n4 + 1, 0, none⟩) (by simp; omega) (.string ⟨(recsB (rs ++ [x])).toArray⟩)).setCell (p := ⟨n4 + 1, 1, none⟩) (by simp; omega) (.int .i64 ((recsB (rs.take r)).length : Int))).setCell (p := ⟨n4 + 1, 2, none⟩) (by simp; omega) (.int .i64 room)), .inl rfl⟩⟩
              · rw [hw] at cA
                dsimp only at cA
                clear hw
                have hei : ¬ (er = 0) := her
                have heb : (er == 0) = false := by simpa using her
                go_wp2_with fail
                refine (cA _).mono ?_
                rintro e4 w4 ⟨rfl, hb⟩
                have U5 := V5.out.below' hb
                have U6 := V6.out.below' hb
                have xt := (hb.cell (p := ⟨n4, 1, none⟩) hs4).trans y1
                have xn := (hb.cell (p := ⟨n4, 2, none⟩) hs4).trans y2
                have L4 : Hid (Below w.heap.size w w4) := LB.out.trans (hb.mono LB.out.size)
                have L4s : w.heap.size ≤ w4.heap.size := L4.out.size
                have hr4 := own_kept RB.out hb
                have hsz4 : n4 + 1 < w4.heap.size := U6.size
                have R4 := Lib.hid hr4
                have U5' := Lib.hid U5
                have U6' := Lib.hid U6
                clear y1 y2 y3 kz ka kb kc kf kg kh lz la lb lc lf lg lh hb V5 V6 RB LB LBs hr4 hsz hs4
                obtain ⟨kz, ka, kb, kc, kf, kg, kh⟩ := U5
                obtain ⟨lz, la, lb, lc, lf, lg, lh⟩ := U6
                clear cA
                go_wp2_with fail
                go_meet
                exact ⟨_, _, rs, r, es, m, k, c, rfl, ⟨(((U5'.out.far (by omega) _ _).far (by omega) _ _).far (by omega) _ _), One.stored U6'.out _ _ _, (((R4.out.kept (grownBy_setC _ (n4 + 1) 0 (.string ⟨(recsB rs).toArray⟩)) (.inr n6h.out.symm)).kept (grownBy_setC _ (n4 + 1) 1 (.int .i64 ((recsB (rs.take r)).length : Int))) (.inr n6h.out.symm)).kept (grownBy_setC _ (n4 + 1) 2 (.int .i64 room)) (.inr n6h.out.symm)), rfl, rfl, rfl, TD.out, HC.out, (((L4.out.setCell (p := ⟨n4 + 1, 0, none⟩) (by simp; omega) (.string ⟨(recsB rs).toArray⟩)).setCell (p := ⟨n4 + 1, 1, none⟩) (by simp; omega) (.int .i64 ((recsB (rs.take r)).length : Int))).setCell (p := ⟨n4 + 1, 2, none⟩) (by simp; omega) (.int .i64 room)), .inr ⟨er, her, rfl, rfl, rfl⟩⟩⟩
          · by_cases k2 : kind = 2
            · subst k2
              as_aux_lemma =>
                have cA := fun w => sync_ok ⟨(recsB rs).toArray⟩ ((recsB (rs.take r)).length : Int) room HRI.out w
                rw [show (⟨(recsB rs).toArray⟩ : ByteArray).size = (recsB rs).length by simp [ByteArray.size]] at cA
                clear k0 k1
                go_wp2_with fail
                refine (cA _).mono ?_
                rintro e4 w4 ⟨rfl, hb⟩
                have U5 := V5.out.below' hb
                have U6 := V6.out.below' hb
                have xt := (hb.cell (p := ⟨n4, 1, none⟩) hs4).trans y1
                have xn := (hb.cell (p := ⟨n4, 2, none⟩) hs4).trans y2
                have L4 : Hid (Below w.heap.size w w4) := LB.out.trans (hb.mono LB.out.size)
                have L4s : w.heap.size ≤ w4.heap.size := L4.out.size
                have hr4 := own_kept RB.out hb
                have hsz4 : n4 + 1 < w4.heap.size := U6.size
                have R4 := Lib.hid hr4
                have U5' := Lib.hid U5
                have U6' := Lib.hid U6
                clear y1 y2 y3 kz ka kb kc kf kg kh lz la lb lc lf lg lh hb V5 V6 RB LB LBs hr4 hsz hs4
                obtain ⟨kz, ka, kb, kc, kf, kg, kh⟩ := U5
                obtain ⟨lz, la, lb, lc, lf, lg, lh⟩ := U6
                clear cA
                go_wp2_with fail
                go_meet
                exact ⟨_, _, rs, rs.length, es, m, es.length, m, rfl, ⟨(((U5'.out.far (by omega) _ _).far (by omega) _ _).far (by omega) _ _), (by rw [List.take_length]; exact One.stored U6'.out _ _ _), (((R4.out.kept (grownBy_setC _ (n4 + 1) 0 (.string ⟨(recsB rs).toArray⟩)) (.inr n6h.out.symm)).kept (grownBy_setC _ (n4 + 1) 1 (.int .i64 ((recsB rs).length : Int))) (.inr n6h.out.symm)).kept (grownBy_setC _ (n4 + 1) 2 (.int .i64 room)) (.inr n6h.out.symm)), rfl, rfl, rfl, TD.out.sync, HC.out, (((L4.out.setCell (p := ⟨n4 + 1, 0, none⟩) (by simp; omega) (.string ⟨(recsB rs).toArray⟩)).setCell (p := ⟨n4 + 1, 1, none⟩) (by simp; omega) (.int .i64 ((recsB rs).length : Int))).setCell (p := ⟨n4 + 1, 2, none⟩) (by simp; omega) (.int .i64 room)), .inl rfl⟩⟩
            · by_cases k3 : kind = 3
              · subst k3
                rcases RB.out.2 with ⟨hv, hl0⟩ | ⟨g, cap', cur, hv, -, -, hcap, -, -, -⟩
                · obtain rfl : es = [] := List.length_eq_zero_iff.1 hl0
                  injection hv with e1 e2 e3
                  subst e1 e3
                  clear hl0 e2
                  as_aux_lemma =>
                    obtain ⟨F, qs, es', m', b1, b2, b3, b4, b5, b6, b7, b8, b9, cA⟩ := rest_torn rs r ([] : List (List UInt8)) m k c TD.out room n bits HC.out hri HRI.out
                    obtain rfl : es' = [] := List.length_eq_zero_iff.1 (by simpa using b2)
                    obtain rfl : k = 0 := by simpa using b4
                    have hqr : ((recsB qs).length : Int) ≤ room := by have := HC.out; omega
                    have cB := fun w => restart_any ⟨F.toArray⟩ (F.length : Int) room (by have := HC.out; simp [ByteArray.size]; omega) w
                    rw [b9] at cB
                    dsimp only at cB
                    have TD' := Lib.hid b1
                    have FI := Lib.hid hqr
                    have B3 := Lib.hid b3
                    clear b1 b3 b7 b8 b9 hqr k0 k1 k2
                    go_wp2_with fail
                    refine (cA _).mono ?_
                    rintro e4 w4 ⟨rfl, hb⟩
                    have U5 := V5.out.below' hb
                    have U6 := V6.out.below' hb
                    have xt := (hb.cell (p := ⟨n4, 1, none⟩) hs4).trans y1
                    have xn := (hb.cell (p := ⟨n4, 2, none⟩) hs4).trans y2
                    have L4 : Hid (Below w.heap.size w w4) := LB.out.trans (hb.mono LB.out.size)
                    have L4s : w.heap.size ≤ w4.heap.size := L4.out.size
                    have hr4 := own_kept RB.out hb
                    have hsz4 : n4 + 1 < w4.heap.size := U6.size
                    have R4 := Lib.hid hr4
                    have U5' := Lib.hid U5
                    have U6' := Lib.hid U6
                    clear y1 y2 y3 kz ka kb kc kf kg kh lz la lb lc lf lg lh hb V5 V6 RB LB LBs hr4 hsz hs4
                    obtain ⟨kz, ka, kb, kc, kf, kg, kh⟩ := U5
                    obtain ⟨lz, la, lb, lc, lf, lg, lh⟩ := U6
                    clear cA
                    go_wp2_with fail
                    refine (cB _).mono ?_
                    rintro e5 w5 ⟨vv, rfl, oo, hb⟩
                    have hb' : Below w4.heap.size w4 w5 := (low_al w4 _).trans (hb.mono (by simp))
                    replace U5 := U5'.out.below' hb'
                    replace U6 := U6'.out.below' hb'
                    have R5 := own_kept R4.out hb'
                    have L5 := L4.out.trans (hb'.mono L4s)
                    have n6o := n6h.out
                    obtain ⟨pf, cf, rfl⟩ := own_of oo
                    have n6q : some (n4 + 1) ≠ (Value.slice pf 0 cf).ownBlock := fun e => by have e1 := (World.ownsRow.lt (show w5.ownsRow _ 9 1 (.slice pf 0 cf) 0 (strsV ([] : List (List UInt8))) from oo) _ e.symm).1; have e2 := U6'.out.size; rw [World.size_alloc] at e1; omega
                    have oo' := ownsRow_mono (show n5 + 1 ≤ _ by simp; omega) (show w5.ownsRow _ 9 1 (.slice pf 0 cf) 0 (strsV ([] : List (List UInt8))) from oo)
                    clear cB U5' U6' R4 L4 hb hb' oo xt xn kz ka kb kc kf kg kh lz la lb lc lf lg lh L4s n6h
                    have A1 := low_al w5 (.cells #[.string ⟨(recsB qs).toArray⟩, .int .i64 ((recsB qs).length : Int), .int .i64 room] 47)
                    have A2 := A1.trans ((low_al (w5.alloc (.cells #[.string ⟨(recsB qs).toArray⟩, .int .i64 ((recsB qs).length : Int), .int .i64 room] 47)) (.cells #[.slice pf 0 cf, .int .i64 (m' : Int)] 61)).mono (by simp))
                    have G7 := (One.made w5 (.string ⟨(recsB qs).toArray⟩) (.int .i64 ((recsB qs).length : Int)) (.int .i64 room) 47).below' (low_al (w5.alloc (.cells #[.string ⟨(recsB qs).toArray⟩, .int .i64 ((recsB qs).length : Int), .int .i64 room] 47)) (.cells #[.slice pf 0 cf, .int .i64 (m' : Int)] 61))
                    have G8 := Pair.made (w5.alloc (.cells #[.string ⟨(recsB qs).toArray⟩, .int .i64 ((recsB qs).length : Int), .int .i64 room] 47)) (.slice pf 0 cf) (.int .i64 (m' : Int)) 61
                    rw [World.size_alloc] at G8
                    have Z5 := And.intro U5.size U6.size
                    replace U5 := U5.below' A2
                    replace U6 := U6.below' A2
                    replace R5 := own_kept R5 A2
                    replace oo' := own_kept oo' A2
                    replace L5 := L5.trans (A2.mono L5.size)
                    have h75 : n5 < w5.heap.size ∧ n4 + 1 < w5.heap.size := Z5
                    obtain ⟨n7, hn7⟩ : ∃ x, x = w5.heap.size := ⟨_, rfl⟩
                    go_wp2_with fail
                    rw [← hn7] at G7 G8 h75 ⊢
                    generalize (w5.alloc (.cells #[.string ⟨(recsB qs).toArray⟩, .int .i64 ((recsB qs).length : Int), .int .i64 room] 47)).alloc (.cells #[.slice pf 0 cf, .int .i64 (m' : Int)] 61) = W at *
                    clear hn7 A1 A2 Z5
                    have RS := Lib.hid (row_str oo')
                    have RT : Hid (StrRow W (.slice none 0 0) []) := Lib.hid (.inl ⟨_, _, rfl, rfl⟩)
                    have HL' := Lib.hid (show (0 : Int) ≤ 2097152 by have := HLL.out; omega)
                    have U5' := Lib.hid U5
                    have U6' := Lib.hid U6
                    have G7' := Lib.hid G7
                    have G8' := Lib.hid G8
                    have O7 := Lib.hid oo'
                    have L7 := Lib.hid L5
                    have n6h := Lib.hid n6o
                    have NE6 := Lib.hid n6q
                    have q3 : decide (m' < c) = false := by simp; omega
                    have q4 : decide (m < m') = false := by simp; omega
                    have s0 := cell_regrown G8.a0
                    have s1 := cell_regrown G8.a1
                    clear U5 U6 G7 G8 oo' L5 R5 n6o b2 b4 b5 b6 hki hci hmi
                    refine wp_region_quiet_below (by kernel_rfl) (by kernel_rfl) ?_
                    repeat (go_big_quiet_step ((go_at_call 26; exact Calls.regrown_of (same_one _ _ ([] : List (List UInt8)) _ (RS.out.below rfl (below_regrown W _ _)) (RT.out.below rfl (below_regrown W _ _)) HL'.out))))
                    refine wpQuiet_nil ?_
                    intro W5 hw'
                    have hb : Below W.heap.size W W5 := by obtain ⟨p, rfl⟩ := hw'; exact below_regrown W p.d p.os
                    clear hw'
                    have U5 := U5'.out.below' hb
                    have U6 := U6'.out.below' hb
                    have G7 := G7'.out.below' hb
                    have G8 := G8'.out.below' hb
                    have O8 := Lib.hid (own_kept O7.out hb)
                    have L8 := Lib.hid (L7.out.trans (hb.mono L7.out.size))
                    clear U5' U6' G7' G8' O7 L7 hb s0 s1 RS RT q3 q4
                    have U5' := Lib.hid U5
                    have U6' := Lib.hid U6
                    clear hne1 hne2 hne3 hne4
                    have hne2 : ¬ n4 + 1 = n5 := by omega
                    have hne5 : ¬ n7 = n4 + 1 := by omega
                    have hne6 : ¬ n7 + 1 = n4 + 1 := by omega
                    obtain ⟨kz, ka, kb, kc, kf, kg, kh⟩ := U5
                    obtain ⟨lz, la, lb, lc, lf, lg, lh⟩ := U6
                    obtain ⟨gz, ga, gb, gc, gf, gg, gh⟩ := G7
                    obtain ⟨sz, sa, sb, sf, sg⟩ := G8
                    clear gf gg gh sf sg
                    go_wp2_with fail
                    have hmo : Try.prog.follows .mixedOrders = true := by kernel_rfl
                    go_region
                    go_wp2_with fail
                    go_meet
                    exact ⟨_, _, qs, qs.length, ([] : List (List UInt8)), m', 0, m', rfl, ⟨One.drew' (((U5'.out.far (by omega) _ _).far (by omega) _ _).far (by omega) _ _), One.drew' (by rw [List.take_length]; exact One.stored U6'.out _ _ _), World.ownsRow.drew (((O8.out.kept (grownBy_setC _ (n4 + 1) 0 (.string ⟨(recsB qs).toArray⟩)) (.inr NE6.out.symm)).kept (grownBy_setC _ (n4 + 1) 1 (.int .i64 ((recsB qs).length : Int))) (.inr NE6.out.symm)).kept (grownBy_setC _ (n4 + 1) 2 (.int .i64 room)) (.inr NE6.out.symm)), rfl, rfl, rfl, TD'.out, FI.out, Below.drew (((L8.out.setCell (p := ⟨n4 + 1, 0, none⟩) (by simp; omega) (.string ⟨(recsB qs).toArray⟩)).setCell (p := ⟨n4 + 1, 1, none⟩) (by simp; omega) (.int .i64 ((recsB qs).length : Int))).setCell (p := ⟨n4 + 1, 2, none⟩) (by simp; omega) (.int .i64 room)), .inl rfl⟩⟩
                · injection hv with e1 e2 e3
                  subst e1 e3
                  have hcapi : (es.length : Int) ≤ (cv : Int) := by omega
                  clear hcap e2
                  as_aux_lemma =>
                    obtain ⟨F, qs, es', m', b1, b2, b3, b4, b5, b6, b7, b8, b9, cA⟩ := rest_torn rs r es m k c TD.out room n bits HC.out hri HRI.out
                    have hqr : ((recsB qs).length : Int) ≤ room := by have := HC.out; omega
                    have cB := fun w => restart_any ⟨F.toArray⟩ (F.length : Int) room (by have := HC.out; simp [ByteArray.size]; omega) w
                    rw [b9] at cB
                    dsimp only at cB
                    have TD' := Lib.hid b1
                    have FI := Lib.hid hqr
                    have B3 := Lib.hid b3
                    clear b1 b3 b7 b8 b9 hqr k0 k1 k2
                    go_wp2_with fail
                    refine (cA _).mono ?_
                    rintro e4 w4 ⟨rfl, hb⟩
                    have U5 := V5.out.below' hb
                    have U6 := V6.out.below' hb
                    have xt := (hb.cell (p := ⟨n4, 1, none⟩) hs4).trans y1
                    have xn := (hb.cell (p := ⟨n4, 2, none⟩) hs4).trans y2
                    have L4 : Hid (Below w.heap.size w w4) := LB.out.trans (hb.mono LB.out.size)
                    have L4s : w.heap.size ≤ w4.heap.size := L4.out.size
                    have hr4 := own_kept RB.out hb
                    have hsz4 : n4 + 1 < w4.heap.size := U6.size
                    have R4 := Lib.hid hr4
                    have U5' := Lib.hid U5
                    have U6' := Lib.hid U6
                    clear y1 y2 y3 kz ka kb kc kf kg kh lz la lb lc lf lg lh hb V5 V6 RB LB LBs hr4 hsz hs4
                    obtain ⟨kz, ka, kb, kc, kf, kg, kh⟩ := U5
                    obtain ⟨lz, la, lb, lc, lf, lg, lh⟩ := U6
                    clear cA
                    go_wp2_with fail
                    refine (cB _).mono ?_
                    rintro e5 w5 ⟨vv, rfl, oo, hb⟩
                    have hb' : Below w4.heap.size w4 w5 := (low_al w4 _).trans (hb.mono (by simp))
                    replace U5 := U5'.out.below' hb'
                    replace U6 := U6'.out.below' hb'
                    have R5 := own_kept R4.out hb'
                    have L5 := L4.out.trans (hb'.mono L4s)
                    have n6o := n6h.out
                    obtain ⟨pf, cf, rfl⟩ := own_of oo
                    have n6q : some (n4 + 1) ≠ (Value.slice pf es'.length cf).ownBlock := fun e => by have e1 := (World.ownsRow.lt (show w5.ownsRow _ 9 1 (.slice pf es'.length cf) es'.length (strsV es') from oo) _ e.symm).1; have e2 := U6'.out.size; rw [World.size_alloc] at e1; omega
                    have oo' := ownsRow_mono (show n5 + 1 ≤ _ by simp; omega) (show w5.ownsRow _ 9 1 (.slice pf es'.length cf) es'.length (strsV es') from oo)
                    clear cB U5' U6' R4 L4 hb hb' oo xt xn kz ka kb kc kf kg kh lz la lb lc lf lg lh L4s n6h
                    have A1 := low_al w5 (.cells #[.string ⟨(recsB qs).toArray⟩, .int .i64 ((recsB qs).length : Int), .int .i64 room] 47)
                    have A2 := A1.trans ((low_al (w5.alloc (.cells #[.string ⟨(recsB qs).toArray⟩, .int .i64 ((recsB qs).length : Int), .int .i64 room] 47)) (.cells #[.slice pf es'.length cf, .int .i64 (m' : Int)] 61)).mono (by simp))
                    have G7 := (One.made w5 (.string ⟨(recsB qs).toArray⟩) (.int .i64 ((recsB qs).length : Int)) (.int .i64 room) 47).below' (low_al (w5.alloc (.cells #[.string ⟨(recsB qs).toArray⟩, .int .i64 ((recsB qs).length : Int), .int .i64 room] 47)) (.cells #[.slice pf es'.length cf, .int .i64 (m' : Int)] 61))
                    have G8 := Pair.made (w5.alloc (.cells #[.string ⟨(recsB qs).toArray⟩, .int .i64 ((recsB qs).length : Int), .int .i64 room] 47)) (.slice pf es'.length cf) (.int .i64 (m' : Int)) 61
                    rw [World.size_alloc] at G8
                    have Z5 := And.intro U5.size U6.size
                    replace U5 := U5.below' A2
                    replace U6 := U6.below' A2
                    replace R5 := own_kept R5 A2
                    replace oo' := own_kept oo' A2
                    replace L5 := L5.trans (A2.mono L5.size)
                    have h75 : n5 < w5.heap.size ∧ n4 + 1 < w5.heap.size := Z5
                    obtain ⟨n7, hn7⟩ : ∃ x, x = w5.heap.size := ⟨_, rfl⟩
                    go_wp2_with fail
                    rw [← hn7] at G7 G8 h75 ⊢
                    generalize (w5.alloc (.cells #[.string ⟨(recsB qs).toArray⟩, .int .i64 ((recsB qs).length : Int), .int .i64 room] 47)).alloc (.cells #[.slice pf es'.length cf, .int .i64 (m' : Int)] 61) = W at *
                    clear hn7 A1 A2 Z5
                    have RS := Lib.hid (row_str oo')
                    have RT := Lib.hid (by have h := row_take es'.length b2 R5; rwa [← B3.out] at h : StrRow W (.slice (some ⟨g, 0, none⟩) es'.length cv) es')
                    have HL' := Lib.hid (show (es'.length : Int) ≤ 2097152 by have := HLL.out; omega)
                    have U5' := Lib.hid U5
                    have U6' := Lib.hid U6
                    have G7' := Lib.hid G7
                    have G8' := Lib.hid G8
                    have O7 := Lib.hid oo'
                    have L7 := Lib.hid L5
                    have n6h := Lib.hid n6o
                    have NE6 := Lib.hid n6q
                    have q1 : decide (es'.length < k) = false := by simp; omega
                    have q2 : decide (es.length < es'.length) = false := by simp; omega
                    have q3 : decide (m' < c) = false := by simp; omega
                    have q4 : decide (m < m') = false := by simp; omega
                    have q5 : (es'.length : Int) ≤ (cv : Int) := by omega
                    have q6 : (0 : Int) ≤ (es'.length : Int) := by omega
                    have s0 := cell_regrown G8.a0
                    have s1 := cell_regrown G8.a1
                    clear U5 U6 G7 G8 oo' L5 R5 n6o b2 b4 b5 b6 hcapi hki hci hmi
                    refine wp_region_quiet_below (by kernel_rfl) (by kernel_rfl) ?_
                    repeat (go_big_quiet_step ((go_at_call 26; exact Calls.regrown_of (same_one _ _ es' _ (RS.out.below rfl (below_regrown W _ _)) (RT.out.below rfl (below_regrown W _ _)) HL'.out))))
                    refine wpQuiet_nil ?_
                    intro W5 hw'
                    have hb : Below W.heap.size W W5 := by obtain ⟨p, rfl⟩ := hw'; exact below_regrown W p.d p.os
                    clear hw'
                    have U5 := U5'.out.below' hb
                    have U6 := U6'.out.below' hb
                    have G7 := G7'.out.below' hb
                    have G8 := G8'.out.below' hb
                    have O8 := Lib.hid (own_kept O7.out hb)
                    have L8 := Lib.hid (L7.out.trans (hb.mono L7.out.size))
                    clear U5' U6' G7' G8' O7 L7 hb s0 s1 RS RT q1 q2 q3 q4 q5 q6
                    have U5' := Lib.hid U5
                    have U6' := Lib.hid U6
                    clear hne1 hne2 hne3 hne4
                    have hne2 : ¬ n4 + 1 = n5 := by omega
                    have hne5 : ¬ n7 = n4 + 1 := by omega
                    have hne6 : ¬ n7 + 1 = n4 + 1 := by omega
                    obtain ⟨kz, ka, kb, kc, kf, kg, kh⟩ := U5
                    obtain ⟨lz, la, lb, lc, lf, lg, lh⟩ := U6
                    obtain ⟨gz, ga, gb, gc, gf, gg, gh⟩ := G7
                    obtain ⟨sz, sa, sb, sf, sg⟩ := G8
                    clear gf gg gh sf sg
                    go_wp2_with fail
                    have hmo : Try.prog.follows .mixedOrders = true := by kernel_rfl
                    go_region
                    go_wp2_with fail
                    go_meet
                    exact ⟨_, _, qs, qs.length, es', m', es'.length, m', rfl, ⟨One.drew' (((U5'.out.far (by omega) _ _).far (by omega) _ _).far (by omega) _ _), One.drew' (by rw [List.take_length]; exact One.stored U6'.out _ _ _), World.ownsRow.drew (((O8.out.kept (grownBy_setC _ (n4 + 1) 0 (.string ⟨(recsB qs).toArray⟩)) (.inr NE6.out.symm)).kept (grownBy_setC _ (n4 + 1) 1 (.int .i64 ((recsB qs).length : Int))) (.inr NE6.out.symm)).kept (grownBy_setC _ (n4 + 1) 2 (.int .i64 room)) (.inr NE6.out.symm)), rfl, rfl, rfl, TD'.out, FI.out, Below.drew (((L8.out.setCell (p := ⟨n4 + 1, 0, none⟩) (by simp; omega) (.string ⟨(recsB qs).toArray⟩)).setCell (p := ⟨n4 + 1, 1, none⟩) (by simp; omega) (.int .i64 ((recsB qs).length : Int))).setCell (p := ⟨n4 + 1, 2, none⟩) (by simp; omega) (.int .i64 room)), .inl rfl⟩⟩
              · by_cases k4 : kind = 4
                · subst k4
                  as_aux_lemma =>
                    have cA := fun w => compact_any ⟨(recsB rs).toArray⟩ ((recsB (rs.take r)).length : Int) room (by have := HC.out; simp [ByteArray.size]; omega) w
                    rw [comp_ok (recsB rs) ((recsB (rs.take r)).length : Int) room ((right_iff _ _ _).2 HRI.out) es m TD.out.spec] at cA
                    obtain ⟨b1, b2, b3⟩ := TD.out.anew
                    rw [b2] at cA
                    dsimp only at cA
                    generalize anewT es m = qs at *
                    have TD' := Lib.hid b1
                    have hqi : ((recsB qs).length : Int) ≤ ((recsB rs).length : Int) := by omega
                    have FI := Lib.hid (show ((recsB qs).length : Int) ≤ room by have := HC.out; omega)
                    clear b1 b2 b3 k0 k1 k2 k3
                    go_wp2_with fail
                    refine (cA _).mono ?_
                    rintro e4 w4 ⟨rfl, hb⟩
                    have U5 := V5.out.below' hb
                    have U6 := V6.out.below' hb
                    have xt := (hb.cell (p := ⟨n4, 1, none⟩) hs4).trans y1
                    have xn := (hb.cell (p := ⟨n4, 2, none⟩) hs4).trans y2
                    have L4 : Hid (Below w.heap.size w w4) := LB.out.trans (hb.mono LB.out.size)
                    have L4s : w.heap.size ≤ w4.heap.size := L4.out.size
                    have hr4 := own_kept RB.out hb
                    have hsz4 : n4 + 1 < w4.heap.size := U6.size
                    have R4 := Lib.hid hr4
                    have U5' := Lib.hid U5
                    have U6' := Lib.hid U6
                    clear y1 y2 y3 kz ka kb kc kf kg kh lz la lb lc lf lg lh hb V5 V6 RB LB LBs hr4 hsz hs4
                    obtain ⟨kz, ka, kb, kc, kf, kg, kh⟩ := U5
                    obtain ⟨lz, la, lb, lc, lf, lg, lh⟩ := U6
                    clear cA
                    go_wp2_with fail
                    go_meet
                    exact ⟨_, _, qs, qs.length, es, m, es.length, m, rfl, ⟨(((U5'.out.far (by omega) _ _).far (by omega) _ _).far (by omega) _ _), (by rw [List.take_length]; exact One.stored U6'.out _ _ _), (((R4.out.kept (grownBy_setC _ (n4 + 1) 0 (.string ⟨(recsB qs).toArray⟩)) (.inr n6h.out.symm)).kept (grownBy_setC _ (n4 + 1) 1 (.int .i64 ((recsB qs).length : Int))) (.inr n6h.out.symm)).kept (grownBy_setC _ (n4 + 1) 2 (.int .i64 room)) (.inr n6h.out.symm)), rfl, rfl, rfl, TD'.out, FI.out, (((L4.out.setCell (p := ⟨n4 + 1, 0, none⟩) (by simp; omega) (.string ⟨(recsB qs).toArray⟩)).setCell (p := ⟨n4 + 1, 1, none⟩) (by simp; omega) (.int .i64 ((recsB qs).length : Int))).setCell (p := ⟨n4 + 1, 2, none⟩) (by simp; omega) (.int .i64 room)), .inl rfl⟩⟩
                · skip
                  have e0 : (kind == 0) = false := by simpa using k0
                  have e1 : (kind == 1) = false := by simpa using k1
                  have e2 : (kind == 2) = false := by simpa using k2
                  have e3 : (kind == 3) = false := by simpa using k3
                  have e4 : (kind == 4) = false := by simpa using k4
                  go_wp2_with fail
                  go_meet
                  exact ⟨_, _, rs, r, es, m, k, c, rfl, ⟨V5.out, V6.out, RB.out, rfl, rfl, rfl, TD.out, HC.out, LB.out, .inl rfl⟩⟩
      case rest =>
        obtain ⟨A, B, rs', r', es', m', k', c', rfl, hM⟩ := hcut
        clear y1 y2 y3 kz ka kb kc kf kg kh lz la lb lc lf lg lh V5 V6 RB LB LBs hs4 n6h hne1 hne2 hne3 hne4 TD HLL HRI HC hki hci hmi hsz
        obtain ⟨U5, U6, hrow, rfl, rfl, rfl, htold, hfit, hlow, hno⟩ := hM
        have hszz := htold.size
        have hcnt := recsB_count rs'
        have HLL := Lib.hid (show (es'.length : Int) ≤ 2097152 by omega)
        obtain ⟨pv', cv', rfl⟩ := own_of_row hrow
        have TX := One.stored U5 (.string ⟨(recsB rs').toArray⟩) (.int .i64 ((recsB (rs'.take r')).length : Int)) (.int .i64 room)
        have hX := (((hrow.kept (grownBy_setC _ (n5) 0 (.string ⟨(recsB rs').toArray⟩)) (.inr (low_ne_row hrow (by omega)).symm)).kept (grownBy_setC _ (n5) 1 (.int .i64 ((recsB (rs'.take r')).length : Int))) (.inr (low_ne_row hrow (by omega)).symm)).kept (grownBy_setC _ (n5) 2 (.int .i64 room)) (.inr (low_ne_row hrow (by omega)).symm))
        have BX := (((hlow.setCell (p := ⟨n5, 0, none⟩) h7 (.string ⟨(recsB rs').toArray⟩)).setCell (p := ⟨n5, 1, none⟩) h7 (.int .i64 ((recsB (rs'.take r')).length : Int))).setCell (p := ⟨n5, 2, none⟩) h7 (.int .i64 room))
        have TX' := Lib.hid TX
        have HX := Lib.hid hX
        have HBX := Lib.hid BX
        have TD' := Lib.hid htold
        have FI := Lib.hid hfit
        have hne1 : ¬ n5 = n4 + 1 := by omega
        have hne2 : ¬ n4 + 1 = n5 := by omega
        have cR := fun w => load_any (recsB rs') (by have := FI.out; omega) w
        rw [TD'.out.spec] at cR
        dsimp only at cR
        have CR := Lib.hid cR
        clear TX hX BX htold hfit hszz hcnt hrow hlow cR
        rcases hno with rfl | ⟨er, her, rfl, rfl, rfl⟩
        · obtain ⟨kz, ka, kb, kc, kf, kg, kh⟩ := U5
          obtain ⟨lz, la, lb, lc, lf, lg, lh⟩ := U6
          go_wp2_with fail
          clear kz ka kb kc kf kg kh lz la lb lc lf lg lh
          have TX := TX'.out
          have hX := HX.out
          have BX := HBX.out
          refine (CR.out _).mono ?_
          rintro e w7 ⟨mm, rfl, om, hb⟩
          obtain ⟨pm, cm, rfl⟩ := own_of om
          have hA := low_al w7 (.cells #[.slice pm es'.length cm, .int .i64 (m' : Int)] 61)
          have TY := (TX.below TX.size hb).below' hA
          have hY := own_kept (own_kept hX hb) hA
          have BY := BX.trans (hb.mono BX.size)
          replace BY := BY.trans (hA.mono BY.size)
          have RM := om.row.below rfl hA
          have SB := Pair.made w7 (.slice pm es'.length cm) (.int .i64 (m' : Int)) 61
          have TH := Lib.hid TY
          have HY := Lib.hid hY
          have HB := Lib.hid BY
          have HM := Lib.hid RM
          have HSB := Lib.hid SB
          clear TX hX BX hb om hY BY RM SB hA TY TX' HX HBX CR
          go_wp2_with fail
          refine (same_one (.slice pm es'.length cm) (.slice pv' es'.length cv') es' _ HM.out (row_str HY.out) HLL.out).mono ?_
          rintro e w8 ⟨rfl, hb⟩
          have TZ := Lib.hid (TH.out.below' hb)
          have HZ := Lib.hid (own_kept HY.out hb)
          have BZ := Lib.hid (HB.out.trans (hb.mono HB.out.size))
          have SZ := HSB.out.below' hb
          clear HM TH HY HB hb HSB
          obtain ⟨qz, q0, q1, qf, qg⟩ := SZ
          go_wp2_with fail
          go_roundg (L.length - (j + 1))
          case measure => omega
          case rel => exact ⟨j + 1, rs', r', es', m', k', c', by omega, rfl, by go_num, ⟨TZ.out, HZ.out, rfl, rfl, rfl, TD'.out, FI.out, BZ.out, h7⟩⟩
        · have hei : ¬ (er = 0) := her
          have heb : (er == 0) = false := by simpa using her
          obtain ⟨kz, ka, kb, kc, kf, kg, kh⟩ := U5
          obtain ⟨lz, la, lb, lc, lf, lg, lh⟩ := U6
          go_wp2_with fail
          clear kz ka kb kc kf kg kh lz la lb lc lf lg lh
          have TX := TX'.out
          have hX := HX.out
          have BX := HBX.out
          refine (CR.out _).mono ?_
          rintro e w7 ⟨mm, rfl, om, hb⟩
          obtain ⟨pm, cm, rfl⟩ := own_of om
          have hA := low_al w7 (.cells #[.slice pm es'.length cm, .int .i64 (m' : Int)] 61)
          have TY := (TX.below TX.size hb).below' hA
          have hY := own_kept (own_kept hX hb) hA
          have BY := BX.trans (hb.mono BX.size)
          replace BY := BY.trans (hA.mono BY.size)
          have RM := om.row.below rfl hA
          have SB := Pair.made w7 (.slice pm es'.length cm) (.int .i64 (m' : Int)) 61
          have TH := Lib.hid TY
          have HY := Lib.hid hY
          have HB := Lib.hid BY
          have HM := Lib.hid RM
          have HSB := Lib.hid SB
          clear TX hX BX hb om hY BY RM SB hA TY TX' HX HBX CR
          go_wp2_with fail
          refine (same_one (.slice pm es'.length cm) (.slice pv' es'.length cv') es' _ HM.out (row_str HY.out) HLL.out).mono ?_
          rintro e w8 ⟨rfl, hb⟩
          have TZ := Lib.hid (TH.out.below' hb)
          have HZ := Lib.hid (own_kept HY.out hb)
          have BZ := Lib.hid (HB.out.trans (hb.mono HB.out.size))
          have SZ := HSB.out.below' hb
          clear HM TH HY HB hb HSB
          obtain ⟨qz, q0, q1, qf, qg⟩ := SZ
          go_wp2_with fail
          go_roundg (L.length - (j + 1))
          case measure => omega
          case rel => exact ⟨j + 1, rs', r', es', m', k', c', by omega, rfl, by go_num, ⟨TZ.out, HZ.out, rfl, rfl, rfl, TD'.out, FI.out, BZ.out, h7⟩⟩
    · clear hA
      obtain ⟨h1, hrow, rfl, rfl, rfl, -, -, h6, h7⟩ := hK
      clear h1
      go_wp2_with fail
      go_ret
      exact ⟨rfl, h6⟩

theorem skeeps_long (room : Int) (h0 : 0 ≤ room) (hri : room ≤ 1048576) (ao : Option Addr) (n cap : Nat) (hn : 60 < n) (w : World) :
    Calls Try.prog 13 #[.int .i64 room, .slice ao n cap] w fun e w' => e = .returned (.bool true) ∧ Below w.heap.size w w' := by
  have hd : decide ((60 : Int) < (n : Int)) = true := by simp; omega
  go_enter Try.func13, Try.ntmps13
  go_wp2_with fail
  refine (sto_lives _).mono ?_
  rintro e w1 ⟨rfl, B⟩
  go_wp2_with fail
  refine (new_ok room ⟨h0, hri⟩ _).mono ?_
  rintro e w2 ⟨rfl, hb⟩
  have B2 := (B.trans (hb.mono B.size))
  go_wp2_with fail
  go_ret
  exact ⟨rfl, B2.alloc B2.size _⟩

theorem skeeps_range (room : Int) (hr : ¬ (0 ≤ room ∧ room ≤ 1048576)) (ao : Option Addr) (n cap : Nat) (w : World) :
    Calls Try.prog 13 #[.int .i64 room, .slice ao n cap] w fun e w' => e = .returned (.bool true) ∧ Below w.heap.size w w' := by
  have hr' : room < 0 ∨ (¬ room < 0 ∧ 1048576 < room) := by omega
  have H := Lib.hid hr'
  clear hr hr'
  go_enter Try.func13, Try.ntmps13
  go_wp2_with fail
  refine (sto_lives _).mono ?_
  rintro e w1 ⟨rfl, B⟩
  go_wp2_with fail
  refine (new_bad room (by have := H.out; omega) _).mono ?_
  rintro e w2 ⟨rfl, hb⟩
  have B2 := (B.trans (hb.mono B.size))
  go_wp2_with fail
  go_ret
  exact ⟨rfl, B2.alloc B2.size _⟩

theorem skeeps_empty (room : Int) (h0 : 0 ≤ room) (hri : room ≤ 1048576) (ao : Option Addr) (cap : Nat) (w : World) :
    Calls Try.prog 13 #[.int .i64 room, .slice ao 0 cap] w fun e w' => e = .returned (.bool true) ∧ Below w.heap.size w w' := by
  go_enter Try.func13, Try.ntmps13
  go_wp2_with fail
  refine (sto_lives _).mono ?_
  rintro e w1 ⟨rfl, B⟩
  go_wp2_with fail
  refine (new_ok room ⟨h0, hri⟩ _).mono ?_
  rintro e w2 ⟨rfl, hb⟩
  have B2 := (B.trans (hb.mono B.size))
  go_wp2_with fail
  refine wp_loop_rounds 1 ?_
  rw [rounds_succ]
  go_wp2_with fail
  go_ret
  exact ⟨rfl, B2.alloc B2.size _⟩
end Sto
end Go.Proofs.Ytjfibmlpjcncmaa
