/- The walk of chapter 9's law JournalKeeps. -/
import Derived.Test.YtjfibmlpjcncmaaJrnTorn
import Derived.Test.YtjfibmlpjcncmaaJrnLaws
import Derived.Test.YtjfibmlpjcncmaaDiskKeptWalk
import Derived.Outline
namespace Go.Proofs.Ytjfibmlpjcncmaa
open Go.RowKit
set_option linter.unusedVariables false
set_option linter.unusedSimpArgs false
set_option maxRecDepth 100000
namespace Jrn
open Oct Crc Disk

theorem _root_.Go.Proofs.Ytjfibmlpjcncmaa.Disk.One.grown {n : Nat} {w w' : World} {row : Option Nat} {a b c : Value} (h : One n w a b c) (hg : w.grownBy w' row) (hne : some n ≠ row) : One n w' a b c := by
  have hb := hg.block n h.size hne
  have k : ∀ j, w'.cell? ⟨n, j, none⟩ = w.cell? ⟨n, j, none⟩ := fun j => by simp [World.cell?, hb]
  have g : ∀ j, w'.frozen? ⟨n, j, none⟩ = w.frozen? ⟨n, j, none⟩ := fun j => by simp [World.frozen?, hb]
  exact ⟨Nat.lt_of_lt_of_le h.size hg.size, (k 0).trans h.a0, (k 1).trans h.a1, (k 2).trans h.a2, (g 0).trans h.f0, (g 1).trans h.f1, (g 2).trans h.f2⟩

/-- behind a call of a round: the disk's block and the call's text -/
theorem after1 {wr w4 : World} {n5 : Nat} {a b c k0 k1 k2 k3 : Value} {t4 : TypeId} (T : One n5 wr a b c)
    (hb : Below (wr.alloc (.cells #[k0, k1, k2, k3] t4)).heap.size (wr.alloc (.cells #[k0, k1, k2, k3] t4)) w4) :
    One n5 w4 a b c ∧ w4.cell? ⟨wr.heap.size, 1, none⟩ = some k1 ∧ Below wr.heap.size wr w4 ∧ wr.heap.size < w4.heap.size := by
  have h1 : Below wr.heap.size wr (wr.alloc (.cells #[k0, k1, k2, k3] t4)) := (Below.refl _ _).alloc (Nat.le_refl _) _
  have h2 : Below wr.heap.size wr w4 := h1.trans (hb.mono (by simp))
  refine ⟨T.below T.size h2, ?_, h2, by have := hb.size; simp at this; omega⟩
  rw [hb.cell (p := ⟨wr.heap.size, 1, none⟩) (by simp)]
  exact World.cell?_alloc_mark wr #[k0, k1, k2, k3] t4 (0, 0) 1

theorem grownBy_setC (W : World) (b o : Nat) (v : Value) : W.grownBy (W.setCell ⟨b, o, none⟩ v) (some b) :=
  ⟨rfl, rfl, rfl, (KeepsWalks.setCell W _ v).size, fun k _ hk => Below.heap_setCell _ _ _ k (fun e => hk (by rw [e]))⟩
theorem cell_one_new' (W : World) (o : Obj) (v : Value) (t : TypeId) : ∀ j u, [v][j]? = some u → ((W.alloc o).alloc (.cells #[v] t)).cell? ((⟨W.heap.size + 1, 0, none⟩ : Addr).add j) = some u := by
  have h := cell_one_new (W.alloc o) v t
  rwa [World.size_alloc] at h
theorem add_full (l t : List UInt8) (S R : Int) (hr : rightB ⟨l.toArray⟩ S R = true) (ht : t.length ≤ 8192) (hl : ¬ (l.length : Int) + ((recB t).length : Int) ≤ R) :
    addR ⟨l.toArray⟩ S R t = ⟨⟨l.toArray⟩, S, R, 8⟩ := by
  rw [addR, if_pos hr, if_pos ht, writeR, if_pos hr, if_neg (by simp [ByteArray.size]; omega)]
theorem add_long (l t : List UInt8) (S R : Int) (hr : rightB ⟨l.toArray⟩ S R = true) (ht : ¬ t.length ≤ 8192) :
    addR ⟨l.toArray⟩ S R t = ⟨⟨l.toArray⟩, S, R, 7⟩ := by
  rw [addR, if_pos hr, if_neg ht]

/-- what a failure leaves -/
theorem fail_torn (l : List UInt8) (p : Nat) (room n : Int) (b : UInt8) (h : Right ⟨l.toArray⟩ (p : Int) room) : ∃ F : List UInt8, p ≤ F.length ∧ F.length ≤ l.length ∧ (F.length = p → F = l.take p) ∧ (p < F.length → F.take (F.length - 1) = l.take (F.length - 1)) ∧
    ∀ w, Calls Try.prog 42 #[.agg #[.string ⟨l.toArray⟩, .int .i64 (p : Int), .int .i64 room], .int .i64 n, .int .u8 (b.toNat : Int)] w fun e w' => e = .returned (.tuple #[.agg #[.string ⟨F.toArray⟩, .int .i64 (F.length : Int), .int .i64 room], .int .i64 0]) ∧ Below w.heap.size w w' := by
  have hsz : (⟨l.toArray⟩ : ByteArray).size = l.length := by simp [ByteArray.size]
  have hpl : p ≤ l.length := by have := h.2.1; rw [hsz] at this; omega
  have hst : (stays ⟨l.toArray⟩ p n : Int) = min (max n 0) (((⟨l.toArray⟩ : ByteArray).size : Int) - p) := by rw [hsz]; unfold stays; rw [hsz]; omega
  rw [hsz] at hst
  by_cases hs : stays ⟨l.toArray⟩ p n = 0
  · have hF : (l.take p).length = p := by rw [List.length_take]; omega
    refine ⟨l.take p, by omega, by omega, fun _ => rfl, fun hh => by omega, fun w => ?_⟩
    refine (fail_none ⟨l.toArray⟩ p room n b h w (fun W => by rw [run_max_int2]; congr 2; split <;> omega) (fun W => by rw [run_min_int2, hsz]; congr 2; split <;> omega)).mono fun e w' hh => ⟨?_, hh.2⟩
    rw [hh.1, hF]
  · generalize stays ⟨l.toArray⟩ p n = q at *
    have hF : (lastXor (l.take (p + q)) b).length = p + q := by rw [lastXor_length, List.length_take]; omega
    refine ⟨lastXor (l.take (p + q)) b, by omega, by omega, fun hh => by omega, fun _ => ?_, fun w => ?_⟩
    · rw [hF]
      have := last_head ⟨l.toArray⟩ (p + q) b (by rw [hsz]; omega) ⟨(lastXor (l.take (p + q)) b).toArray⟩ rfl
      rw [beq_iff_eq, Lib.extract_toList, Lib.extract_toList] at this
      simpa using this
    · refine (fail_some ⟨l.toArray⟩ p q room n b h (by omega) (by rw [hsz]; omega) w (fun W => by rw [run_max_int2]; congr 2; split <;> omega) (fun W => by rw [run_min_int2, hsz]; congr 2; split <;> omega)).mono fun e w' hh => ⟨?_, hh.2⟩
      rw [hh.1, hF]
      have : ((p + q : Nat) : Int) = (p : Int) + (q : Int) := by omega
      rw [this]

/-- what holds at each round's head -/
structure Keep (room : Int) (n5 : Nat) (w wr : World) (v s : Value) (ls : List (List UInt8)) (k : Nat) : Prop where
  one : One n5 wr (.string ⟨(recsB ls).toArray⟩) (.int .i64 ((recsB (ls.take k)).length : Int)) (.int .i64 room)
  row : wr.ownsRow (n5 + 1) 9 1 v ls.length (strsV ls)
  syn : s = .int .i64 (k : Int)
  kle : k ≤ ls.length
  short : ∀ t ∈ ls, t.length ≤ 8192
  fits : ((recsB ls).length : Int) ≤ room
  low : Below w.heap.size w wr
  new : w.heap.size ≤ n5

theorem own_of_row {W : World} {base e size k : Nat} {v : Value} {xs : List Value} (h : W.ownsRow base e size v k xs) : ∃ p cap, v = .slice p k cap := by
  rcases h.2 with ⟨rfl, rfl⟩ | ⟨g, cap, cur, rfl, _⟩
  · exact ⟨_, _, rfl⟩
  · exact ⟨_, _, rfl⟩

theorem row_str {W : World} {base : Nat} {v : Value} {ls : List (List UInt8)} (h : W.ownsRow base 9 1 v ls.length (strsV ls)) : StrRow W v ls := OwnS.row (show OwnS base W v ls from h)

theorem row_take {W : World} {base : Nat} {g cap : Nat} {ls : List (List UInt8)} (j : Nat) (hj : j ≤ ls.length) (h : W.ownsRow base 9 1 (.slice (some ⟨g, 0, none⟩) ls.length cap) ls.length (strsV ls)) : StrRow W (.slice (some ⟨g, 0, none⟩) j cap) (ls.take j) := by
  have hl : (ls.take j).length = j := by rw [List.length_take]; omega
  refine .inr ⟨g, 0, cap, by rw [hl], (h.lt g rfl).2, fun i hi => ?_⟩
  rw [hl] at hi
  have := h.cells (g := g) rfl i (.string ⟨(ls[i]).toArray⟩) (by simp [strsV, show i < ls.length by omega])
  rw [Addr.add_lit] at this
  simpa using this

theorem right_of (l : List UInt8) (p : Nat) (room : Int) (hp : p ≤ l.length) (h : (l.length : Int) ≤ room) (hr : room ≤ 1048576) : Right ⟨l.toArray⟩ (p : Int) room := by
  have hsz : (⟨l.toArray⟩ : ByteArray).size = l.length := by simp [ByteArray.size]
  refine ⟨by omega, by rw [hsz]; omega, by rw [hsz]; omega, hr⟩

theorem recs_take_le (ls : List (List UInt8)) (k : Nat) : (recsB (ls.take k)).length ≤ (recsB ls).length := by
  rw [← take_recs ls k, List.length_take]; omega

set_option maxHeartbeats 16000000 in
theorem keeps_walk (room : Int) (h0 : 0 ≤ room) (hri : room ≤ 1048576) (b off cap : Nat) (L : List ActD) (hL : L.length ≤ 60) (w : World) (hA : Acts w b off L) :
    Calls Try.prog 10 #[.int .i64 room, .slice (some ⟨b, off, none⟩) L.length cap] w fun e w' => e = .returned (.bool true) ∧ Below w.heap.size w w' := by
  obtain ⟨i0, hi, hz0, hz1, hz2⟩ := info_parts info_str
  have hLi : (L.length : Int) ≤ 60 := by omega
  have hd60 : decide ((60 : Int) < (L.length : Int)) = false := by simp; omega
  go_enter Try.func10, Try.ntmps10
  go_wp2_with fail
  refine (jrn_lives _).mono ?_
  rintro e w1 ⟨rfl, B⟩
  go_wp2_with fail
  refine (new_ok room ⟨by omega, hri⟩ _).mono ?_
  rintro e w2 ⟨rfl, hb⟩
  have T2 := One.made w2 (.string ⟨#[]⟩) (.int .i64 0) (.int .i64 room) 47
  have B2 : Below w.heap.size w (w2.alloc (.cells #[.string ⟨#[]⟩, .int .i64 0, .int .i64 room] 47)) := (B.trans (hb.mono B.size)).alloc (by have := B.size; have := hb.size; omega) _
  have hz2' : w.heap.size ≤ w2.heap.size := by have := B.size; have := hb.size; omega
  clear hb B
  go_wp2_with fail
  obtain ⟨n5, hn⟩ : ∃ x, x = w2.heap.size := ⟨_, rfl⟩
  rw [← hn] at T2 ⊢
  have hz5 : w.heap.size ≤ n5 := by omega
  clear hn hz2'
  generalize w2.alloc (.cells #[.string ⟨#[]⟩, .int .i64 0, .int .i64 room] 47) = w3 at *
  go_loopw [7, 8, 46] (fun v s i wr => ∃ (j : Nat) (ls : List (List UInt8)) (k : Nat), j ≤ L.length ∧ i = .int .i64 (j : Int) ∧ Keep room n5 w wr v s ls k) (fun _ _ i _ => L.length - (intOf i).toNat)
  case atStart => exact ⟨0, [], 0, by omega, rfl, ⟨T2, World.ownsRow_nil _ _ _ _, rfl, by simp, by simp, by simpa [recsB] using h0, B2, hz5⟩⟩
  case round =>
    obtain ⟨j, ls, k, hj, rfl, hK⟩ := hrel
    clear T2 B2
    by_cases hlt : j < L.length
    · obtain ⟨x, hx⟩ : ∃ x, L[j]? = some x := ⟨_, List.getElem?_eq_getElem hlt⟩
      have hbw : b < w.heap.size := hA.lt (by intro h; rw [h] at hx; simp at hx)
      have x0 := (hK.low.cell (p := ⟨b, off + j * 4, none⟩) hbw).trans (hA.c0 j x hx)
      have x1 := (hK.low.cell (p := ⟨b, off + j * 4 + 1, none⟩) hbw).trans (hA.c1 j x hx)
      have x2 := (hK.low.cell (p := ⟨b, off + j * 4 + 2, none⟩) hbw).trans (hA.c2 j x hx)
      have x3 := (hK.low.cell (p := ⟨b, off + j * 4 + 3, none⟩) hbw).trans (hA.c3 j x hx)
      have hltw := hK.low.size
      clear hA hx
      obtain ⟨kind, text, n, bits⟩ := x
      dsimp only at x0 x1 x2 x3
      obtain ⟨t, rfl, -⟩ := Jrn.bytes_of text
      obtain ⟨T5, hrow, rfl, hkl, hsh, hfit, h6, h7⟩ := hK
      obtain ⟨pv, cv, rfl⟩ := own_of_row hrow
      have hcnt := recsB_count ls
      have hll : ls.length ≤ 300000 := by omega
      have hS := recs_take_le ls k
      have T5' := Lib.hid T5
      have H6 := Lib.hid h6
      have HR := Lib.hid hrow
      have SH := Lib.hid hsh
      have HLL := Lib.hid hll
      have HC := Lib.hid (And.intro hfit (And.intro hkl hS))
      clear h6 hrow hsh hll hcnt hfit hkl hS
      obtain ⟨kz, ka, kb, kc, kf, kg, kh⟩ := T5
      have hbr : b < wr.heap.size := by omega
      by_cases k0 : kind = 0
      · subst k0
        by_cases ht : t.length ≤ 8192
        · by_cases hf : ((recsB ls).length : Int) + ((recB t).length : Int) ≤ room
          · skip
            have cA := fun w => add_any ⟨(recsB ls).toArray⟩ ((recsB (ls.take k)).length : Int) room t w
            rw [add_ok (recsB ls) t _ room ((right_iff _ _ _).2 (right_of _ _ room HC.out.2.2 HC.out.1 hri)) ht hf, ← recsB_append] at cA
            have hfi : ((recsB (ls ++ [t])).length : Int) ≤ room := by rw [recsB_append, List.length_append]; omega
            have hsh' : ∀ x ∈ ls ++ [t], x.length ≤ 8192 := by
              intro x hx
              rcases List.mem_append.1 hx with hx | hx
              · exact SH.out x hx
              · rw [List.mem_singleton.1 hx]; exact ht
            have hk' : (ls ++ [t]).take k = ls.take k := List.take_append_of_le_length HC.out.2.1
            have HK := Lib.hid hk'
            have SH' := Lib.hid hsh'
            have hcnt := recsB_count (ls ++ [t])
            have hll' : (ls ++ [t]).length ≤ 300000 := by omega
            have HLL' := Lib.hid hll'
            have FI := Lib.hid hfi
            clear hk' hsh' hcnt hll' hfi hf ht
            go_wp2_with fail
            refine (cA _).mono ?_
            rintro e w4 ⟨rfl, hb⟩
            obtain ⟨U5, xt, hlow, hsz⟩ := after1 T5'.out hb
            have L4 : Hid (Below w.heap.size w w4) := H6.out.trans (hlow.mono hltw)
            have L4s : w.heap.size ≤ w4.heap.size := L4.out.size
            have hn5 : n5 < wr.heap.size := kz
            have hr4 := own_kept HR.out hlow
            have R4 := Lib.hid hr4
            have U5' := Lib.hid U5
            clear x0 x1 x2 x3 kz ka kb kc kf kg kh hb hlow T5' hbr HR H6 hr4
            obtain ⟨kz, ka, kb, kc, kf, kg, kh⟩ := U5
            clear cA
            have hlt5 := HLL.out
            have hne5 := low_ne_row R4.out (show n5 < n5 + 1 by omega)
            have hnee : some w4.heap.size ≠ (Value.slice pv ls.length cv).ownBlock := fun e => by have := (R4.out.lt _ e.symm).2; omega
            have hE := (One.made w4 (.string ⟨(recsB (ls ++ [t])).toArray⟩) (.int .i64 ((recsB (ls.take k)).length : Int)) (.int .i64 room) 47).below (by simp) ((Below.refl (w4.alloc (.cells #[.string ⟨(recsB (ls ++ [t])).toArray⟩, .int .i64 ((recsB (ls.take k)).length : Int), .int .i64 room] 47)).heap.size _).alloc (Nat.le_refl _) (.cells #[.string ⟨t.toArray⟩] 9))
            have hN := U5'.out.below U5'.out.size (((Below.refl w4.heap.size w4).alloc (Nat.le_refl _) (.cells #[.string ⟨(recsB (ls ++ [t])).toArray⟩, .int .i64 ((recsB (ls.take k)).length : Int), .int .i64 room] 47)).alloc (by simp) (.cells #[.string ⟨t.toArray⟩] 9))
            have hBW := (L4.out.alloc L4s (.cells #[.string ⟨(recsB (ls ++ [t])).toArray⟩, .int .i64 ((recsB (ls.take k)).length : Int), .int .i64 room] 47)).alloc (by simp; omega) (.cells #[.string ⟨t.toArray⟩] 9)
            have HE := Lib.hid hE
            have HN := Lib.hid hN
            have HW := Lib.hid hBW
            have NE := Lib.hid (And.intro hne5 hnee)
            clear hE hN hne5 hnee hBW
            go_wp2_with (at_builtin; go_must (refine wpList_append_own _ rfl _ _ _ rfl (n5 + 1) 9 i0 (.string ⟨#[]⟩) 1 16 Try.underlying32 hi hz0 hz1 hz2 rfl (by decide) _ _ _ rfl ((R4.out.alloc (.cells #[.string ⟨(recsB (ls ++ [t])).toArray⟩, .int .i64 ((recsB (ls.take k)).length : Int), .int .i64 room] 47)).alloc _) ⟨w4.heap.size + 1, 0, none⟩ 1 1 [.string ⟨t.toArray⟩] rfl rfl (cell_one_new' _ _ _ _) (by simp [Value.oneCell']) (by unfold maxLen; omega) (by omega) (by simp; omega) ?_; intro v' w6 hown' hgrow0 _; have hgrow : (((w4.alloc (.cells #[.string ⟨(recsB (ls ++ [t])).toArray⟩, .int .i64 ((recsB (ls.take k)).length : Int), .int .i64 room] 47)).alloc (.cells #[.string ⟨t.toArray⟩] 9)).grownBy w6 (Value.slice pv ls.length cv).ownBlock) := hgrow0; have E6 := HE.out.grown hgrow NE.out.2; have N6 := HN.out.grown hgrow NE.out.1; have W6 := HW.out.grown hgrow (by have := L4s; simp; omega) (fun q hq => by have := (R4.out.lt q hq).1; omega); have O6 : w6.ownsRow (n5 + 1) 9 1 v' (ls ++ [t]).length (strsV (ls ++ [t])) := (by rw [strsV_append, List.length_append]; exact hown'); clear hgrow0 hown' hgrow HE HN HW NE kz ka kb kc kf kg kh R4 L4 U5'; have N6' := Lib.hid N6; have W6' := Lib.hid W6; have O6' := Lib.hid O6; clear W6 O6; obtain ⟨kz, ka, kb, kc, kf, kg, kh⟩ := N6; obtain ⟨ez, ea, eb, ec, ef, eg, eh⟩ := E6))
            have cR := fun w => read_any (recsB (ls ++ [t])) (by have := FI.out; omega) w
            rw [read_recs (ls ++ [t]) SH'.out] at cR
            have TX := One.stored N6'.out (.string ⟨(recsB (ls ++ [t])).toArray⟩) (.int .i64 ((recsB (ls.take k)).length : Int)) (.int .i64 room)
            have hX := ((O6'.out.kept (grownBy_setC _ n5 0 (.string ⟨(recsB (ls ++ [t])).toArray⟩)) (.inr (low_ne_row O6'.out (by omega)).symm)).kept (grownBy_setC _ n5 1 (.int .i64 ((recsB (ls.take k)).length : Int))) (.inr (low_ne_row O6'.out (by omega)).symm)).kept (grownBy_setC _ n5 2 (.int .i64 room)) (.inr (low_ne_row O6'.out (by omega)).symm)
            have BX := ((W6'.out.setCell (p := ⟨n5, 0, none⟩) h7 (.string ⟨(recsB (ls ++ [t])).toArray⟩)).setCell (p := ⟨n5, 1, none⟩) h7 (.int .i64 ((recsB (ls.take k)).length : Int))).setCell (p := ⟨n5, 2, none⟩) h7 (.int .i64 room)
            clear N6' O6' W6' ez ea eb ec ef eg eh kz ka kb kc kf kg kh
            refine (cR _).mono ?_
            rintro e w7 ⟨m, rfl, om, hb⟩
            have TY := TX.below TX.size hb
            have hY := own_kept hX hb
            have BY := BX.trans (hb.mono BX.size)
            have RM := om.row
            have TH := Lib.hid TY
            have HY := Lib.hid hY
            have HB := Lib.hid BY
            clear TX hX BX hb om cR hY BY
            obtain ⟨yz, ya, yb, yc, yf, yg, yh⟩ := TY
            go_wp2_with fail
            refine (same_big m v' (ls ++ [t]) (ls ++ [t]) _ RM (row_str HY.out) (by have := HLL'.out; omega)).mono ?_
            rintro e w8 ⟨rfl, hb⟩
            rw [decide_eq_true rfl]
            have TZ := TH.out.below TH.out.size hb
            have hZ := own_kept HY.out hb
            have BZ := HB.out.trans (hb.mono HB.out.size)
            clear RM TH HY HB hb yz ya yb yc yf yg yh
            have TH := Lib.hid TZ
            have HZ := Lib.hid hZ
            have HB := Lib.hid BZ
            clear hZ BZ
            obtain ⟨zz, za, zb, zc, zf, zg, zh⟩ := TZ
            go_wp2_with fail
            all_goals go_roundw
            case rel => exact ⟨j + 1, (ls ++ [t]), k, by omega, by go_num, ⟨(by rw [HK.out]; exact TH.out), HZ.out, rfl, (by have := HC.out.2.1; simp; omega), SH'.out, FI.out, HB.out, h7⟩⟩
            case measure => simp [intOf]; omega
          · skip
            have cA := fun w => add_any ⟨(recsB ls).toArray⟩ ((recsB (ls.take k)).length : Int) room t w
            rw [show addR ⟨(recsB ls).toArray⟩ ((recsB (ls.take k)).length : Int) room t = ⟨⟨(recsB ls).toArray⟩, ((recsB (ls.take k)).length : Int), room, 8⟩ from add_full _ _ _ room ((right_iff _ _ _).2 (right_of _ _ room HC.out.2.2 HC.out.1 hri)) ht hf] at cA
            clear hf ht
            go_wp2_with fail
            refine (cA _).mono ?_
            rintro e w4 ⟨rfl, hb⟩
            obtain ⟨U5, xt, hlow, hsz⟩ := after1 T5'.out hb
            have L4 : Hid (Below w.heap.size w w4) := H6.out.trans (hlow.mono hltw)
            have L4s : w.heap.size ≤ w4.heap.size := L4.out.size
            have hn5 : n5 < wr.heap.size := kz
            have hr4 := own_kept HR.out hlow
            have R4 := Lib.hid hr4
            have U5' := Lib.hid U5
            clear x0 x1 x2 x3 kz ka kb kc kf kg kh hb hlow T5' hbr HR H6 hr4
            obtain ⟨kz, ka, kb, kc, kf, kg, kh⟩ := U5
            go_wp2_with fail
            have cR := fun w => read_any (recsB ls) (by have := HC.out.1; omega) w
            rw [read_recs ls SH.out] at cR
            have TX := (One.stored U5'.out (.string ⟨(recsB ls).toArray⟩) (.int .i64 ((recsB (ls.take k)).length : Int)) (.int .i64 room)).below (by simpa [World.setCell] using U5'.out.size) ((Below.refl (((w4.setCell ⟨n5, 0, none⟩ (.string ⟨(recsB ls).toArray⟩)).setCell ⟨n5, 1, none⟩ (.int .i64 ((recsB (ls.take k)).length : Int))).setCell ⟨n5, 2, none⟩ (.int .i64 room)).heap.size _).alloc (Nat.le_refl _) (.cells #[.string ⟨(recsB ls).toArray⟩, .int .i64 ((recsB (ls.take k)).length : Int), .int .i64 room] 47))
            have hX := (((R4.out.kept (grownBy_setC _ n5 0 (.string ⟨(recsB ls).toArray⟩)) (.inr (low_ne_row R4.out (by omega)).symm)).kept (grownBy_setC _ n5 1 (.int .i64 ((recsB (ls.take k)).length : Int))) (.inr (low_ne_row R4.out (by omega)).symm)).kept (grownBy_setC _ n5 2 (.int .i64 room)) (.inr (low_ne_row R4.out (by omega)).symm)).alloc (.cells #[.string ⟨(recsB ls).toArray⟩, .int .i64 ((recsB (ls.take k)).length : Int), .int .i64 room] 47)
            have BX := ((((L4.out.setCell (p := ⟨n5, 0, none⟩) h7 (.string ⟨(recsB ls).toArray⟩)).setCell (p := ⟨n5, 1, none⟩) h7 (.int .i64 ((recsB (ls.take k)).length : Int))).setCell (p := ⟨n5, 2, none⟩) h7 (.int .i64 room)).alloc (by simpa [World.setCell] using L4s) (.cells #[.string ⟨(recsB ls).toArray⟩, .int .i64 ((recsB (ls.take k)).length : Int), .int .i64 room] 47))
            clear kz ka kb kc kf kg kh U5' R4 L4
            refine (cR _).mono ?_
            rintro e w7 ⟨m, rfl, om, hb⟩
            have TY := TX.below TX.size hb
            have hY := own_kept hX hb
            have BY := BX.trans (hb.mono BX.size)
            have RM := om.row
            have TH := Lib.hid TY
            have HY := Lib.hid hY
            have HB := Lib.hid BY
            clear TX hX BX hb om cR hY BY
            obtain ⟨yz, ya, yb, yc, yf, yg, yh⟩ := TY
            go_wp2_with fail
            refine (same_big m (.slice pv ls.length cv) ls ls _ RM (row_str HY.out) (by have := HLL.out; omega)).mono ?_
            rintro e w8 ⟨rfl, hb⟩
            rw [decide_eq_true rfl]
            have TZ := TH.out.below TH.out.size hb
            have hZ := own_kept HY.out hb
            have BZ := HB.out.trans (hb.mono HB.out.size)
            clear RM TH HY HB hb yz ya yb yc yf yg yh
            have TH := Lib.hid TZ
            have HZ := Lib.hid hZ
            have HB := Lib.hid BZ
            clear hZ BZ
            obtain ⟨zz, za, zb, zc, zf, zg, zh⟩ := TZ
            go_wp2_with fail
            all_goals go_roundw
            case rel => exact ⟨j + 1, ls, k, by omega, by go_num, ⟨TH.out, HZ.out, rfl, HC.out.2.1, SH.out, HC.out.1, HB.out, h7⟩⟩
            case measure => simp [intOf]; omega
        · skip
          have cA := fun w => add_any ⟨(recsB ls).toArray⟩ ((recsB (ls.take k)).length : Int) room t w
          rw [show addR ⟨(recsB ls).toArray⟩ ((recsB (ls.take k)).length : Int) room t = ⟨⟨(recsB ls).toArray⟩, ((recsB (ls.take k)).length : Int), room, 7⟩ from add_long _ _ _ room ((right_iff _ _ _).2 (right_of _ _ room HC.out.2.2 HC.out.1 hri)) ht] at cA
          clear ht
          go_wp2_with fail
          refine (cA _).mono ?_
          rintro e w4 ⟨rfl, hb⟩
          obtain ⟨U5, xt, hlow, hsz⟩ := after1 T5'.out hb
          have L4 : Hid (Below w.heap.size w w4) := H6.out.trans (hlow.mono hltw)
          have L4s : w.heap.size ≤ w4.heap.size := L4.out.size
          have hn5 : n5 < wr.heap.size := kz
          have hr4 := own_kept HR.out hlow
          have R4 := Lib.hid hr4
          have U5' := Lib.hid U5
          clear x0 x1 x2 x3 kz ka kb kc kf kg kh hb hlow T5' hbr HR H6 hr4
          obtain ⟨kz, ka, kb, kc, kf, kg, kh⟩ := U5
          go_wp2_with fail
          have cR := fun w => read_any (recsB ls) (by have := HC.out.1; omega) w
          rw [read_recs ls SH.out] at cR
          have TX := (One.stored U5'.out (.string ⟨(recsB ls).toArray⟩) (.int .i64 ((recsB (ls.take k)).length : Int)) (.int .i64 room)).below (by simpa [World.setCell] using U5'.out.size) ((Below.refl (((w4.setCell ⟨n5, 0, none⟩ (.string ⟨(recsB ls).toArray⟩)).setCell ⟨n5, 1, none⟩ (.int .i64 ((recsB (ls.take k)).length : Int))).setCell ⟨n5, 2, none⟩ (.int .i64 room)).heap.size _).alloc (Nat.le_refl _) (.cells #[.string ⟨(recsB ls).toArray⟩, .int .i64 ((recsB (ls.take k)).length : Int), .int .i64 room] 47))
          have hX := (((R4.out.kept (grownBy_setC _ n5 0 (.string ⟨(recsB ls).toArray⟩)) (.inr (low_ne_row R4.out (by omega)).symm)).kept (grownBy_setC _ n5 1 (.int .i64 ((recsB (ls.take k)).length : Int))) (.inr (low_ne_row R4.out (by omega)).symm)).kept (grownBy_setC _ n5 2 (.int .i64 room)) (.inr (low_ne_row R4.out (by omega)).symm)).alloc (.cells #[.string ⟨(recsB ls).toArray⟩, .int .i64 ((recsB (ls.take k)).length : Int), .int .i64 room] 47)
          have BX := ((((L4.out.setCell (p := ⟨n5, 0, none⟩) h7 (.string ⟨(recsB ls).toArray⟩)).setCell (p := ⟨n5, 1, none⟩) h7 (.int .i64 ((recsB (ls.take k)).length : Int))).setCell (p := ⟨n5, 2, none⟩) h7 (.int .i64 room)).alloc (by simpa [World.setCell] using L4s) (.cells #[.string ⟨(recsB ls).toArray⟩, .int .i64 ((recsB (ls.take k)).length : Int), .int .i64 room] 47))
          clear kz ka kb kc kf kg kh U5' R4 L4
          refine (cR _).mono ?_
          rintro e w7 ⟨m, rfl, om, hb⟩
          have TY := TX.below TX.size hb
          have hY := own_kept hX hb
          have BY := BX.trans (hb.mono BX.size)
          have RM := om.row
          have TH := Lib.hid TY
          have HY := Lib.hid hY
          have HB := Lib.hid BY
          clear TX hX BX hb om cR hY BY
          obtain ⟨yz, ya, yb, yc, yf, yg, yh⟩ := TY
          go_wp2_with fail
          refine (same_big m (.slice pv ls.length cv) ls ls _ RM (row_str HY.out) (by have := HLL.out; omega)).mono ?_
          rintro e w8 ⟨rfl, hb⟩
          rw [decide_eq_true rfl]
          have TZ := TH.out.below TH.out.size hb
          have hZ := own_kept HY.out hb
          have BZ := HB.out.trans (hb.mono HB.out.size)
          clear RM TH HY HB hb yz ya yb yc yf yg yh
          have TH := Lib.hid TZ
          have HZ := Lib.hid hZ
          have HB := Lib.hid BZ
          clear hZ BZ
          obtain ⟨zz, za, zb, zc, zf, zg, zh⟩ := TZ
          go_wp2_with fail
          all_goals go_roundw
          case rel => exact ⟨j + 1, ls, k, by omega, by go_num, ⟨TH.out, HZ.out, rfl, HC.out.2.1, SH.out, HC.out.1, HB.out, h7⟩⟩
          case measure => simp [intOf]; omega
      · by_cases k1 : kind = 1
        · subst k1
          have cA := fun w => sync_ok ⟨(recsB ls).toArray⟩ ((recsB (ls.take k)).length : Int) room (right_of _ _ room HC.out.2.2 HC.out.1 hri) w
          rw [show (⟨(recsB ls).toArray⟩ : ByteArray).size = (recsB ls).length by simp [ByteArray.size]] at cA
          clear k0
          go_wp2_with fail
          refine (cA _).mono ?_
          rintro e w4 ⟨rfl, hb⟩
          obtain ⟨U5, xt, hlow, hsz⟩ := after1 T5'.out hb
          have L4 : Hid (Below w.heap.size w w4) := H6.out.trans (hlow.mono hltw)
          have L4s : w.heap.size ≤ w4.heap.size := L4.out.size
          have hn5 : n5 < wr.heap.size := kz
          have hr4 := own_kept HR.out hlow
          have R4 := Lib.hid hr4
          have U5' := Lib.hid U5
          clear x0 x1 x2 x3 kz ka kb kc kf kg kh hb hlow T5' hbr HR H6 hr4
          obtain ⟨kz, ka, kb, kc, kf, kg, kh⟩ := U5
          go_wp2_with fail
          have cR := fun w => read_any (recsB ls) (by have := HC.out.1; omega) w
          rw [read_recs ls SH.out] at cR
          have TX := (One.stored U5'.out (.string ⟨(recsB ls).toArray⟩) (.int .i64 ((recsB ls).length : Int)) (.int .i64 room)).below (by simpa [World.setCell] using U5'.out.size) ((Below.refl (((w4.setCell ⟨n5, 0, none⟩ (.string ⟨(recsB ls).toArray⟩)).setCell ⟨n5, 1, none⟩ (.int .i64 ((recsB ls).length : Int))).setCell ⟨n5, 2, none⟩ (.int .i64 room)).heap.size _).alloc (Nat.le_refl _) (.cells #[.string ⟨(recsB ls).toArray⟩, .int .i64 ((recsB ls).length : Int), .int .i64 room] 47))
          have hX := (((R4.out.kept (grownBy_setC _ n5 0 (.string ⟨(recsB ls).toArray⟩)) (.inr (low_ne_row R4.out (by omega)).symm)).kept (grownBy_setC _ n5 1 (.int .i64 ((recsB ls).length : Int))) (.inr (low_ne_row R4.out (by omega)).symm)).kept (grownBy_setC _ n5 2 (.int .i64 room)) (.inr (low_ne_row R4.out (by omega)).symm)).alloc (.cells #[.string ⟨(recsB ls).toArray⟩, .int .i64 ((recsB ls).length : Int), .int .i64 room] 47)
          have BX := ((((L4.out.setCell (p := ⟨n5, 0, none⟩) h7 (.string ⟨(recsB ls).toArray⟩)).setCell (p := ⟨n5, 1, none⟩) h7 (.int .i64 ((recsB ls).length : Int))).setCell (p := ⟨n5, 2, none⟩) h7 (.int .i64 room)).alloc (by simpa [World.setCell] using L4s) (.cells #[.string ⟨(recsB ls).toArray⟩, .int .i64 ((recsB ls).length : Int), .int .i64 room] 47))
          clear kz ka kb kc kf kg kh U5' R4 L4 cA
          refine (cR _).mono ?_
          rintro e w7 ⟨m, rfl, om, hb⟩
          have TY := TX.below TX.size hb
          have hY := own_kept hX hb
          have BY := BX.trans (hb.mono BX.size)
          have RM := om.row
          have TH := Lib.hid TY
          have HY := Lib.hid hY
          have HB := Lib.hid BY
          clear TX hX BX hb om cR hY BY
          obtain ⟨yz, ya, yb, yc, yf, yg, yh⟩ := TY
          go_wp2_with fail
          refine (same_big m (.slice pv ls.length cv) ls ls _ RM (row_str HY.out) (by have := HLL.out; omega)).mono ?_
          rintro e w8 ⟨rfl, hb⟩
          rw [decide_eq_true rfl]
          have TZ := TH.out.below TH.out.size hb
          have hZ := own_kept HY.out hb
          have BZ := HB.out.trans (hb.mono HB.out.size)
          clear RM TH HY HB hb yz ya yb yc yf yg yh
          have TH := Lib.hid TZ
          have HZ := Lib.hid hZ
          have HB := Lib.hid BZ
          clear hZ BZ
          obtain ⟨zz, za, zb, zc, zf, zg, zh⟩ := TZ
          go_wp2_with fail
          all_goals go_roundw
          case rel => exact ⟨j + 1, ls, ls.length, by omega, by go_num, ⟨(by rw [List.take_length]; exact TH.out), HZ.out, rfl, Nat.le_refl _, SH.out, HC.out.1, HB.out, h7⟩⟩
          case measure => simp [intOf]; omega
        · by_cases k2 : kind = 2
          · subst k2
            rcases HR.out.2 with ⟨hv, hl0⟩ | ⟨g, cap', cur, hv, -, -, hcap, -, -, -⟩
            · obtain rfl : ls = [] := List.length_eq_zero_iff.1 hl0
              injection hv with e1 e2 e3
              subst e1 e3
              obtain rfl : k = 0 := by simpa using HC.out.2.1
              clear hl0 e2
              obtain ⟨F, f1, f2, f3, f4, cA⟩ := fail_torn (recsB ([] : List (List UInt8))) (recsB ((([] : List (List UInt8))).take 0)).length room n bits (right_of _ _ room HC.out.2.2 HC.out.1 hri)
              obtain ⟨j', g1, g2, g3, g4⟩ := torn ([] : List (List UInt8)) 0 HC.out.2.1 SH.out F f1 f2 (fun h => by rw [f3 h, take_recs]) f4
              have hFr : (F.length : Int) ≤ room := by have := HC.out.1; omega
              have cB := fun w => mend_any ⟨F.toArray⟩ (F.length : Int) room (by simp [ByteArray.size]; omega) w
              rw [show mendR ⟨F.toArray⟩ (F.length : Int) room = _ from mend_ok F _ room ((right_iff _ _ _).2 (right_of F F.length room (Nat.le_refl _) hFr hri)), g3] at cB
              dsimp only at cB
              rw [g4] at cB
              obtain rfl : j' = 0 := by simpa using g2
              have QL : Hid (([] : List (List UInt8)).length ≤ 300000) := Lib.hid (by simp)
              have QS : Hid (∀ t ∈ ([] : List (List UInt8)), t.length ≤ 8192) := Lib.hid (by simp)
              have QF : Hid (((recsB ([] : List (List UInt8))).length : Int) ≤ room) := Lib.hid HC.out.1
              clear f1 f2 f3 f4 g3 g4 hFr g1 g2 k0 k1
              have cC := fun w => read_any (recsB ([] : List (List UInt8))) (by have := QF.out; omega) w
              rw [read_recs ([] : List (List UInt8)) QS.out] at cC
              go_wp2_with fail
              refine (cA _).mono ?_
              rintro e w4 ⟨rfl, hb⟩
              obtain ⟨U5, xt, hlow, hsz⟩ := after1 T5'.out hb
              have L4 : Hid (Below w.heap.size w w4) := H6.out.trans (hlow.mono hltw)
              have L4s : w.heap.size ≤ w4.heap.size := L4.out.size
              have hn5 : n5 < wr.heap.size := kz
              have hr4 := own_kept HR.out hlow
              have R4 := Lib.hid hr4
              have U5' := Lib.hid U5
              clear x0 x1 x2 x3 kz ka kb kc kf kg kh hb hlow T5' hbr HR H6 hr4
              obtain ⟨kz, ka, kb, kc, kf, kg, kh⟩ := U5
              go_wp2_with fail
              clear cA
              refine (cB _).mono ?_
              rintro e w5 ⟨rfl, hb⟩
              have hb' : Below w4.heap.size w4 w5 := ((Below.refl _ _).alloc (Nat.le_refl _) _).trans (hb.mono (by simp))
              have U5 := U5'.out.below U5'.out.size hb'
              have R5 := Lib.hid (own_kept R4.out hb')
              have L5 := Lib.hid (L4.out.trans (hb'.mono L4s))
              clear cB U5' R4 L4 hb kz ka kb kc kf kg kh
              have L5s : w.heap.size ≤ w5.heap.size := L5.out.size
              have U5' := Lib.hid U5
              obtain ⟨kz, ka, kb, kc, kf, kg, kh⟩ := U5
              have hs45 : w4.heap.size ≤ w5.heap.size := hb'.size
              clear hb'
              go_wp2_with fail
              refine (cC _).mono ?_
              rintro e w6 ⟨m, rfl, om, hb⟩
              have hb' : Below w5.heap.size w5 w6 := ((Below.refl _ _).alloc (Nat.le_refl _) _).trans (hb.mono (by simp))
              have U5 := U5'.out.below U5'.out.size hb'
              have UF := (One.made w5 _ _ _ _).below (by simp) hb
              obtain ⟨nf, hn⟩ : ∃ x, x = w5.heap.size := ⟨_, rfl⟩
              have hnf : n5 < nf := by rw [hn]; exact kz
              have RM := ownsRow_mono (show n5 + 1 ≤ _ by simp; omega) om
              rw [← hn] at UF ⊢
              have R6 := own_kept R5.out hb'
              have L6 := L5.out.trans (hb'.mono L5s)
              obtain ⟨pm, cm, rfl⟩ := own_of_row RM
              have R6' := Lib.hid R6
              have RM' := Lib.hid RM
              have L6' := Lib.hid L6
              clear cC U5' R5 L5 hb om hb' kz ka kb kc kf kg kh hn R6 RM L6 L5s hs45
              have U5' := Lib.hid U5
              have UF' := Lib.hid UF
              obtain ⟨kz, ka, kb, kc, kf, kg, kh⟩ := U5
              obtain ⟨fz, fa, fb, fc, ff, fg, fh⟩ := UF
              go_wp2_with fail
              refine (same_big (.slice pm (([] : List (List UInt8))).length cm) (.slice none 0 0) ([] : List (List UInt8)) ([] : List (List UInt8)) _ (row_str RM'.out) (.inl ⟨_, _, rfl, rfl⟩) (by have := QL.out; omega)).mono ?_
              rintro e w6b ⟨rfl, hb⟩
              rw [decide_eq_true rfl]
              have U5 := U5'.out.below U5'.out.size hb
              have UF := UF'.out.below UF'.out.size hb
              have RM := Lib.hid (own_kept RM'.out hb)
              have L6 := Lib.hid (L6'.out.trans (hb.mono L6'.out.size))
              clear R6' RM' L6' U5' UF' hb kz ka kb kc kf kg kh fz fa fb fc ff fg fh
              have U5' := Lib.hid U5
              obtain ⟨kz, ka, kb, kc, kf, kg, kh⟩ := U5
              obtain ⟨fz, fa, fb, fc, ff, fg, fh⟩ := UF
              have cR := fun w => read_any (recsB ([] : List (List UInt8))) (by have := QF.out; omega) w
              rw [read_recs ([] : List (List UInt8)) QS.out] at cR
              go_wp2_with fail
              have TX := One.stored U5'.out (.string ⟨(recsB ([] : List (List UInt8))).toArray⟩) (.int .i64 ((recsB ([] : List (List UInt8))).length : Int)) (.int .i64 room)
              have hX := ((RM.out.kept (grownBy_setC _ n5 0 (.string ⟨(recsB ([] : List (List UInt8))).toArray⟩)) (.inr (low_ne_row RM.out (by omega)).symm)).kept (grownBy_setC _ n5 1 (.int .i64 ((recsB ([] : List (List UInt8))).length : Int))) (.inr (low_ne_row RM.out (by omega)).symm)).kept (grownBy_setC _ n5 2 (.int .i64 room)) (.inr (low_ne_row RM.out (by omega)).symm)
              have BX := ((L6.out.setCell (p := ⟨n5, 0, none⟩) h7 (.string ⟨(recsB ([] : List (List UInt8))).toArray⟩)).setCell (p := ⟨n5, 1, none⟩) h7 (.int .i64 ((recsB ([] : List (List UInt8))).length : Int))).setCell (p := ⟨n5, 2, none⟩) h7 (.int .i64 room)
              clear U5' RM L6 kz ka kb kc kf kg kh fz fa fb fc ff fg fh
              refine (cR _).mono ?_
              rintro e w7 ⟨m, rfl, om, hb⟩
              have TY := TX.below TX.size hb
              have hY := own_kept hX hb
              have BY := BX.trans (hb.mono BX.size)
              have RM := om.row
              have TH := Lib.hid TY
              have HY := Lib.hid hY
              have HB := Lib.hid BY
              clear TX hX BX hb om cR hY BY
              obtain ⟨yz, ya, yb, yc, yf, yg, yh⟩ := TY
              go_wp2_with fail
              refine (same_big m (.slice pm (([] : List (List UInt8))).length cm) ([] : List (List UInt8)) ([] : List (List UInt8)) _ RM (row_str HY.out) (by have := QL.out; omega)).mono ?_
              rintro e w8 ⟨rfl, hb⟩
              rw [decide_eq_true rfl]
              have TZ := TH.out.below TH.out.size hb
              have hZ := own_kept HY.out hb
              have BZ := HB.out.trans (hb.mono HB.out.size)
              clear RM TH HY HB hb yz ya yb yc yf yg yh
              have TH := Lib.hid TZ
              have HZ := Lib.hid hZ
              have HB := Lib.hid BZ
              clear hZ BZ
              obtain ⟨zz, za, zb, zc, zf, zg, zh⟩ := TZ
              go_wp2_with fail
              all_goals go_roundw
              case rel => exact ⟨j + 1, ([] : List (List UInt8)), (([] : List (List UInt8))).length, by omega, by go_num, ⟨(by rw [List.take_length]; exact TH.out), HZ.out, rfl, Nat.le_refl _, QS.out, QF.out, HB.out, h7⟩⟩
              case measure => simp [intOf]; omega
            · injection hv with e1 e2 e3
              subst e1 e3
              have hcapi : (ls.length : Int) ≤ (cv : Int) := by omega
              clear hcap e2
              obtain ⟨F, f1, f2, f3, f4, cA⟩ := fail_torn (recsB ls) (recsB ((ls).take k)).length room n bits (right_of _ _ room HC.out.2.2 HC.out.1 hri)
              obtain ⟨j', g1, g2, g3, g4⟩ := torn ls k HC.out.2.1 SH.out F f1 f2 (fun h => by rw [f3 h, take_recs]) f4
              have hFr : (F.length : Int) ≤ room := by have := HC.out.1; omega
              have cB := fun w => mend_any ⟨F.toArray⟩ (F.length : Int) room (by simp [ByteArray.size]; omega) w
              rw [show mendR ⟨F.toArray⟩ (F.length : Int) room = _ from mend_ok F _ room ((right_iff _ _ _).2 (right_of F F.length room (Nat.le_refl _) hFr hri)), g3] at cB
              dsimp only at cB
              rw [g4] at cB
              have hq : ((ls).take j').length = j' := by rw [List.length_take]; omega
              have hqq : (ls).take ((ls).take j').length = (ls).take j' := by rw [hq]
              have hqs : ∀ t ∈ (ls).take j', t.length ≤ 8192 := fun t h => SH.out t (List.mem_of_mem_take h)
              have hqf : ((recsB ((ls).take j')).length : Int) ≤ room := by have := recs_take_le (ls) j'; have := HC.out.1; omega
              clear f1 f2 f3 f4 g3 g4 hFr
              generalize hQ : (ls).take j' = q at *
              have q1 : (k : Int) ≤ (q.length : Int) := by omega
              have q2 : (q.length : Int) ≤ ((ls).length : Int) := by omega
              have hq3 : q.length ≤ 300000 := by have := HLL.out; omega
              have QL := Lib.hid hq3
              have QQ := Lib.hid hqq
              have QS := Lib.hid hqs
              have QF := Lib.hid hqf
              clear hQ hq hqq hqs hqf hq3 g1 g2 k0 k1
              have cC := fun w => read_any (recsB q) (by have := QF.out; omega) w
              rw [read_recs q QS.out] at cC
              go_wp2_with fail
              refine (cA _).mono ?_
              rintro e w4 ⟨rfl, hb⟩
              obtain ⟨U5, xt, hlow, hsz⟩ := after1 T5'.out hb
              have L4 : Hid (Below w.heap.size w w4) := H6.out.trans (hlow.mono hltw)
              have L4s : w.heap.size ≤ w4.heap.size := L4.out.size
              have hn5 : n5 < wr.heap.size := kz
              have hr4 := own_kept HR.out hlow
              have R4 := Lib.hid hr4
              have U5' := Lib.hid U5
              clear x0 x1 x2 x3 kz ka kb kc kf kg kh hb hlow T5' hbr HR H6 hr4
              obtain ⟨kz, ka, kb, kc, kf, kg, kh⟩ := U5
              go_wp2_with fail
              clear cA
              refine (cB _).mono ?_
              rintro e w5 ⟨rfl, hb⟩
              have hb' : Below w4.heap.size w4 w5 := ((Below.refl _ _).alloc (Nat.le_refl _) _).trans (hb.mono (by simp))
              have U5 := U5'.out.below U5'.out.size hb'
              have R5 := Lib.hid (own_kept R4.out hb')
              have L5 := Lib.hid (L4.out.trans (hb'.mono L4s))
              clear cB U5' R4 L4 hb kz ka kb kc kf kg kh
              have L5s : w.heap.size ≤ w5.heap.size := L5.out.size
              have U5' := Lib.hid U5
              obtain ⟨kz, ka, kb, kc, kf, kg, kh⟩ := U5
              have hs45 : w4.heap.size ≤ w5.heap.size := hb'.size
              clear hb'
              go_wp2_with fail
              refine (cC _).mono ?_
              rintro e w6 ⟨m, rfl, om, hb⟩
              have hb' : Below w5.heap.size w5 w6 := ((Below.refl _ _).alloc (Nat.le_refl _) _).trans (hb.mono (by simp))
              have U5 := U5'.out.below U5'.out.size hb'
              have UF := (One.made w5 _ _ _ _).below (by simp) hb
              obtain ⟨nf, hn⟩ : ∃ x, x = w5.heap.size := ⟨_, rfl⟩
              have hnf : n5 < nf := by rw [hn]; exact kz
              have RM := ownsRow_mono (show n5 + 1 ≤ _ by simp; omega) om
              rw [← hn] at UF ⊢
              have R6 := own_kept R5.out hb'
              have L6 := L5.out.trans (hb'.mono L5s)
              obtain ⟨pm, cm, rfl⟩ := own_of_row RM
              have R6' := Lib.hid R6
              have RM' := Lib.hid RM
              have L6' := Lib.hid L6
              clear cC U5' R5 L5 hb om hb' kz ka kb kc kf kg kh hn R6 RM L6 L5s hs45
              have U5' := Lib.hid U5
              have UF' := Lib.hid UF
              obtain ⟨kz, ka, kb, kc, kf, kg, kh⟩ := U5
              obtain ⟨fz, fa, fb, fc, ff, fg, fh⟩ := UF
              go_wp2_with fail
              refine (same_big (.slice pm (q).length cm) (.slice (some ⟨g, 0, none⟩) q.length cv) q q _ (row_str RM'.out) (by have := row_take q.length (by omega) R6'.out; rwa [QQ.out] at this) (by have := QL.out; omega)).mono ?_
              rintro e w6b ⟨rfl, hb⟩
              rw [decide_eq_true rfl]
              have U5 := U5'.out.below U5'.out.size hb
              have UF := UF'.out.below UF'.out.size hb
              have RM := Lib.hid (own_kept RM'.out hb)
              have L6 := Lib.hid (L6'.out.trans (hb.mono L6'.out.size))
              clear R6' RM' L6' U5' UF' hb kz ka kb kc kf kg kh fz fa fb fc ff fg fh
              have U5' := Lib.hid U5
              obtain ⟨kz, ka, kb, kc, kf, kg, kh⟩ := U5
              obtain ⟨fz, fa, fb, fc, ff, fg, fh⟩ := UF
              have cR := fun w => read_any (recsB q) (by have := QF.out; omega) w
              rw [read_recs q QS.out] at cR
              go_wp2_with fail
              have TX := One.stored U5'.out (.string ⟨(recsB q).toArray⟩) (.int .i64 ((recsB q).length : Int)) (.int .i64 room)
              have hX := ((RM.out.kept (grownBy_setC _ n5 0 (.string ⟨(recsB q).toArray⟩)) (.inr (low_ne_row RM.out (by omega)).symm)).kept (grownBy_setC _ n5 1 (.int .i64 ((recsB q).length : Int))) (.inr (low_ne_row RM.out (by omega)).symm)).kept (grownBy_setC _ n5 2 (.int .i64 room)) (.inr (low_ne_row RM.out (by omega)).symm)
              have BX := ((L6.out.setCell (p := ⟨n5, 0, none⟩) h7 (.string ⟨(recsB q).toArray⟩)).setCell (p := ⟨n5, 1, none⟩) h7 (.int .i64 ((recsB q).length : Int))).setCell (p := ⟨n5, 2, none⟩) h7 (.int .i64 room)
              clear U5' RM L6 kz ka kb kc kf kg kh fz fa fb fc ff fg fh
              refine (cR _).mono ?_
              rintro e w7 ⟨m, rfl, om, hb⟩
              have TY := TX.below TX.size hb
              have hY := own_kept hX hb
              have BY := BX.trans (hb.mono BX.size)
              have RM := om.row
              have TH := Lib.hid TY
              have HY := Lib.hid hY
              have HB := Lib.hid BY
              clear TX hX BX hb om cR hY BY
              obtain ⟨yz, ya, yb, yc, yf, yg, yh⟩ := TY
              go_wp2_with fail
              refine (same_big m (.slice pm (q).length cm) q q _ RM (row_str HY.out) (by have := QL.out; omega)).mono ?_
              rintro e w8 ⟨rfl, hb⟩
              rw [decide_eq_true rfl]
              have TZ := TH.out.below TH.out.size hb
              have hZ := own_kept HY.out hb
              have BZ := HB.out.trans (hb.mono HB.out.size)
              clear RM TH HY HB hb yz ya yb yc yf yg yh
              have TH := Lib.hid TZ
              have HZ := Lib.hid hZ
              have HB := Lib.hid BZ
              clear hZ BZ
              obtain ⟨zz, za, zb, zc, zf, zg, zh⟩ := TZ
              go_wp2_with fail
              all_goals go_roundw
              case rel => exact ⟨j + 1, q, (q).length, by omega, by go_num, ⟨(by rw [List.take_length]; exact TH.out), HZ.out, rfl, Nat.le_refl _, QS.out, QF.out, HB.out, h7⟩⟩
              case measure => simp [intOf]; omega
          · skip
            have e0 : (kind == 0) = false := by simpa using k0
            have e1 : (kind == 1) = false := by simpa using k1
            have e2 : (kind == 2) = false := by simpa using k2
            have cR := fun w => read_any (recsB ls) (by have := HC.out.1; omega) w
            rw [read_recs ls SH.out] at cR
            have TX := T5'.out.below T5'.out.size ((Below.refl wr.heap.size wr).alloc (Nat.le_refl _) (.cells #[.int .i64 kind, .string ⟨t.toArray⟩, .int .i64 n, .int .u8 (bits.toNat : Int)] 55))
            have hX := HR.out.alloc (.cells #[.int .i64 kind, .string ⟨t.toArray⟩, .int .i64 n, .int .u8 (bits.toNat : Int)] 55)
            have BX := H6.out.alloc hltw (.cells #[.int .i64 kind, .string ⟨t.toArray⟩, .int .i64 n, .int .u8 (bits.toNat : Int)] 55)
            go_wp2_with fail
            clear kz ka kb kc kf kg kh x0 x1 x2 x3
            refine (cR _).mono ?_
            rintro e w7 ⟨m, rfl, om, hb⟩
            have TY := TX.below TX.size hb
            have hY := own_kept hX hb
            have BY := BX.trans (hb.mono BX.size)
            have RM := om.row
            have TH := Lib.hid TY
            have HY := Lib.hid hY
            have HB := Lib.hid BY
            clear TX hX BX hb om cR hY BY
            obtain ⟨yz, ya, yb, yc, yf, yg, yh⟩ := TY
            go_wp2_with fail
            refine (same_big m (.slice pv ls.length cv) ls ls _ RM (row_str HY.out) (by have := HLL.out; omega)).mono ?_
            rintro e w8 ⟨rfl, hb⟩
            rw [decide_eq_true rfl]
            have TZ := TH.out.below TH.out.size hb
            have hZ := own_kept HY.out hb
            have BZ := HB.out.trans (hb.mono HB.out.size)
            clear RM TH HY HB hb yz ya yb yc yf yg yh
            have TH := Lib.hid TZ
            have HZ := Lib.hid hZ
            have HB := Lib.hid BZ
            clear hZ BZ
            obtain ⟨zz, za, zb, zc, zf, zg, zh⟩ := TZ
            go_wp2_with fail
            all_goals go_roundw
            case rel => exact ⟨j + 1, ls, k, by omega, by go_num, ⟨TH.out, HZ.out, rfl, HC.out.2.1, SH.out, HC.out.1, HB.out, h7⟩⟩
            case measure => simp [intOf]; omega
    · clear hA
      obtain ⟨h1, hrow, rfl, -, -, -, h6, h7⟩ := hK
      clear h1
      go_wp2_with fail
      go_ret
      exact ⟨rfl, h6⟩

theorem keeps_long (room : Int) (h0 : 0 ≤ room) (hri : room ≤ 1048576) (ao : Option Addr) (n cap : Nat) (hn : 60 < n) (w : World) :
    Calls Try.prog 10 #[.int .i64 room, .slice ao n cap] w fun e w' => e = .returned (.bool true) ∧ Below w.heap.size w w' := by
  have hd : decide ((60 : Int) < (n : Int)) = true := by simp; omega
  go_enter Try.func10, Try.ntmps10
  go_wp2_with fail
  refine (jrn_lives _).mono ?_
  rintro e w1 ⟨rfl, B⟩
  go_wp2_with fail
  refine (new_ok room ⟨h0, hri⟩ _).mono ?_
  rintro e w2 ⟨rfl, hb⟩
  have B2 := (B.trans (hb.mono B.size))
  go_wp2_with fail
  go_ret
  exact ⟨rfl, B2.alloc B2.size _⟩

theorem keeps_range (room : Int) (hr : ¬ (0 ≤ room ∧ room ≤ 1048576)) (ao : Option Addr) (n cap : Nat) (w : World) :
    Calls Try.prog 10 #[.int .i64 room, .slice ao n cap] w fun e w' => e = .returned (.bool true) ∧ Below w.heap.size w w' := by
  have hr' : room < 0 ∨ (¬ room < 0 ∧ 1048576 < room) := by omega
  have H := Lib.hid hr'
  clear hr hr'
  go_enter Try.func10, Try.ntmps10
  go_wp2_with fail
  refine (jrn_lives _).mono ?_
  rintro e w1 ⟨rfl, B⟩
  go_wp2_with fail
  refine (new_bad room (by have := H.out; omega) _).mono ?_
  rintro e w2 ⟨rfl, hb⟩
  have B2 := (B.trans (hb.mono B.size))
  go_wp2_with fail
  go_ret
  exact ⟨rfl, B2.alloc B2.size _⟩

theorem keeps_empty (room : Int) (h0 : 0 ≤ room) (hri : room ≤ 1048576) (ao : Option Addr) (cap : Nat) (w : World) :
    Calls Try.prog 10 #[.int .i64 room, .slice ao 0 cap] w fun e w' => e = .returned (.bool true) ∧ Below w.heap.size w w' := by
  go_enter Try.func10, Try.ntmps10
  go_wp2_with fail
  refine (jrn_lives _).mono ?_
  rintro e w1 ⟨rfl, B⟩
  go_wp2_with fail
  refine (new_ok room ⟨h0, hri⟩ _).mono ?_
  rintro e w2 ⟨rfl, hb⟩
  have B2 := (B.trans (hb.mono B.size))
  go_wp2_with fail
  refine wp_loop_rounds 1 ?_
  rw [rounds_succ]
  go_wp2_with fail
  go_ret
  exact ⟨rfl, B2.alloc B2.size _⟩
end Jrn
end Go.Proofs.Ytjfibmlpjcncmaa
