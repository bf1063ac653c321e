/- The walk of the law DiskKept, by the contracts of what it calls. -/
import Derived.Test.YtobdllfddmeicaaDiskFailsWalk
import Derived.Lib.Strings
import Derived.BigQuiet
namespace Go.Proofs.Ytobdllfddmeicaa
open Go.RowKit
set_option linter.unusedVariables false
namespace Disk

/-- a call that the law is handed -/
structure ActD where
  kind : Int
  text : ByteArray
  n : Int
  bits : UInt8

/-- the calls lie in a block that came in -/
structure Acts (w : World) (b off : Nat) (L : List ActD) : Prop where
  lt : L ≠ [] → b < w.heap.size
  c0 : ∀ (i : Nat) (a : ActD), L[i]? = some a → w.cell? ⟨b, off + i * 4, none⟩ = some (.int .i64 a.kind)
  c1 : ∀ (i : Nat) (a : ActD), L[i]? = some a → w.cell? ⟨b, off + i * 4 + 1, none⟩ = some (.string a.text)
  c2 : ∀ (i : Nat) (a : ActD), L[i]? = some a → w.cell? ⟨b, off + i * 4 + 2, none⟩ = some (.int .i64 a.n)
  c3 : ∀ (i : Nat) (a : ActD), L[i]? = some a → w.cell? ⟨b, off + i * 4 + 3, none⟩ = some (.int .u8 (a.bits.toNat : Int))

theorem One.far {n m : Nat} {w : World} {a b c : Value} (h : One n w a b c) (hne : m ≠ n) (i : Nat) (u : Value) : One n (w.setCell ⟨m, i, none⟩ u) a b c := by
  have k : ∀ j, (w.setCell ⟨m, i, none⟩ u).cell? ⟨n, j, none⟩ = w.cell? ⟨n, j, none⟩ := fun j => World.cell?_setCell_other _ _ _ _ (by intro e; injection e with e1; exact hne e1)
  exact ⟨by simpa [World.setCell] using h.size, (k 0).trans h.a0, (k 1).trans h.a1, (k 2).trans h.a2, by rw [World.frozen?_setCell]; exact h.f0, by rw [World.frozen?_setCell]; exact h.f1, by rw [World.frozen?_setCell]; exact h.f2⟩

theorem One.drewN {n : Nat} {w : World} {a b c : Value} (h : One n w a b c) (k : Nat) : One n (w.drewN k) a b c := ⟨h.size, h.a0, h.a1, h.a2, h.f0, h.f1, h.f2⟩

/-- behind a call of a round: the disk's block, the new disk's, and the call's text -/
theorem after {wr w4 : World} {n5 : Nat} {a b c d e f k0 k1 k2 k3 : Value} {t4 t3 : TypeId} (T : One n5 wr a b c)
    (hb : Below ((wr.alloc (.cells #[k0, k1, k2, k3] t4)).alloc (.cells #[d, e, f] t3)).heap.size ((wr.alloc (.cells #[k0, k1, k2, k3] t4)).alloc (.cells #[d, e, f] t3)) w4) :
    One n5 w4 a b c ∧ One (wr.heap.size + 1) w4 d e f ∧ w4.cell? ⟨wr.heap.size, 1, none⟩ = some k1 ∧ Below wr.heap.size wr w4 ∧ wr.heap.size + 1 < w4.heap.size := by
  have h1 : Below wr.heap.size wr ((wr.alloc (.cells #[k0, k1, k2, k3] t4)).alloc (.cells #[d, e, f] t3)) := (((Below.refl _ _).alloc (Nat.le_refl _) _).alloc (by simp) _)
  have h2 : Below wr.heap.size wr w4 := h1.trans (hb.mono (by simp; omega))
  have h3 := (One.made (wr.alloc (.cells #[k0, k1, k2, k3] t4)) d e f t3).below (by simp) hb
  rw [World.size_alloc] at h3
  refine ⟨T.below T.size h2, h3, ?_, h2, h3.size⟩
  rw [hb.cell (p := ⟨wr.heap.size, 1, none⟩) (by simp; omega), World.cell?_alloc_lt _ _ _ (by simp)]
  exact World.cell?_alloc_mark wr #[k0, k1, k2, k3] t4 (0, 0) 1

/-- what holds at each round's head: the disk's cells, what is kept, and all -/
structure Kept (room : Int) (n5 : Nat) (w wr : World) (k a : Value) (A K : ByteArray) : Prop where
  one : One n5 wr (.string A) (.int .i64 (K.size : Int)) (.int .i64 room)
  all : a = .string A
  kept : k = .string K
  le : K.size ≤ A.size
  pre : ((A.extract 0 K.size).toList == K.toList) = true
  fits : (A.size : Int) ≤ room
  low : Below w.heap.size w wr
  new : w.heap.size ≤ n5

theorem pre_append (A K t : ByteArray) (hle : K.size ≤ A.size) (h : ((A.extract 0 K.size).toList == K.toList) = true) : (((A ++ t).extract 0 K.size).toList == K.toList) = true := by
  rw [beq_iff_eq, Lib.extract_toList] at h ⊢
  rw [← h]
  simp [ByteArray.data_append]
  rw [List.take_append_of_le_length (by simpa using hle)]

theorem pre_all (A : ByteArray) : ((A.extract 0 A.size).toList == A.toList) = true := by
  rw [beq_iff_eq, Lib.extract_toList, ByteArray.toList_eq, List.drop_zero, Nat.sub_zero]
  exact List.take_of_length_le (by simp)

theorem pre_take (A : ByteArray) (p : Nat) (h : p ≤ A.size) (F : ByteArray) (hF : F.data.toList = A.data.toList.take p) : F.size = p := by
  have : F.size = F.data.toList.length := by simp
  rw [this, hF]; simp; omega
theorem size_last (A : ByteArray) (q : Nat) (b : UInt8) (h : q ≤ A.size) (F : ByteArray) (hF : F.data.toList = lastXor (A.data.toList.take q) b) : F.size = q := by
  have : F.size = F.data.toList.length := by simp
  rw [this, hF, lastXor_length]; simp; omega
theorem last_head (T : ByteArray) (q : Nat) (b : UInt8) (h : q ≤ T.size) (F : ByteArray) (hF : F.data.toList = lastXor (T.data.toList.take q) b) : ((F.extract 0 (q - 1)).toList == (T.extract 0 (q - 1)).toList) = true := by
  have hl : (T.data.toList.take q).length = q := by simp; omega
  rw [beq_iff_eq, Lib.extract_toList, Lib.extract_toList, hF]
  unfold lastXor
  rw [hl]
  simp only [List.drop_zero, Nat.sub_zero]
  rw [List.take_set_of_le (by omega), List.take_take]
  congr 1
  omega

theorem fail_kept (A K : ByteArray) (room n : Int) (b : UInt8) (h : Right A (K.size : Int) room) : ∃ F : ByteArray, K.size ≤ F.size ∧ F.size ≤ A.size ∧ (K.size < F.size → ((F.extract 0 (F.size - 1)).toList == (A.extract 0 (F.size - 1)).toList) = true) ∧
    ∀ w, Calls Try.prog 30 #[.agg #[.string A, .int .i64 (K.size : Int), .int .i64 room], .int .i64 n, .int .u8 (b.toNat : Int)] w fun e w' => e = .returned (.tuple #[.agg #[.string F, .int .i64 (F.size : Int), .int .i64 room], .int .i64 0]) ∧ Below w.heap.size w w' := by
  have hst : (stays A K.size n : Int) = min (max n 0) ((A.size : Int) - K.size) := by have := h.2.1; unfold stays; omega
  have h2 := h.2.1
  by_cases hs : stays A K.size n = 0
  · have hF := pre_take A K.size (by omega) ⟨(A.data.toList.take K.size).toArray⟩ rfl
    refine ⟨⟨(A.data.toList.take K.size).toArray⟩, by omega, by omega, by intro hh; omega, fun w => ?_⟩
    refine (fail_none A K.size room n b h w (fun W => by rw [run_max_int2]; congr 2; split <;> omega) (fun W => by rw [run_min_int2]; congr 2; split <;> omega)).mono fun e w' hh => ⟨?_, hh.2⟩
    rw [hh.1, hF]
  · generalize stays A K.size n = q at *
    have hF := size_last A (K.size + q) b (by omega) ⟨(lastXor (A.data.toList.take (K.size + q)) b).toArray⟩ rfl
    refine ⟨⟨(lastXor (A.data.toList.take (K.size + q)) b).toArray⟩, by omega, by omega, ?_, fun w => ?_⟩
    · intro _
      rw [hF]
      exact last_head A (K.size + q) b (by omega) _ rfl
    · refine (fail_some A K.size q room n b h (by omega) (by omega) w (fun W => by rw [run_max_int2]; congr 2; split <;> omega) (fun W => by rw [run_min_int2]; congr 2; split <;> omega)).mono fun e w' hh => ⟨?_, hh.2⟩
      rw [hh.1, hF]
      have : ((K.size + q : Nat) : Int) = (K.size : Int) + (q : Int) := by omega
      rw [this]

set_option maxRecDepth 100000 in
set_option maxHeartbeats 16000000 in
theorem kept_walk (room : Int) (h0 : 0 ≤ room) (hri : room ≤ 1048576) (b off cap : Nat) (L : List ActD) (hL : L.length ≤ 100) (w : World) (hA : Acts w b off L) :
    Calls Try.prog 10 #[.int .i64 room, .slice (some ⟨b, off, none⟩) L.length cap] w fun e w' => e = .returned (.bool true) ∧ Below w.heap.size w w' := by
  have hLi : (L.length : Int) ≤ 100 := by omega
  have hd100 : decide ((100 : Int) < (L.length : Int)) = false := by simp; omega
  go_enter Try.func10, Try.ntmps10
  go_wp2_with fail
  refine (lives_any _).mono ?_
  rintro e w1 ⟨rfl, B⟩
  go_wp2_with fail
  refine (new_ok room ⟨by omega, hri⟩ _).mono ?_
  rintro e w2 ⟨rfl, hb⟩
  have T2 := One.made w2 (.string ⟨#[]⟩) (.int .i64 0) (.int .i64 room) 32
  have B2 : Below w.heap.size w (w2.alloc (.cells #[.string ⟨#[]⟩, .int .i64 0, .int .i64 room] 32)) := (B.trans (hb.mono B.size)).alloc (by have := B.size; have := hb.size; omega) _
  have hz2 : w.heap.size ≤ w2.heap.size := by have := B.size; have := hb.size; omega
  clear hb B
  go_wp2_with fail
  obtain ⟨n5, hn⟩ : ∃ x, x = w2.heap.size := ⟨_, rfl⟩
  rw [← hn] at T2 ⊢
  have hz5 : w.heap.size ≤ n5 := by omega
  clear hn hz2
  generalize w2.alloc (.cells #[.string ⟨#[]⟩, .int .i64 0, .int .i64 room] 32) = w3 at *
  go_loopw [7, 8, 37] (fun k a i wr => ∃ (j : Nat) (A K : ByteArray), j ≤ L.length ∧ i = .int .i64 (j : Int) ∧ Kept room n5 w wr k a A K) (fun _ _ i _ => L.length - (intOf i).toNat)
  case atStart => exact ⟨0, ⟨#[]⟩, ⟨#[]⟩, by omega, rfl, ⟨T2, rfl, rfl, Nat.le_refl _, pre_all _, h0, B2, hz5⟩⟩
  case round =>
    obtain ⟨j, A, K, hj, rfl, hK⟩ := hrel
    clear T2 B2
    by_cases hlt : j < L.length
    · obtain ⟨x, hx⟩ : ∃ x, L[j]? = some x := ⟨_, List.getElem?_eq_getElem hlt⟩
      have hbw : b < w.heap.size := hA.lt (by intro h; rw [h] at hx; simp at hx)
      have x0 := (hK.low.cell (p := ⟨b, off + j * 4, none⟩) hbw).trans (hA.c0 j x hx)
      have x1 := (hK.low.cell (p := ⟨b, off + j * 4 + 1, none⟩) hbw).trans (hA.c1 j x hx)
      have x2 := (hK.low.cell (p := ⟨b, off + j * 4 + 2, none⟩) hbw).trans (hA.c2 j x hx)
      have x3 := (hK.low.cell (p := ⟨b, off + j * 4 + 3, none⟩) hbw).trans (hA.c3 j x hx)
      have hltw := hK.low.size
      clear hA hx
      obtain ⟨kind, text, n, bits⟩ := x
      dsimp only at x0 x1 x2 x3
      obtain ⟨T5, rfl, rfl, h4, hpre, h5, h6, h7⟩ := hK
      have T5' := Lib.hid T5
      have H6 := Lib.hid h6
      clear h6
      have hR : Hid (Right A (K.size : Int) room) := ⟨by omega, by omega, h5, hri⟩
      obtain ⟨kz, ka, kb, kc, kf, kg, kh⟩ := T5
      have hbr : b < wr.heap.size := by omega
      by_cases k0 : kind = 0
      · subst k0
        by_cases hl : (text.size : Int) ≤ room - (A.size : Int)
        · skip
          have hs : (A ++ text).size = A.size + text.size := ByteArray.size_append' A text
          have hs1 : ((A ++ text).size : Int) ≤ room := by omega
          have hs2 : K.size ≤ (A ++ text).size := by omega
          have hs3 : (A.size : Int) + (text.size : Int) ≤ 9223372036854775807 := by omega
          clear hs
          have pa := pre_append A K text h4 hpre
          have PRE := Lib.hid pa
          go_wp2_with fail
          refine (write_ok A (K.size : Int) room text hR.out hl _).mono ?_
          rintro e w4 ⟨rfl, hb⟩
          have AF := after T5'.out hb
          obtain ⟨U5, U11, xt, hlow, hsz⟩ := AF
          have L4 : Hid (Below w.heap.size w w4) := H6.out.trans (hlow.mono hltw)
          have L4s : w.heap.size ≤ w4.heap.size := L4.out.size
          have hn5 : n5 < wr.heap.size := kz
          have U5' := Lib.hid U5
          clear x0 x1 x2 x3 kz ka kb kc kf kg kh hb hlow T5' hbr
          obtain ⟨kz, ka, kb, kc, kf, kg, kh⟩ := U5
          obtain ⟨lz, la, lb, lc, lf, lg, lh⟩ := U11
          go_wp2_with fail
          all_goals go_roundw
          case rel => exact ⟨j + 1, A ++ text, K, by omega, by go_num, ⟨One.stored (((U5'.out.far (by omega) _ _).far (by omega) _ _).far (by omega) _ _) _ _ _, rfl, rfl, by omega, PRE.out, by omega, Below.setCell (Below.setCell (Below.setCell (((L4.out.setCell (by simp; omega) _).setCell (by simp; omega) _).setCell (by simp; omega) _) h7 _) h7 _) h7 _, h7⟩⟩
          case measure => simp [intOf]; omega
        · skip
          have PRE := Lib.hid hpre
          go_wp2_with fail
          refine (write_full A (K.size : Int) room text hR.out (by omega) _).mono ?_
          rintro e w4 ⟨rfl, hb⟩
          have AF := after T5'.out hb
          obtain ⟨U5, U11, xt, hlow, hsz⟩ := AF
          have L4 : Hid (Below w.heap.size w w4) := H6.out.trans (hlow.mono hltw)
          have L4s : w.heap.size ≤ w4.heap.size := L4.out.size
          have hn5 : n5 < wr.heap.size := kz
          have U5' := Lib.hid U5
          clear x0 x1 x2 x3 kz ka kb kc kf kg kh hb hlow T5' hbr
          obtain ⟨kz, ka, kb, kc, kf, kg, kh⟩ := U5
          obtain ⟨lz, la, lb, lc, lf, lg, lh⟩ := U11
          go_wp2_with fail
          all_goals go_roundw
          case rel => exact ⟨j + 1, A, K, by omega, by go_num, ⟨One.stored (((U5'.out.far (by omega) _ _).far (by omega) _ _).far (by omega) _ _) _ _ _, rfl, rfl, by omega, PRE.out, by omega, Below.setCell (Below.setCell (Below.setCell (((L4.out.setCell (by simp; omega) _).setCell (by simp; omega) _).setCell (by simp; omega) _) h7 _) h7 _) h7 _, h7⟩⟩
          case measure => simp [intOf]; omega
      · by_cases k1 : kind = 1
        · subst k1
          clear k0
          have pa := pre_all A
          have PRE := Lib.hid pa
          go_wp2_with fail
          refine (sync_ok A (K.size : Int) room hR.out _).mono ?_
          rintro e w4 ⟨rfl, hb⟩
          have AF := after T5'.out hb
          obtain ⟨U5, U11, xt, hlow, hsz⟩ := AF
          have L4 : Hid (Below w.heap.size w w4) := H6.out.trans (hlow.mono hltw)
          have L4s : w.heap.size ≤ w4.heap.size := L4.out.size
          have hn5 : n5 < wr.heap.size := kz
          have U5' := Lib.hid U5
          clear x0 x1 x2 x3 kz ka kb kc kf kg kh hb hlow T5' hbr
          obtain ⟨kz, ka, kb, kc, kf, kg, kh⟩ := U5
          obtain ⟨lz, la, lb, lc, lf, lg, lh⟩ := U11
          go_wp2_with fail
          all_goals go_roundw
          case rel => exact ⟨j + 1, A, A, by omega, by go_num, ⟨One.stored (((U5'.out.far (by omega) _ _).far (by omega) _ _).far (by omega) _ _) _ _ _, rfl, rfl, by omega, PRE.out, by omega, Below.setCell (Below.setCell (Below.setCell (((L4.out.setCell (by simp; omega) _).setCell (by simp; omega) _).setCell (by simp; omega) _) h7 _) h7 _) h7 _, h7⟩⟩
          case measure => simp [intOf]; omega
        · by_cases k2 : kind = 2
          · subst k2
            clear k0 k1
            obtain ⟨F, f1, f2, f3, hcall⟩ := fail_kept A K room n bits hR.out
            have pa := pre_all F
            have f1i : (K.size : Int) ≤ (F.size : Int) := by omega
            have f2i : (F.size : Int) ≤ (A.size : Int) := by omega
            have HC := Lib.hid hcall
            clear hcall
            by_cases hgt : K.size < F.size
            · skip
              have hE := f3 hgt
              have g1 : (1 : Int) ≤ (F.size : Int) := by omega
              have g2 : (F.size : Int) - 1 ≤ (F.size : Int) := by omega
              have g3 : (F.size : Int) - 1 ≤ (A.size : Int) := by omega
              have g4 : (K.size : Int) < (F.size : Int) := by omega
              have d1 : decide (F.size < K.size) = false := by simp; omega
              have d2 : decide (A.size < F.size) = false := by simp; omega
              have d3 : decide (K.size < F.size) = true := by simp; omega
              clear f3
              have PRE := Lib.hid pa
              go_wp2_with fail
              refine (HC.out _).mono ?_
              rintro e w4 ⟨rfl, hb⟩
              have AF := after T5'.out hb
              obtain ⟨U5, U11, xt, hlow, hsz⟩ := AF
              have L4 : Hid (Below w.heap.size w w4) := H6.out.trans (hlow.mono hltw)
              have L4s : w.heap.size ≤ w4.heap.size := L4.out.size
              have hn5 : n5 < wr.heap.size := kz
              have U5' := Lib.hid U5
              clear x0 x1 x2 x3 kz ka kb kc kf kg kh hb hlow T5' hbr
              obtain ⟨kz, ka, kb, kc, kf, kg, kh⟩ := U5
              obtain ⟨lz, la, lb, lc, lf, lg, lh⟩ := U11
              go_wp2_with fail
              go_quiet (fail)
              go_wp2_with fail
              go_quiet (fail)
              go_wp2_with fail
              all_goals go_roundw
              case rel => exact ⟨j + 1, F, F, by omega, by go_num, ⟨One.stored (One.drewN (((U5'.out.far (by omega) _ _).far (by omega) _ _).far (by omega) _ _) _) _ _ _, rfl, rfl, by omega, PRE.out, by omega, Below.setCell (Below.setCell (Below.setCell (below_drewN (((L4.out.setCell (by simp; omega) _).setCell (by simp; omega) _).setCell (by simp; omega) _) _) h7 _) h7 _) h7 _, h7⟩⟩
              case measure => simp [intOf]; omega
            · skip
              have g4 : (F.size : Int) ≤ (K.size : Int) := by omega
              have d1 : decide (F.size < K.size) = false := by simp; omega
              have d2 : decide (A.size < F.size) = false := by simp; omega
              have d3 : decide (K.size < F.size) = false := by simp; omega
              clear f3
              have PRE := Lib.hid pa
              go_wp2_with fail
              refine (HC.out _).mono ?_
              rintro e w4 ⟨rfl, hb⟩
              have AF := after T5'.out hb
              obtain ⟨U5, U11, xt, hlow, hsz⟩ := AF
              have L4 : Hid (Below w.heap.size w w4) := H6.out.trans (hlow.mono hltw)
              have L4s : w.heap.size ≤ w4.heap.size := L4.out.size
              have hn5 : n5 < wr.heap.size := kz
              have U5' := Lib.hid U5
              clear x0 x1 x2 x3 kz ka kb kc kf kg kh hb hlow T5' hbr
              obtain ⟨kz, ka, kb, kc, kf, kg, kh⟩ := U5
              obtain ⟨lz, la, lb, lc, lf, lg, lh⟩ := U11
              go_wp2_with fail
              go_quiet (fail)
              go_wp2_with fail
              go_quiet (fail)
              go_wp2_with fail
              all_goals go_roundw
              case rel => exact ⟨j + 1, F, F, by omega, by go_num, ⟨One.stored (One.drewN (((U5'.out.far (by omega) _ _).far (by omega) _ _).far (by omega) _ _) _) _ _ _, rfl, rfl, by omega, PRE.out, by omega, Below.setCell (Below.setCell (Below.setCell (below_drewN (((L4.out.setCell (by simp; omega) _).setCell (by simp; omega) _).setCell (by simp; omega) _) _) h7 _) h7 _) h7 _, h7⟩⟩
              case measure => simp [intOf]; omega
          · by_cases k3 : kind = 3
            · subst k3
              clear k0 k1 k2
              by_cases hl : (text.size : Int) ≤ room
              · skip
                have pa := pre_all text
                have PRE := Lib.hid pa
                go_wp2_with fail
                refine (swap_ok A (K.size : Int) room text hR.out hl _).mono ?_
                rintro e w4 ⟨rfl, hb⟩
                have AF := after T5'.out hb
                obtain ⟨U5, U11, xt, hlow, hsz⟩ := AF
                have L4 : Hid (Below w.heap.size w w4) := H6.out.trans (hlow.mono hltw)
                have L4s : w.heap.size ≤ w4.heap.size := L4.out.size
                have hn5 : n5 < wr.heap.size := kz
                have U5' := Lib.hid U5
                clear x0 x1 x2 x3 kz ka kb kc kf kg kh hb hlow T5' hbr
                obtain ⟨kz, ka, kb, kc, kf, kg, kh⟩ := U5
                obtain ⟨lz, la, lb, lc, lf, lg, lh⟩ := U11
                go_wp2_with fail
                go_quiet (fail)
                go_wp2_with fail
                all_goals go_roundw
                case rel => exact ⟨j + 1, text, text, by omega, by go_num, ⟨One.stored (One.drewN (((U5'.out.far (by omega) _ _).far (by omega) _ _).far (by omega) _ _) _) _ _ _, rfl, rfl, by omega, PRE.out, by omega, Below.setCell (Below.setCell (Below.setCell (below_drewN (((L4.out.setCell (by simp; omega) _).setCell (by simp; omega) _).setCell (by simp; omega) _) _) h7 _) h7 _) h7 _, h7⟩⟩
                case measure => simp [intOf]; omega
              · skip
                have PRE := Lib.hid hpre
                go_wp2_with fail
                refine (swap_full A (K.size : Int) room text hR.out (by omega) _).mono ?_
                rintro e w4 ⟨rfl, hb⟩
                have AF := after T5'.out hb
                obtain ⟨U5, U11, xt, hlow, hsz⟩ := AF
                have L4 : Hid (Below w.heap.size w w4) := H6.out.trans (hlow.mono hltw)
                have L4s : w.heap.size ≤ w4.heap.size := L4.out.size
                have hn5 : n5 < wr.heap.size := kz
                have U5' := Lib.hid U5
                clear x0 x1 x2 x3 kz ka kb kc kf kg kh hb hlow T5' hbr
                obtain ⟨kz, ka, kb, kc, kf, kg, kh⟩ := U5
                obtain ⟨lz, la, lb, lc, lf, lg, lh⟩ := U11
                go_wp2_with fail
                all_goals go_roundw
                case rel => exact ⟨j + 1, A, K, by omega, by go_num, ⟨One.stored (((U5'.out.far (by omega) _ _).far (by omega) _ _).far (by omega) _ _) _ _ _, rfl, rfl, by omega, PRE.out, by omega, Below.setCell (Below.setCell (Below.setCell (((L4.out.setCell (by simp; omega) _).setCell (by simp; omega) _).setCell (by simp; omega) _) h7 _) h7 _) h7 _, h7⟩⟩
                case measure => simp [intOf]; omega
            · skip
              have L4 := H6
              have U5' := T5'
              have PRE := Lib.hid hpre
              have e0 : (kind == 0) = false := by simpa using k0
              have e1 : (kind == 1) = false := by simpa using k1
              have e2 : (kind == 2) = false := by simpa using k2
              have e3 : (kind == 3) = false := by simpa using k3
              go_wp2_with fail
              all_goals go_roundw
              case rel => exact ⟨j + 1, A, K, by omega, by go_num, ⟨(((U5'.out.stored _ _ _).below (by simpa [World.setCell] using kz) ((Below.refl _ _).alloc (Nat.le_refl _) _)).below (by simp [World.setCell]; omega) ((Below.refl _ _).alloc (Nat.le_refl _) _)), rfl, rfl, by omega, PRE.out, by omega, (((((L4.out.setCell h7 _).setCell h7 _).setCell h7 _).alloc (by simp [World.setCell]; omega) _).alloc (by simp [World.setCell]; omega) _), h7⟩⟩
              case measure => simp [intOf]; omega
    · clear hA
      obtain ⟨h1, rfl, rfl, h4, hpre, h5, h6, h7⟩ := hK
      clear h1
      go_wp2_with fail
      go_ret
      exact ⟨rfl, h6⟩
end Disk
end Go.Proofs.Ytobdllfddmeicaa
