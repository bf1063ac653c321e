/- event.Parse. -/
import Derived.Test.YtbgjoefpnjgdkaaDoorEventBytes
namespace Go.Proofs.YtbgjoefpnjgdkaaDoor
open Go.RowKit
set_option linter.unusedVariables false
set_option linter.unusedSimpArgs false
set_option maxRecDepth 100000
namespace Named
open Oct
theorem all_short (s : List UInt8) (h : (allR s).2 = 0) : ∀ t ∈ (allR s).1, t.length ≤ 8192 := by
  have hl : ∃ x, listR (allR s).1 = (x, 0) := by
    have hall := h
    rw [allR] at hall ⊢
    split at hall
    · rename_i h; exact absurd hall h
    · rename_i hg
      split at hall
      · cases hall
      · rename_i hlen
        rw [if_neg hg, if_neg hlen]
        have hg0 : (getList s).2.2 = 0 := by simpa using hg
        exact ⟨_, put_getList s (getList s).1 (getList s).2.1 (by rw [← hg0])⟩
  obtain ⟨x, hx⟩ := hl
  rw [listR] at hx
  split at hx
  · cases hx
  · split at hx
    · cases hx
    · rename_i hn
      intro t ht
      exact Decidable.byContradiction fun h => hn ⟨t, ht, by omega⟩

set_option maxHeartbeats 1000000 in
theorem eparse_err (s : List UInt8) (ls : List (List UInt8)) (er : Nat) (her : er ≠ 0) (w : World) (HA : Hid (∀ w', Calls Tryd.prog 11 #[.string ⟨s.toArray⟩] w' fun e w'' => ∃ v, e = .returned (.tuple #[v, .int .i64 (er : Int)]) ∧ StrRow w'' v ls ∧ Below w'.heap.size w' w'')) :
    Calls Tryd.prog 23 #[.string ⟨s.toArray⟩] w fun e w' => e = .returned (.tuple #[.agg #[.string ⟨#[]⟩, .string ⟨#[]⟩, .int .u8 0, .string ⟨#[]⟩, .string ⟨#[]⟩, .int .i64 0], .int .i64 6]) ∧ Below w.heap.size w w' := by
  have he1 : ¬ ((er : Int) = 0) := by omega
  have he2 : ((er : Int) == 0) = false := by simpa using he1
  clear her
  have A0 := Blk.new w #[.string ⟨#[]⟩, .string ⟨#[]⟩, .int .u8 0, .string ⟨#[]⟩, .string ⟨#[]⟩, .int .i64 0] 56
  have B0 := (Below.refl w.heap.size w).alloc (Nat.le_refl _) (.cells #[.string ⟨#[]⟩, .string ⟨#[]⟩, .int .u8 0, .string ⟨#[]⟩, .string ⟨#[]⟩, .int .i64 0] 56)
  go_enter Tryd.func23, Tryd.ntmps23
  go_wp2_with fail
  generalize w.alloc (.cells #[.string ⟨#[]⟩, .string ⟨#[]⟩, .int .u8 0, .string ⟨#[]⟩, .string ⟨#[]⟩, .int .i64 0] 56) = w1 at *
  refine (HA.out _).mono ?_
  rintro e w2 ⟨v, rfl, hrow, hb2⟩
  have A2 := A0.low hb2
  have B2 := B0.trans (hb2.mono B0.size)
  clear A0 B0 hb2
  have c0 := A2.cell 0 rfl
  have f0 := A2.froz 0 (by simp)
  have c1 := A2.cell 1 rfl
  have f1 := A2.froz 1 (by simp)
  have c2 := A2.cell 2 rfl
  have f2 := A2.froz 2 (by simp)
  have c3 := A2.cell 3 rfl
  have f3 := A2.froz 3 (by simp)
  have c4 := A2.cell 4 rfl
  have f4 := A2.froz 4 (by simp)
  have c5 := A2.cell 5 rfl
  have f5 := A2.froz 5 (by simp)
  have hz := A2.size
  go_wp2_with fail
  have A9 := ((((((A2.set 0 (by simp) (.string ⟨#[]⟩)).set 1 (by simp) (.string ⟨#[]⟩)).set 2 (by simp) (.int .u8 0)).set 3 (by simp) (.string ⟨#[]⟩)).set 4 (by simp) (.string ⟨#[]⟩)).set 5 (by simp) (.int .i64 0))
  have B9 := ((((((B2.setCell (p := ⟨w.heap.size, 0, none⟩) (Nat.le_refl _) (.string ⟨#[]⟩)).setCell (p := ⟨w.heap.size, 1, none⟩) (Nat.le_refl _) (.string ⟨#[]⟩)).setCell (p := ⟨w.heap.size, 2, none⟩) (Nat.le_refl _) (.int .u8 0)).setCell (p := ⟨w.heap.size, 3, none⟩) (Nat.le_refl _) (.string ⟨#[]⟩)).setCell (p := ⟨w.heap.size, 4, none⟩) (Nat.le_refl _) (.string ⟨#[]⟩)).setCell (p := ⟨w.heap.size, 5, none⟩) (Nat.le_refl _) (.int .i64 0))
  generalize ((((((w2.setCell ⟨w.heap.size, 0, none⟩ (.string ⟨#[]⟩)).setCell ⟨w.heap.size, 1, none⟩ (.string ⟨#[]⟩)).setCell ⟨w.heap.size, 2, none⟩ (.int .u8 0)).setCell ⟨w.heap.size, 3, none⟩ (.string ⟨#[]⟩)).setCell ⟨w.heap.size, 4, none⟩ (.string ⟨#[]⟩)).setCell ⟨w.heap.size, 5, none⟩ (.int .i64 0)) = w9 at *
  have d0 := A9.cell 0 rfl
  have d1 := A9.cell 1 rfl
  have d2 := A9.cell 2 rfl
  have d3 := A9.cell 3 rfl
  have d4 := A9.cell 4 rfl
  have d5 := A9.cell 5 rfl
  clear c0 c1 c2 c3 c4 c5 f0 f1 f2 f3 f4 f5
  refine bodyPost_ret (v := .tuple #[.agg #[.string ⟨#[]⟩, .string ⟨#[]⟩, .int .u8 0, .string ⟨#[]⟩, .string ⟨#[]⟩, .int .i64 0], .int .i64 6]) (by simp [results, Tryd.f23, go_sem, d0, d1, d2, d3, d4, d5]) rfl ?_
  exact ⟨rfl, B9⟩

set_option maxHeartbeats 1000000 in
theorem eparse_len (s : List UInt8) (ls : List (List UInt8)) (hls : ls.length ≠ 6) (er : Nat) (her : er = 0) (w : World) (HA : Hid (∀ w', Calls Tryd.prog 11 #[.string ⟨s.toArray⟩] w' fun e w'' => ∃ v, e = .returned (.tuple #[v, .int .i64 (er : Int)]) ∧ StrRow w'' v ls ∧ Below w'.heap.size w' w'')) :
    Calls Tryd.prog 23 #[.string ⟨s.toArray⟩] w fun e w' => e = .returned (.tuple #[.agg #[.string ⟨#[]⟩, .string ⟨#[]⟩, .int .u8 0, .string ⟨#[]⟩, .string ⟨#[]⟩, .int .i64 0], .int .i64 6]) ∧ Below w.heap.size w w' := by
  subst her
  have he1 : ¬ ((ls.length : Int) = 6) := by omega
  have he2 : ((ls.length : Int) == 6) = false := by simpa using he1
  clear hls
  have A0 := Blk.new w #[.string ⟨#[]⟩, .string ⟨#[]⟩, .int .u8 0, .string ⟨#[]⟩, .string ⟨#[]⟩, .int .i64 0] 56
  have B0 := (Below.refl w.heap.size w).alloc (Nat.le_refl _) (.cells #[.string ⟨#[]⟩, .string ⟨#[]⟩, .int .u8 0, .string ⟨#[]⟩, .string ⟨#[]⟩, .int .i64 0] 56)
  go_enter Tryd.func23, Tryd.ntmps23
  go_wp2_with fail
  generalize w.alloc (.cells #[.string ⟨#[]⟩, .string ⟨#[]⟩, .int .u8 0, .string ⟨#[]⟩, .string ⟨#[]⟩, .int .i64 0] 56) = w1 at *
  refine (HA.out _).mono ?_
  rintro e w2 ⟨v, rfl, hrow, hb2⟩
  have A2 := A0.low hb2
  have B2 := B0.trans (hb2.mono B0.size)
  clear A0 B0 hb2
  obtain ⟨p, cp, rfl⟩ := hrow.form
  have c0 := A2.cell 0 rfl
  have f0 := A2.froz 0 (by simp)
  have c1 := A2.cell 1 rfl
  have f1 := A2.froz 1 (by simp)
  have c2 := A2.cell 2 rfl
  have f2 := A2.froz 2 (by simp)
  have c3 := A2.cell 3 rfl
  have f3 := A2.froz 3 (by simp)
  have c4 := A2.cell 4 rfl
  have f4 := A2.froz 4 (by simp)
  have c5 := A2.cell 5 rfl
  have f5 := A2.froz 5 (by simp)
  have hz := A2.size
  go_wp2_with fail
  have A9 := ((((((A2.set 0 (by simp) (.string ⟨#[]⟩)).set 1 (by simp) (.string ⟨#[]⟩)).set 2 (by simp) (.int .u8 0)).set 3 (by simp) (.string ⟨#[]⟩)).set 4 (by simp) (.string ⟨#[]⟩)).set 5 (by simp) (.int .i64 0))
  have B9 := ((((((B2.setCell (p := ⟨w.heap.size, 0, none⟩) (Nat.le_refl _) (.string ⟨#[]⟩)).setCell (p := ⟨w.heap.size, 1, none⟩) (Nat.le_refl _) (.string ⟨#[]⟩)).setCell (p := ⟨w.heap.size, 2, none⟩) (Nat.le_refl _) (.int .u8 0)).setCell (p := ⟨w.heap.size, 3, none⟩) (Nat.le_refl _) (.string ⟨#[]⟩)).setCell (p := ⟨w.heap.size, 4, none⟩) (Nat.le_refl _) (.string ⟨#[]⟩)).setCell (p := ⟨w.heap.size, 5, none⟩) (Nat.le_refl _) (.int .i64 0))
  generalize ((((((w2.setCell ⟨w.heap.size, 0, none⟩ (.string ⟨#[]⟩)).setCell ⟨w.heap.size, 1, none⟩ (.string ⟨#[]⟩)).setCell ⟨w.heap.size, 2, none⟩ (.int .u8 0)).setCell ⟨w.heap.size, 3, none⟩ (.string ⟨#[]⟩)).setCell ⟨w.heap.size, 4, none⟩ (.string ⟨#[]⟩)).setCell ⟨w.heap.size, 5, none⟩ (.int .i64 0)) = w9 at *
  have d0 := A9.cell 0 rfl
  have d1 := A9.cell 1 rfl
  have d2 := A9.cell 2 rfl
  have d3 := A9.cell 3 rfl
  have d4 := A9.cell 4 rfl
  have d5 := A9.cell 5 rfl
  clear c0 c1 c2 c3 c4 c5 f0 f1 f2 f3 f4 f5
  refine bodyPost_ret (v := .tuple #[.agg #[.string ⟨#[]⟩, .string ⟨#[]⟩, .int .u8 0, .string ⟨#[]⟩, .string ⟨#[]⟩, .int .i64 0], .int .i64 6]) (by simp [results, Tryd.f23, go_sem, d0, d1, d2, d3, d4, d5]) rfl ?_
  exact ⟨rfl, B9⟩


set_option maxHeartbeats 4000000 in
theorem eparse_six (s l0 l1 l2 l3 l4 l5 : List UInt8) (n u e3 k ck : Nat) (hn : n ≤ 281474976710656) (w : World)
    (HA : Hid (∀ w', Calls Tryd.prog 11 #[.string ⟨s.toArray⟩] w' fun e w'' => ∃ v, e = .returned (.tuple #[v, .int .i64 0]) ∧ StrRow w'' v [l0, l1, l2, l3, l4, l5] ∧ Below w'.heap.size w' w''))
    (HG : Hid (∀ w', Calls Tryd.prog 62 #[.string ⟨l5.toArray⟩] w' fun e w'' => e = .returned (.tuple #[.int .u64 (n : Int), .int .i64 (u : Int), .int .i64 (e3 : Int)]) ∧ w' = w''))
    (HKW : Hid (∀ w', Below w.heap.size w w' → Calls Tryd.prog 63 #[.string ⟨l2.toArray⟩] w' fun e w'' => e = .returned (.int .u8 (k : Int)) ∧ w'' = w'))
    (HC : Hid (∀ w', Below w.heap.size w w' → Calls Tryd.prog 24 #[.agg #[.string ⟨l0.toArray⟩, .string ⟨l1.toArray⟩, .int .u8 (k : Int), .string ⟨l3.toArray⟩, .string ⟨l4.toArray⟩, .int .i64 (n : Int)]] w' fun e w'' => e = .returned (.int .i64 (ck : Int)) ∧ Below w'.heap.size w' w''))
    (res : Value) (HR : Hid ((if e3 = 0 ∧ ¬ u < l5.length ∧ ck = 0 then Value.tuple #[.agg #[.string ⟨l0.toArray⟩, .string ⟨l1.toArray⟩, .int .u8 (k : Int), .string ⟨l3.toArray⟩, .string ⟨l4.toArray⟩, .int .i64 (n : Int)], .int .i64 0] else .tuple #[.agg #[.string ⟨#[]⟩, .string ⟨#[]⟩, .int .u8 0, .string ⟨#[]⟩, .string ⟨#[]⟩, .int .i64 0], .int .i64 6]) = res)) :
    Calls Tryd.prog 23 #[.string ⟨s.toArray⟩] w fun e w' => e = .returned res ∧ Below w.heap.size w w' := by
  have hni : (n : Int) ≤ 281474976710656 := by omega
  have hn0 : (0 : Int) ≤ (n : Int) := by omega
  have hsz : (ByteArray.mk l5.toArray).size = l5.length := by simp [ByteArray.size]
  have hmo : Tryd.prog.follows .mixedOrders = true := by kernel_rfl
  have hwr : IntKind.i64.wrap (n : Int) = (n : Int) := by rw [IntKind.wrap_i64]; omega
  clear hn
  have A0 := Blk.new w #[.string ⟨#[]⟩, .string ⟨#[]⟩, .int .u8 0, .string ⟨#[]⟩, .string ⟨#[]⟩, .int .i64 0] 56
  have B0 := (Below.refl w.heap.size w).alloc (Nat.le_refl _) (.cells #[.string ⟨#[]⟩, .string ⟨#[]⟩, .int .u8 0, .string ⟨#[]⟩, .string ⟨#[]⟩, .int .i64 0] 56)
  go_enter Tryd.func23, Tryd.ntmps23
  go_wp2_with fail
  generalize w.alloc (.cells #[.string ⟨#[]⟩, .string ⟨#[]⟩, .int .u8 0, .string ⟨#[]⟩, .string ⟨#[]⟩, .int .i64 0] 56) = w1 at *
  refine (HA.out _).mono ?_
  rintro e w2 ⟨v, rfl, hrow, hb2⟩
  have A2 := A0.low hb2
  have B2 := B0.trans (hb2.mono B0.size)
  clear A0 B0 hb2
  obtain ⟨b, o, cap, rfl, hbl, hrc⟩ : ∃ b o cap, v = .slice (some ⟨b, o, none⟩) 6 cap ∧ b < w2.heap.size ∧ ∀ (j : Nat) (hj : j < 6), w2.cell? ⟨b, o + j, none⟩ = some (.string ⟨([l0, l1, l2, l3, l4, l5][j]).toArray⟩) := by
    rcases hrow with ⟨p, cap, rfl, h⟩ | ⟨b, o, cap, rfl, h1, h2⟩
    · cases h
    · exact ⟨b, o, cap, rfl, h1, h2⟩
  have r0 : w2.cell? ⟨b, o, none⟩ = some (.string ⟨l0.toArray⟩) := hrc 0 (by omega)
  have r1 : w2.cell? ⟨b, o + 1, none⟩ = some (.string ⟨l1.toArray⟩) := hrc 1 (by omega)
  have r2 : w2.cell? ⟨b, o + 2, none⟩ = some (.string ⟨l2.toArray⟩) := hrc 2 (by omega)
  have r3 : w2.cell? ⟨b, o + 3, none⟩ = some (.string ⟨l3.toArray⟩) := hrc 3 (by omega)
  have r4 : w2.cell? ⟨b, o + 4, none⟩ = some (.string ⟨l4.toArray⟩) := hrc 4 (by omega)
  have r5 : w2.cell? ⟨b, o + 5, none⟩ = some (.string ⟨l5.toArray⟩) := hrc 5 (by omega)
  clear hrc hrow
  have HRW := Lib.hid (And.intro r0 (And.intro r1 (And.intro r2 (And.intro r3 r4))))
  clear r0 r1 r2 r3 r4
  go_wp2_with fail
  refine (HG.out _).mono ?_
  rintro e w' ⟨rfl, rfl⟩
  have c0 := A2.cell 0 rfl
  have f0 := A2.froz 0 (by simp)
  have c1 := A2.cell 1 rfl
  have f1 := A2.froz 1 (by simp)
  have c2 := A2.cell 2 rfl
  have f2 := A2.froz 2 (by simp)
  have c3 := A2.cell 3 rfl
  have f3 := A2.froz 3 (by simp)
  have c4 := A2.cell 4 rfl
  have f4 := A2.froz 4 (by simp)
  have c5 := A2.cell 5 rfl
  have f5 := A2.froz 5 (by simp)
  have hz := A2.size
  by_cases he3 : e3 = 0
  · subst he3
    by_cases hu : u < l5.length
    · have HRR := Lib.hid (show Value.tuple #[.agg #[.string ⟨#[]⟩, .string ⟨#[]⟩, .int .u8 0, .string ⟨#[]⟩, .string ⟨#[]⟩, .int .i64 0], .int .i64 6] = res by rw [← HR.out, if_neg (fun h => h.2.1 hu)])
      have hui : (u : Int) < (l5.length : Int) := by omega
      clear hu
      go_wp2_with fail
      have A9 := ((((((A2.set 0 (by simp) (.string ⟨#[]⟩)).set 1 (by simp) (.string ⟨#[]⟩)).set 2 (by simp) (.int .u8 0)).set 3 (by simp) (.string ⟨#[]⟩)).set 4 (by simp) (.string ⟨#[]⟩)).set 5 (by simp) (.int .i64 0))
      have B9 := ((((((B2.setCell (p := ⟨w.heap.size, 0, none⟩) (Nat.le_refl _) (.string ⟨#[]⟩)).setCell (p := ⟨w.heap.size, 1, none⟩) (Nat.le_refl _) (.string ⟨#[]⟩)).setCell (p := ⟨w.heap.size, 2, none⟩) (Nat.le_refl _) (.int .u8 0)).setCell (p := ⟨w.heap.size, 3, none⟩) (Nat.le_refl _) (.string ⟨#[]⟩)).setCell (p := ⟨w.heap.size, 4, none⟩) (Nat.le_refl _) (.string ⟨#[]⟩)).setCell (p := ⟨w.heap.size, 5, none⟩) (Nat.le_refl _) (.int .i64 0))
      generalize ((((((w2.setCell ⟨w.heap.size, 0, none⟩ (.string ⟨#[]⟩)).setCell ⟨w.heap.size, 1, none⟩ (.string ⟨#[]⟩)).setCell ⟨w.heap.size, 2, none⟩ (.int .u8 0)).setCell ⟨w.heap.size, 3, none⟩ (.string ⟨#[]⟩)).setCell ⟨w.heap.size, 4, none⟩ (.string ⟨#[]⟩)).setCell ⟨w.heap.size, 5, none⟩ (.int .i64 0)) = w9 at *
      have d0 := A9.cell 0 rfl
      have d1 := A9.cell 1 rfl
      have d2 := A9.cell 2 rfl
      have d3 := A9.cell 3 rfl
      have d4 := A9.cell 4 rfl
      have d5 := A9.cell 5 rfl
      clear c0 c1 c2 c3 c4 c5 f0 f1 f2 f3 f4 f5
      refine bodyPost_ret (v := .tuple #[.agg #[.string ⟨#[]⟩, .string ⟨#[]⟩, .int .u8 0, .string ⟨#[]⟩, .string ⟨#[]⟩, .int .i64 0], .int .i64 6]) (by simp [results, Tryd.f23, go_sem, d0, d1, d2, d3, d4, d5]) rfl ?_
      exact ⟨by rw [← HRR.out], B9⟩
    · have hui : ¬ ((u : Int) < (l5.length : Int)) := by omega
      have HU := Lib.hid hu
      clear hu
      clear c0 c1 c2 c3 c4 c5 f0 f1 f2 f3 f4 f5 hz
      go_wp2_with fail
      have S3 : (fun w' => w'.cell? ⟨b, o, none⟩ = some (.string ⟨l0.toArray⟩) ∧ w'.cell? ⟨b, o + 1, none⟩ = some (.string ⟨l1.toArray⟩) ∧ w'.cell? ⟨b, o + 2, none⟩ = some (.string ⟨l2.toArray⟩) ∧ w'.cell? ⟨b, o + 3, none⟩ = some (.string ⟨l3.toArray⟩) ∧ w'.cell? ⟨b, o + 4, none⟩ = some (.string ⟨l4.toArray⟩) ∧ Below w.heap.size w w') w2.drew := ⟨HRW.out.1, HRW.out.2.1, HRW.out.2.2.1, HRW.out.2.2.2.1, HRW.out.2.2.2.2, B2.drew⟩
      refine wp_region_heldX (fun w' => w'.cell? ⟨b, o, none⟩ = some (.string ⟨l0.toArray⟩) ∧ w'.cell? ⟨b, o + 1, none⟩ = some (.string ⟨l1.toArray⟩) ∧ w'.cell? ⟨b, o + 2, none⟩ = some (.string ⟨l2.toArray⟩) ∧ w'.cell? ⟨b, o + 3, none⟩ = some (.string ⟨l3.toArray⟩) ∧ w'.cell? ⟨b, o + 4, none⟩ = some (.string ⟨l4.toArray⟩) ∧ Below w.heap.size w w') [20] hmo ?_
      refine HeldX.move 0 (v := .slice (some ⟨b, o, none⟩) 6 cap) rfl (by kernel_rfl) (by kernel_rfl) (by kernel_rfl) (by kernel_rfl) (fun _ _ _ h => h) S3 (.inl ⟨by kernel_rfl, fun w h => by go_simp⟩) ?_
      go_simp
      refine HeldX.move 1 (v := .pointer (some ⟨b, o, none⟩)) rfl (by kernel_rfl) (by kernel_rfl) (by kernel_rfl) (by kernel_rfl) (fun _ _ _ h => h) S3 (.inl ⟨by kernel_rfl, fun w h => by go_simp⟩) ?_
      go_simp
      refine HeldX.take 2 (v := .string ⟨l0.toArray⟩) rfl (by kernel_rfl) (by kernel_rfl) (by kernel_rfl) (by kernel_rfl) (fun _ _ _ h => h) S3 (.inl ⟨by kernel_rfl, fun w h => by have h1 := h.1; go_simp⟩) ?_
      go_simp
      refine HeldX.move 3 (v := .slice (some ⟨b, o, none⟩) 6 cap) rfl (by kernel_rfl) (by kernel_rfl) (by kernel_rfl) (by kernel_rfl) (fun _ _ _ h => h) S3 (.inl ⟨by kernel_rfl, fun w h => by go_simp⟩) ?_
      go_simp
      refine HeldX.move 4 (v := .pointer (some ⟨b, o + 1, none⟩)) rfl (by kernel_rfl) (by kernel_rfl) (by kernel_rfl) (by kernel_rfl) (fun _ _ _ h => h) S3 (.inl ⟨by kernel_rfl, fun w h => by go_simp⟩) ?_
      go_simp
      refine HeldX.take 5 (v := .string ⟨l1.toArray⟩) rfl (by kernel_rfl) (by kernel_rfl) (by kernel_rfl) (by kernel_rfl) (fun _ _ _ h => h) S3 (.inl ⟨by kernel_rfl, fun w h => by have h1 := h.2.1; go_simp⟩) ?_
      go_simp
      refine HeldX.move 6 (v := .slice (some ⟨b, o, none⟩) 6 cap) rfl (by kernel_rfl) (by kernel_rfl) (by kernel_rfl) (by kernel_rfl) (fun _ _ _ h => h) S3 (.inl ⟨by kernel_rfl, fun w h => by go_simp⟩) ?_
      go_simp
      refine HeldX.move 7 (v := .pointer (some ⟨b, o + 2, none⟩)) rfl (by kernel_rfl) (by kernel_rfl) (by kernel_rfl) (by kernel_rfl) (fun _ _ _ h => h) S3 (.inl ⟨by kernel_rfl, fun w h => by go_simp⟩) ?_
      go_simp
      refine HeldX.take 8 (v := .string ⟨l2.toArray⟩) rfl (by kernel_rfl) (by kernel_rfl) (by kernel_rfl) (by kernel_rfl) (fun _ _ _ h => h) S3 (.inl ⟨by kernel_rfl, fun w h => by have h1 := h.2.2.1; go_simp⟩) ?_
      go_simp
      refine HeldX.move 10 (v := .slice (some ⟨b, o, none⟩) 6 cap) rfl (by kernel_rfl) (by kernel_rfl) (by kernel_rfl) (by kernel_rfl) (fun _ _ _ h => h) S3 (.inl ⟨by kernel_rfl, fun w h => by go_simp⟩) ?_
      go_simp
      refine HeldX.move 11 (v := .pointer (some ⟨b, o + 3, none⟩)) rfl (by kernel_rfl) (by kernel_rfl) (by kernel_rfl) (by kernel_rfl) (fun _ _ _ h => h) S3 (.inl ⟨by kernel_rfl, fun w h => by go_simp⟩) ?_
      go_simp
      refine HeldX.take 12 (v := .string ⟨l3.toArray⟩) rfl (by kernel_rfl) (by kernel_rfl) (by kernel_rfl) (by kernel_rfl) (fun _ _ _ h => h) S3 (.inl ⟨by kernel_rfl, fun w h => by have h1 := h.2.2.2.1; go_simp⟩) ?_
      go_simp
      refine HeldX.move 13 (v := .slice (some ⟨b, o, none⟩) 6 cap) rfl (by kernel_rfl) (by kernel_rfl) (by kernel_rfl) (by kernel_rfl) (fun _ _ _ h => h) S3 (.inl ⟨by kernel_rfl, fun w h => by go_simp⟩) ?_
      go_simp
      refine HeldX.move 14 (v := .pointer (some ⟨b, o + 4, none⟩)) rfl (by kernel_rfl) (by kernel_rfl) (by kernel_rfl) (by kernel_rfl) (fun _ _ _ h => h) S3 (.inl ⟨by kernel_rfl, fun w h => by go_simp⟩) ?_
      go_simp
      refine HeldX.take 15 (v := .string ⟨l4.toArray⟩) rfl (by kernel_rfl) (by kernel_rfl) (by kernel_rfl) (by kernel_rfl) (fun _ _ _ h => h) S3 (.inl ⟨by kernel_rfl, fun w h => by have h1 := h.2.2.2.2.1; go_simp⟩) ?_
      go_simp
      refine HeldX.move 16 (v := .int .u64 (n : Int)) rfl (by kernel_rfl) (by kernel_rfl) (by kernel_rfl) (by kernel_rfl) (fun _ _ _ h => h) S3 (.inl ⟨by kernel_rfl, fun w h => by go_simp⟩) ?_
      go_simp
      refine HeldX.move 17 (v := .int .i64 (n : Int)) rfl (by kernel_rfl) (by kernel_rfl) (by kernel_rfl) (by kernel_rfl) (fun _ _ _ h => h) S3 (.inl ⟨by kernel_rfl, fun w h => by go_simp⟩) ?_
      go_simp
      refine HeldX.all [9, 19] (by kernel_rfl) (by simp) (HeldXAll.cons rfl (by kernel_rfl) (fun K hK => ?_) (HeldXAll.cons rfl (by kernel_rfl) (fun K hK => ?_) HeldXAll.nil))
      · go_simp
        refine (HKW.out _ B2.drew).mono ?_
        rintro e w3 ⟨rfl, rfl⟩
        refine hK _ _ S3 ?_
        clear hK K
        refine HeldX.move 18 (v := .agg #[.string ⟨l0.toArray⟩, .string ⟨l1.toArray⟩, .int .u8 (k : Int), .string ⟨l3.toArray⟩, .string ⟨l4.toArray⟩, .int .i64 (n : Int)]) rfl (by kernel_rfl) (by kernel_rfl) (by kernel_rfl) (by kernel_rfl) (fun _ _ _ h => h) S3 (.inl ⟨by kernel_rfl, fun w h => by go_simp⟩) ?_
        go_simp
        have WW := Below.refl w2.heap.size w2
        have WA := (WW.alloc (Nat.le_refl _) (.cells #[.string ⟨#[]⟩, .string ⟨#[]⟩, .int .u8 0, .string ⟨#[]⟩, .string ⟨#[]⟩, .int .i64 0] 56)).drew
        have S4 : (fun w' => w'.cell? ⟨b, o, none⟩ = some (.string ⟨l0.toArray⟩) ∧ w'.cell? ⟨b, o + 1, none⟩ = some (.string ⟨l1.toArray⟩) ∧ w'.cell? ⟨b, o + 2, none⟩ = some (.string ⟨l2.toArray⟩) ∧ w'.cell? ⟨b, o + 3, none⟩ = some (.string ⟨l3.toArray⟩) ∧ w'.cell? ⟨b, o + 4, none⟩ = some (.string ⟨l4.toArray⟩) ∧ Below w.heap.size w w') (w2.alloc (.cells #[.string ⟨#[]⟩, .string ⟨#[]⟩, .int .u8 0, .string ⟨#[]⟩, .string ⟨#[]⟩, .int .i64 0] 56)).drew := ⟨cell_low HRW.out.1 WA, cell_low HRW.out.2.1 WA, cell_low HRW.out.2.2.1 WA, cell_low HRW.out.2.2.2.1 WA, cell_low HRW.out.2.2.2.2 WA, B2.trans (WA.mono B2.size)⟩
        have X4 := (Blk.new w2 #[.string ⟨#[]⟩, .string ⟨#[]⟩, .int .u8 0, .string ⟨#[]⟩, .string ⟨#[]⟩, .int .i64 0] 56).drew
        have A4 := A2.low WA
        have B4 := B2.trans (WA.mono B2.size)
        refine HeldX.one 19 (by kernel_rfl) rfl (by kernel_rfl) (fun K hK => ?_)
        go_simp
        refine hK _ _ S4 ?_
        clear hK K S4 WW
        generalize (w2.alloc (.cells #[.string ⟨#[]⟩, .string ⟨#[]⟩, .int .u8 0, .string ⟨#[]⟩, .string ⟨#[]⟩, .int .i64 0] 56)).drew = w4 at *
        have x0 := X4.cell 0 rfl
        have y0 := X4.froz 0 (by simp)
        have x1 := X4.cell 1 rfl
        have y1 := X4.froz 1 (by simp)
        have x2 := X4.cell 2 rfl
        have y2 := X4.froz 2 (by simp)
        have x3 := X4.cell 3 rfl
        have y3 := X4.froz 3 (by simp)
        have x4 := X4.cell 4 rfl
        have y4 := X4.froz 4 (by simp)
        have x5 := X4.cell 5 rfl
        have y5 := X4.froz 5 (by simp)
        have zx := X4.size
        have za := A2.size
        refine HeldX.last 20 (by kernel_rfl) (by kernel_rfl) rfl (by kernel_rfl) (fun K hK => ?_)
        go_simp
        refine hK _ _ ?_
        clear hK K
        have X5 := ((((((X4.set 0 (by simp) (.string ⟨l0.toArray⟩)).set 1 (by simp) (.string ⟨l1.toArray⟩)).set 2 (by simp) (.int .u8 (k : Int))).set 3 (by simp) (.string ⟨l3.toArray⟩)).set 4 (by simp) (.string ⟨l4.toArray⟩)).set 5 (by simp) (.int .i64 (n : Int)))
        have A5 := ((((((A4.far (b := w2.heap.size) (by omega) 0 (.string ⟨l0.toArray⟩)).far (b := w2.heap.size) (by omega) 1 (.string ⟨l1.toArray⟩)).far (b := w2.heap.size) (by omega) 2 (.int .u8 (k : Int))).far (b := w2.heap.size) (by omega) 3 (.string ⟨l3.toArray⟩)).far (b := w2.heap.size) (by omega) 4 (.string ⟨l4.toArray⟩)).far (b := w2.heap.size) (by omega) 5 (.int .i64 (n : Int)))
        have B5 := ((((((B4.setCell (p := ⟨w2.heap.size, 0, none⟩) (by show w.heap.size ≤ w2.heap.size; omega) (.string ⟨l0.toArray⟩)).setCell (p := ⟨w2.heap.size, 1, none⟩) (by show w.heap.size ≤ w2.heap.size; omega) (.string ⟨l1.toArray⟩)).setCell (p := ⟨w2.heap.size, 2, none⟩) (by show w.heap.size ≤ w2.heap.size; omega) (.int .u8 (k : Int))).setCell (p := ⟨w2.heap.size, 3, none⟩) (by show w.heap.size ≤ w2.heap.size; omega) (.string ⟨l3.toArray⟩)).setCell (p := ⟨w2.heap.size, 4, none⟩) (by show w.heap.size ≤ w2.heap.size; omega) (.string ⟨l4.toArray⟩)).setCell (p := ⟨w2.heap.size, 5, none⟩) (by show w.heap.size ≤ w2.heap.size; omega) (.int .i64 (n : Int)))
        generalize ((((((w4.setCell ⟨w2.heap.size, 0, none⟩ (.string ⟨l0.toArray⟩)).setCell ⟨w2.heap.size, 1, none⟩ (.string ⟨l1.toArray⟩)).setCell ⟨w2.heap.size, 2, none⟩ (.int .u8 (k : Int))).setCell ⟨w2.heap.size, 3, none⟩ (.string ⟨l3.toArray⟩)).setCell ⟨w2.heap.size, 4, none⟩ (.string ⟨l4.toArray⟩)).setCell ⟨w2.heap.size, 5, none⟩ (.int .i64 (n : Int))) = w5 at *
        clear x0 x1 x2 x3 x4 x5 y0 y1 y2 y3 y4 y5 X4 A4 B4 zx
        refine HeldX.done (by kernel_rfl) ?_ _
        have x0 := X5.cell 0 rfl
        have x1 := X5.cell 1 rfl
        have x2 := X5.cell 2 rfl
        have x3 := X5.cell 3 rfl
        have x4 := X5.cell 4 rfl
        have x5 := X5.cell 5 rfl
        go_wp2_with fail
        refine (HC.out _ B5).mono ?_
        rintro e w6 ⟨rfl, hb6⟩
        clear x0 x1 x2 x3 x4 x5
        have X6 := X5.low hb6
        have A6 := A5.low hb6
        have B6 := B5.trans (hb6.mono B5.size)
        clear X5 A5 B5 hb6
        have x0 := X6.cell 0 rfl
        have x1 := X6.cell 1 rfl
        have x2 := X6.cell 2 rfl
        have x3 := X6.cell 3 rfl
        have x4 := X6.cell 4 rfl
        have x5 := X6.cell 5 rfl
        have c0 := A6.cell 0 rfl
        have f0 := A6.froz 0 (by simp)
        have c1 := A6.cell 1 rfl
        have f1 := A6.froz 1 (by simp)
        have c2 := A6.cell 2 rfl
        have f2 := A6.froz 2 (by simp)
        have c3 := A6.cell 3 rfl
        have f3 := A6.froz 3 (by simp)
        have c4 := A6.cell 4 rfl
        have f4 := A6.froz 4 (by simp)
        have c5 := A6.cell 5 rfl
        have f5 := A6.froz 5 (by simp)
        have hz := A6.size
        have zx := X6.size
        by_cases hck : ck = 0
        · subst hck
          have HRR := Lib.hid (show Value.tuple #[.agg #[.string ⟨l0.toArray⟩, .string ⟨l1.toArray⟩, .int .u8 (k : Int), .string ⟨l3.toArray⟩, .string ⟨l4.toArray⟩, .int .i64 (n : Int)], .int .i64 0] = res by rw [← HR.out]; have h := HU.out; exact (if_pos (by simp; omega)).symm)
          go_wp2_with fail
          have A9 := ((((((A6.set 0 (by simp) (.string ⟨l0.toArray⟩)).set 1 (by simp) (.string ⟨l1.toArray⟩)).set 2 (by simp) (.int .u8 (k : Int))).set 3 (by simp) (.string ⟨l3.toArray⟩)).set 4 (by simp) (.string ⟨l4.toArray⟩)).set 5 (by simp) (.int .i64 (n : Int)))
          have B9 := ((((((B6.setCell (p := ⟨w.heap.size, 0, none⟩) (Nat.le_refl _) (.string ⟨l0.toArray⟩)).setCell (p := ⟨w.heap.size, 1, none⟩) (Nat.le_refl _) (.string ⟨l1.toArray⟩)).setCell (p := ⟨w.heap.size, 2, none⟩) (Nat.le_refl _) (.int .u8 (k : Int))).setCell (p := ⟨w.heap.size, 3, none⟩) (Nat.le_refl _) (.string ⟨l3.toArray⟩)).setCell (p := ⟨w.heap.size, 4, none⟩) (Nat.le_refl _) (.string ⟨l4.toArray⟩)).setCell (p := ⟨w.heap.size, 5, none⟩) (Nat.le_refl _) (.int .i64 (n : Int)))
          generalize ((((((w6.setCell ⟨w.heap.size, 0, none⟩ (.string ⟨l0.toArray⟩)).setCell ⟨w.heap.size, 1, none⟩ (.string ⟨l1.toArray⟩)).setCell ⟨w.heap.size, 2, none⟩ (.int .u8 (k : Int))).setCell ⟨w.heap.size, 3, none⟩ (.string ⟨l3.toArray⟩)).setCell ⟨w.heap.size, 4, none⟩ (.string ⟨l4.toArray⟩)).setCell ⟨w.heap.size, 5, none⟩ (.int .i64 (n : Int))) = w9 at *
          have d0 := A9.cell 0 rfl
          have d1 := A9.cell 1 rfl
          have d2 := A9.cell 2 rfl
          have d3 := A9.cell 3 rfl
          have d4 := A9.cell 4 rfl
          have d5 := A9.cell 5 rfl
          clear c0 c1 c2 c3 c4 c5 f0 f1 f2 f3 f4 f5
          refine bodyPost_ret (v := .tuple #[.agg #[.string ⟨l0.toArray⟩, .string ⟨l1.toArray⟩, .int .u8 (k : Int), .string ⟨l3.toArray⟩, .string ⟨l4.toArray⟩, .int .i64 (n : Int)], .int .i64 0]) (by simp [results, Tryd.f23, go_sem, d0, d1, d2, d3, d4, d5]) rfl ?_
          exact ⟨by rw [← HRR.out], B9⟩
        · have HRR := Lib.hid (show Value.tuple #[.agg #[.string ⟨#[]⟩, .string ⟨#[]⟩, .int .u8 0, .string ⟨#[]⟩, .string ⟨#[]⟩, .int .i64 0], .int .i64 6] = res by rw [← HR.out, if_neg (fun h => hck h.2.2)])
          have hc1 : ¬ ((ck : Int) = 0) := by omega
          have hc2 : ((ck : Int) == 0) = false := by simpa using hc1
          clear hck
          go_wp2_with fail
          have A9 := ((((((A6.set 0 (by simp) (.string ⟨#[]⟩)).set 1 (by simp) (.string ⟨#[]⟩)).set 2 (by simp) (.int .u8 0)).set 3 (by simp) (.string ⟨#[]⟩)).set 4 (by simp) (.string ⟨#[]⟩)).set 5 (by simp) (.int .i64 0))
          have B9 := ((((((B6.setCell (p := ⟨w.heap.size, 0, none⟩) (Nat.le_refl _) (.string ⟨#[]⟩)).setCell (p := ⟨w.heap.size, 1, none⟩) (Nat.le_refl _) (.string ⟨#[]⟩)).setCell (p := ⟨w.heap.size, 2, none⟩) (Nat.le_refl _) (.int .u8 0)).setCell (p := ⟨w.heap.size, 3, none⟩) (Nat.le_refl _) (.string ⟨#[]⟩)).setCell (p := ⟨w.heap.size, 4, none⟩) (Nat.le_refl _) (.string ⟨#[]⟩)).setCell (p := ⟨w.heap.size, 5, none⟩) (Nat.le_refl _) (.int .i64 0))
          generalize ((((((w6.setCell ⟨w.heap.size, 0, none⟩ (.string ⟨#[]⟩)).setCell ⟨w.heap.size, 1, none⟩ (.string ⟨#[]⟩)).setCell ⟨w.heap.size, 2, none⟩ (.int .u8 0)).setCell ⟨w.heap.size, 3, none⟩ (.string ⟨#[]⟩)).setCell ⟨w.heap.size, 4, none⟩ (.string ⟨#[]⟩)).setCell ⟨w.heap.size, 5, none⟩ (.int .i64 0)) = w9 at *
          have d0 := A9.cell 0 rfl
          have d1 := A9.cell 1 rfl
          have d2 := A9.cell 2 rfl
          have d3 := A9.cell 3 rfl
          have d4 := A9.cell 4 rfl
          have d5 := A9.cell 5 rfl
          clear c0 c1 c2 c3 c4 c5 f0 f1 f2 f3 f4 f5
          refine bodyPost_ret (v := .tuple #[.agg #[.string ⟨#[]⟩, .string ⟨#[]⟩, .int .u8 0, .string ⟨#[]⟩, .string ⟨#[]⟩, .int .i64 0], .int .i64 6]) (by simp [results, Tryd.f23, go_sem, d0, d1, d2, d3, d4, d5]) rfl ?_
          exact ⟨by rw [← HRR.out], B9⟩
      · go_simp
        have WW := Below.refl w2.heap.size w2
        have WA := (WW.alloc (Nat.le_refl _) (.cells #[.string ⟨#[]⟩, .string ⟨#[]⟩, .int .u8 0, .string ⟨#[]⟩, .string ⟨#[]⟩, .int .i64 0] 56)).drew
        have S4 : (fun w' => w'.cell? ⟨b, o, none⟩ = some (.string ⟨l0.toArray⟩) ∧ w'.cell? ⟨b, o + 1, none⟩ = some (.string ⟨l1.toArray⟩) ∧ w'.cell? ⟨b, o + 2, none⟩ = some (.string ⟨l2.toArray⟩) ∧ w'.cell? ⟨b, o + 3, none⟩ = some (.string ⟨l3.toArray⟩) ∧ w'.cell? ⟨b, o + 4, none⟩ = some (.string ⟨l4.toArray⟩) ∧ Below w.heap.size w w') (w2.alloc (.cells #[.string ⟨#[]⟩, .string ⟨#[]⟩, .int .u8 0, .string ⟨#[]⟩, .string ⟨#[]⟩, .int .i64 0] 56)).drew := ⟨cell_low HRW.out.1 WA, cell_low HRW.out.2.1 WA, cell_low HRW.out.2.2.1 WA, cell_low HRW.out.2.2.2.1 WA, cell_low HRW.out.2.2.2.2 WA, B2.trans (WA.mono B2.size)⟩
        have X4 := (Blk.new w2 #[.string ⟨#[]⟩, .string ⟨#[]⟩, .int .u8 0, .string ⟨#[]⟩, .string ⟨#[]⟩, .int .i64 0] 56).drew
        have A4 := A2.low WA
        have B4 := B2.trans (WA.mono B2.size)
        refine hK _ _ S4 ?_
        clear hK K WW
        generalize (w2.alloc (.cells #[.string ⟨#[]⟩, .string ⟨#[]⟩, .int .u8 0, .string ⟨#[]⟩, .string ⟨#[]⟩, .int .i64 0] 56)).drew = w4 at *
        refine HeldX.one 9 (by kernel_rfl) rfl (by kernel_rfl) (fun K hK => ?_)
        go_simp
        refine (HKW.out _ B4).mono ?_
        rintro e w3 ⟨rfl, rfl⟩
        refine hK _ _ S4 ?_
        clear hK K
        refine HeldX.move 18 (v := .agg #[.string ⟨l0.toArray⟩, .string ⟨l1.toArray⟩, .int .u8 (k : Int), .string ⟨l3.toArray⟩, .string ⟨l4.toArray⟩, .int .i64 (n : Int)]) rfl (by kernel_rfl) (by kernel_rfl) (by kernel_rfl) (by kernel_rfl) (fun _ _ _ h => h) S4 (.inl ⟨by kernel_rfl, fun w h => by go_simp⟩) ?_
        go_simp
        clear S4
        have x0 := X4.cell 0 rfl
        have y0 := X4.froz 0 (by simp)
        have x1 := X4.cell 1 rfl
        have y1 := X4.froz 1 (by simp)
        have x2 := X4.cell 2 rfl
        have y2 := X4.froz 2 (by simp)
        have x3 := X4.cell 3 rfl
        have y3 := X4.froz 3 (by simp)
        have x4 := X4.cell 4 rfl
        have y4 := X4.froz 4 (by simp)
        have x5 := X4.cell 5 rfl
        have y5 := X4.froz 5 (by simp)
        have zx := X4.size
        have za := A2.size
        refine HeldX.last 20 (by kernel_rfl) (by kernel_rfl) rfl (by kernel_rfl) (fun K hK => ?_)
        go_simp
        refine hK _ _ ?_
        clear hK K
        have X5 := ((((((X4.set 0 (by simp) (.string ⟨l0.toArray⟩)).set 1 (by simp) (.string ⟨l1.toArray⟩)).set 2 (by simp) (.int .u8 (k : Int))).set 3 (by simp) (.string ⟨l3.toArray⟩)).set 4 (by simp) (.string ⟨l4.toArray⟩)).set 5 (by simp) (.int .i64 (n : Int)))
        have A5 := ((((((A4.far (b := w2.heap.size) (by omega) 0 (.string ⟨l0.toArray⟩)).far (b := w2.heap.size) (by omega) 1 (.string ⟨l1.toArray⟩)).far (b := w2.heap.size) (by omega) 2 (.int .u8 (k : Int))).far (b := w2.heap.size) (by omega) 3 (.string ⟨l3.toArray⟩)).far (b := w2.heap.size) (by omega) 4 (.string ⟨l4.toArray⟩)).far (b := w2.heap.size) (by omega) 5 (.int .i64 (n : Int)))
        have B5 := ((((((B4.setCell (p := ⟨w2.heap.size, 0, none⟩) (by show w.heap.size ≤ w2.heap.size; omega) (.string ⟨l0.toArray⟩)).setCell (p := ⟨w2.heap.size, 1, none⟩) (by show w.heap.size ≤ w2.heap.size; omega) (.string ⟨l1.toArray⟩)).setCell (p := ⟨w2.heap.size, 2, none⟩) (by show w.heap.size ≤ w2.heap.size; omega) (.int .u8 (k : Int))).setCell (p := ⟨w2.heap.size, 3, none⟩) (by show w.heap.size ≤ w2.heap.size; omega) (.string ⟨l3.toArray⟩)).setCell (p := ⟨w2.heap.size, 4, none⟩) (by show w.heap.size ≤ w2.heap.size; omega) (.string ⟨l4.toArray⟩)).setCell (p := ⟨w2.heap.size, 5, none⟩) (by show w.heap.size ≤ w2.heap.size; omega) (.int .i64 (n : Int)))
        generalize ((((((w3.setCell ⟨w2.heap.size, 0, none⟩ (.string ⟨l0.toArray⟩)).setCell ⟨w2.heap.size, 1, none⟩ (.string ⟨l1.toArray⟩)).setCell ⟨w2.heap.size, 2, none⟩ (.int .u8 (k : Int))).setCell ⟨w2.heap.size, 3, none⟩ (.string ⟨l3.toArray⟩)).setCell ⟨w2.heap.size, 4, none⟩ (.string ⟨l4.toArray⟩)).setCell ⟨w2.heap.size, 5, none⟩ (.int .i64 (n : Int))) = w5 at *
        clear x0 x1 x2 x3 x4 x5 y0 y1 y2 y3 y4 y5 X4 A4 B4 zx
        refine HeldX.done (by kernel_rfl) ?_ _
        have x0 := X5.cell 0 rfl
        have x1 := X5.cell 1 rfl
        have x2 := X5.cell 2 rfl
        have x3 := X5.cell 3 rfl
        have x4 := X5.cell 4 rfl
        have x5 := X5.cell 5 rfl
        go_wp2_with fail
        refine (HC.out _ B5).mono ?_
        rintro e w6 ⟨rfl, hb6⟩
        clear x0 x1 x2 x3 x4 x5
        have X6 := X5.low hb6
        have A6 := A5.low hb6
        have B6 := B5.trans (hb6.mono B5.size)
        clear X5 A5 B5 hb6
        have x0 := X6.cell 0 rfl
        have x1 := X6.cell 1 rfl
        have x2 := X6.cell 2 rfl
        have x3 := X6.cell 3 rfl
        have x4 := X6.cell 4 rfl
        have x5 := X6.cell 5 rfl
        have c0 := A6.cell 0 rfl
        have f0 := A6.froz 0 (by simp)
        have c1 := A6.cell 1 rfl
        have f1 := A6.froz 1 (by simp)
        have c2 := A6.cell 2 rfl
        have f2 := A6.froz 2 (by simp)
        have c3 := A6.cell 3 rfl
        have f3 := A6.froz 3 (by simp)
        have c4 := A6.cell 4 rfl
        have f4 := A6.froz 4 (by simp)
        have c5 := A6.cell 5 rfl
        have f5 := A6.froz 5 (by simp)
        have hz := A6.size
        have zx := X6.size
        by_cases hck : ck = 0
        · subst hck
          have HRR := Lib.hid (show Value.tuple #[.agg #[.string ⟨l0.toArray⟩, .string ⟨l1.toArray⟩, .int .u8 (k : Int), .string ⟨l3.toArray⟩, .string ⟨l4.toArray⟩, .int .i64 (n : Int)], .int .i64 0] = res by rw [← HR.out]; have h := HU.out; exact (if_pos (by simp; omega)).symm)
          go_wp2_with fail
          have A9 := ((((((A6.set 0 (by simp) (.string ⟨l0.toArray⟩)).set 1 (by simp) (.string ⟨l1.toArray⟩)).set 2 (by simp) (.int .u8 (k : Int))).set 3 (by simp) (.string ⟨l3.toArray⟩)).set 4 (by simp) (.string ⟨l4.toArray⟩)).set 5 (by simp) (.int .i64 (n : Int)))
          have B9 := ((((((B6.setCell (p := ⟨w.heap.size, 0, none⟩) (Nat.le_refl _) (.string ⟨l0.toArray⟩)).setCell (p := ⟨w.heap.size, 1, none⟩) (Nat.le_refl _) (.string ⟨l1.toArray⟩)).setCell (p := ⟨w.heap.size, 2, none⟩) (Nat.le_refl _) (.int .u8 (k : Int))).setCell (p := ⟨w.heap.size, 3, none⟩) (Nat.le_refl _) (.string ⟨l3.toArray⟩)).setCell (p := ⟨w.heap.size, 4, none⟩) (Nat.le_refl _) (.string ⟨l4.toArray⟩)).setCell (p := ⟨w.heap.size, 5, none⟩) (Nat.le_refl _) (.int .i64 (n : Int)))
          generalize ((((((w6.setCell ⟨w.heap.size, 0, none⟩ (.string ⟨l0.toArray⟩)).setCell ⟨w.heap.size, 1, none⟩ (.string ⟨l1.toArray⟩)).setCell ⟨w.heap.size, 2, none⟩ (.int .u8 (k : Int))).setCell ⟨w.heap.size, 3, none⟩ (.string ⟨l3.toArray⟩)).setCell ⟨w.heap.size, 4, none⟩ (.string ⟨l4.toArray⟩)).setCell ⟨w.heap.size, 5, none⟩ (.int .i64 (n : Int))) = w9 at *
          have d0 := A9.cell 0 rfl
          have d1 := A9.cell 1 rfl
          have d2 := A9.cell 2 rfl
          have d3 := A9.cell 3 rfl
          have d4 := A9.cell 4 rfl
          have d5 := A9.cell 5 rfl
          clear c0 c1 c2 c3 c4 c5 f0 f1 f2 f3 f4 f5
          refine bodyPost_ret (v := .tuple #[.agg #[.string ⟨l0.toArray⟩, .string ⟨l1.toArray⟩, .int .u8 (k : Int), .string ⟨l3.toArray⟩, .string ⟨l4.toArray⟩, .int .i64 (n : Int)], .int .i64 0]) (by simp [results, Tryd.f23, go_sem, d0, d1, d2, d3, d4, d5]) rfl ?_
          exact ⟨by rw [← HRR.out], B9⟩
        · have HRR := Lib.hid (show Value.tuple #[.agg #[.string ⟨#[]⟩, .string ⟨#[]⟩, .int .u8 0, .string ⟨#[]⟩, .string ⟨#[]⟩, .int .i64 0], .int .i64 6] = res by rw [← HR.out, if_neg (fun h => hck h.2.2)])
          have hc1 : ¬ ((ck : Int) = 0) := by omega
          have hc2 : ((ck : Int) == 0) = false := by simpa using hc1
          clear hck
          go_wp2_with fail
          have A9 := ((((((A6.set 0 (by simp) (.string ⟨#[]⟩)).set 1 (by simp) (.string ⟨#[]⟩)).set 2 (by simp) (.int .u8 0)).set 3 (by simp) (.string ⟨#[]⟩)).set 4 (by simp) (.string ⟨#[]⟩)).set 5 (by simp) (.int .i64 0))
          have B9 := ((((((B6.setCell (p := ⟨w.heap.size, 0, none⟩) (Nat.le_refl _) (.string ⟨#[]⟩)).setCell (p := ⟨w.heap.size, 1, none⟩) (Nat.le_refl _) (.string ⟨#[]⟩)).setCell (p := ⟨w.heap.size, 2, none⟩) (Nat.le_refl _) (.int .u8 0)).setCell (p := ⟨w.heap.size, 3, none⟩) (Nat.le_refl _) (.string ⟨#[]⟩)).setCell (p := ⟨w.heap.size, 4, none⟩) (Nat.le_refl _) (.string ⟨#[]⟩)).setCell (p := ⟨w.heap.size, 5, none⟩) (Nat.le_refl _) (.int .i64 0))
          generalize ((((((w6.setCell ⟨w.heap.size, 0, none⟩ (.string ⟨#[]⟩)).setCell ⟨w.heap.size, 1, none⟩ (.string ⟨#[]⟩)).setCell ⟨w.heap.size, 2, none⟩ (.int .u8 0)).setCell ⟨w.heap.size, 3, none⟩ (.string ⟨#[]⟩)).setCell ⟨w.heap.size, 4, none⟩ (.string ⟨#[]⟩)).setCell ⟨w.heap.size, 5, none⟩ (.int .i64 0)) = w9 at *
          have d0 := A9.cell 0 rfl
          have d1 := A9.cell 1 rfl
          have d2 := A9.cell 2 rfl
          have d3 := A9.cell 3 rfl
          have d4 := A9.cell 4 rfl
          have d5 := A9.cell 5 rfl
          clear c0 c1 c2 c3 c4 c5 f0 f1 f2 f3 f4 f5
          refine bodyPost_ret (v := .tuple #[.agg #[.string ⟨#[]⟩, .string ⟨#[]⟩, .int .u8 0, .string ⟨#[]⟩, .string ⟨#[]⟩, .int .i64 0], .int .i64 6]) (by simp [results, Tryd.f23, go_sem, d0, d1, d2, d3, d4, d5]) rfl ?_
          exact ⟨by rw [← HRR.out], B9⟩
  · have HRR := Lib.hid (show Value.tuple #[.agg #[.string ⟨#[]⟩, .string ⟨#[]⟩, .int .u8 0, .string ⟨#[]⟩, .string ⟨#[]⟩, .int .i64 0], .int .i64 6] = res by rw [← HR.out, if_neg (fun h => he3 h.1)])
    have he1 : ¬ ((e3 : Int) = 0) := by omega
    have he2 : ((e3 : Int) == 0) = false := by simpa using he1
    clear he3
    go_wp2_with fail
    have A9 := ((((((A2.set 0 (by simp) (.string ⟨#[]⟩)).set 1 (by simp) (.string ⟨#[]⟩)).set 2 (by simp) (.int .u8 0)).set 3 (by simp) (.string ⟨#[]⟩)).set 4 (by simp) (.string ⟨#[]⟩)).set 5 (by simp) (.int .i64 0))
    have B9 := ((((((B2.setCell (p := ⟨w.heap.size, 0, none⟩) (Nat.le_refl _) (.string ⟨#[]⟩)).setCell (p := ⟨w.heap.size, 1, none⟩) (Nat.le_refl _) (.string ⟨#[]⟩)).setCell (p := ⟨w.heap.size, 2, none⟩) (Nat.le_refl _) (.int .u8 0)).setCell (p := ⟨w.heap.size, 3, none⟩) (Nat.le_refl _) (.string ⟨#[]⟩)).setCell (p := ⟨w.heap.size, 4, none⟩) (Nat.le_refl _) (.string ⟨#[]⟩)).setCell (p := ⟨w.heap.size, 5, none⟩) (Nat.le_refl _) (.int .i64 0))
    generalize ((((((w2.setCell ⟨w.heap.size, 0, none⟩ (.string ⟨#[]⟩)).setCell ⟨w.heap.size, 1, none⟩ (.string ⟨#[]⟩)).setCell ⟨w.heap.size, 2, none⟩ (.int .u8 0)).setCell ⟨w.heap.size, 3, none⟩ (.string ⟨#[]⟩)).setCell ⟨w.heap.size, 4, none⟩ (.string ⟨#[]⟩)).setCell ⟨w.heap.size, 5, none⟩ (.int .i64 0)) = w9 at *
    have d0 := A9.cell 0 rfl
    have d1 := A9.cell 1 rfl
    have d2 := A9.cell 2 rfl
    have d3 := A9.cell 3 rfl
    have d4 := A9.cell 4 rfl
    have d5 := A9.cell 5 rfl
    clear c0 c1 c2 c3 c4 c5 f0 f1 f2 f3 f4 f5
    refine bodyPost_ret (v := .tuple #[.agg #[.string ⟨#[]⟩, .string ⟨#[]⟩, .int .u8 0, .string ⟨#[]⟩, .string ⟨#[]⟩, .int .i64 0], .int .i64 6]) (by simp [results, Tryd.f23, go_sem, d0, d1, d2, d3, d4, d5]) rfl ?_
    exact ⟨by rw [← HRR.out], B9⟩


theorem evV_zero : evV zeroE = .agg #[.string ⟨#[]⟩, .string ⟨#[]⟩, .int .u8 0, .string ⟨#[]⟩, .string ⟨#[]⟩, .int .i64 0] := rfl

theorem eparse_any (s : List UInt8) (hs : s.length ≤ maxLen) (w : World) (hV : Vars w) (hW : Words w) :
    Calls Tryd.prog 23 #[.string ⟨s.toArray⟩] w fun e w' => e = .returned (.tuple #[evV (parseE s).1, .int .i64 ((parseE s).2 : Int)]) ∧ Below w.heap.size w w' := by
  have HA : ∀ w', Calls Tryd.prog 11 #[.string ⟨s.toArray⟩] w' fun e w'' => ∃ v, e = .returned (.tuple #[v, .int .i64 ((allR s).2 : Int)]) ∧ StrRow w'' v (allR s).1 ∧ Below w'.heap.size w' w'' := fun w' => by
    refine (all_any s hs w').mono ?_
    rintro e w'' ⟨v, h1, h2, h3⟩
    exact ⟨v, h1, h2.row, h3⟩
  rw [parseE]
  by_cases h0 : (allR s).2 = 0
  · by_cases h6 : (allR s).1.length = 6
    · rw [if_neg (by simp [h0, h6])]
      have hsh := all_short s h0
      rw [h0] at HA
      generalize (allR s).1 = ls at *
      obtain ⟨l0, l1, l2, l3, l4, l5, rfl⟩ : ∃ a b c d e f, ls = [a, b, c, d, e, f] := by
        match ls, h6 with
        | [a, b, c, d, e, f], _ => exact ⟨a, b, c, d, e, f, rfl⟩
      have q0 := hsh l0 (by simp)
      have q1 := hsh l1 (by simp)
      have q3 := hsh l3 (by simp)
      have q4 := hsh l4 (by simp)
      obtain ⟨n, u, e3, hg, hg0, hg1⟩ := getNum_spec l5
      have hn : n ≤ 281474976710656 := by
        by_cases h : e3 = 0
        · exact (hg0 h).1
        · rw [(hg1 h).1]; exact Nat.zero_le _
      have hmade : madeE [l0, l1, l2, l3, l4, l5] = ⟨l0, l1, kindW l2, l3, l4, ((n : Nat) : Int)⟩ := by
        show (⟨l0, l1, kindW l2, l3, l4, ((getNum l5).1 : Int)⟩ : Ev) = _
        rw [hg]
      refine eparse_six s l0 l1 l2 l3 l4 l5 n u e3 (kindW l2) (checkE (madeE [l0, l1, l2, l3, l4, l5])) hn w (Lib.hid HA) (Lib.hid fun w' => ?_) (Lib.hid fun w' hb => kind_word l2 w' (hW.low hb)) (Lib.hid fun w' hb => ?_) _ (Lib.hid ?_)
      · have h := getNum_any l5 w'
        rw [hg] at h
        exact h
      · rw [hmade]
        exact check_any ⟨l0, l1, kindW l2, l3, l4, (n : Int)⟩ ⟨by show l0.length ≤ _; omega, by show l1.length ≤ _; omega, by show l3.length ≤ _; omega, by show l4.length ≤ _; omega⟩ w' (hV.low hb)
      · rw [show ([l0, l1, l2, l3, l4, l5].getD 5 []) = l5 from rfl, hg, hmade]
        simp only [Nat.not_lt]
        by_cases g1 : e3 = 0
        · by_cases g2 : u < l5.length
          · rw [if_neg (by omega), if_pos (.inr g2)]; rfl
          · by_cases g3 : checkE ⟨l0, l1, kindW l2, l3, l4, (n : Int)⟩ = 0
            · rw [if_pos ⟨g1, by omega, g3⟩, if_neg (by omega), if_neg (by simp [g3])]; rfl
            · rw [if_neg (fun h => g3 h.2.2), if_neg (by omega), if_pos g3]; rfl
        · rw [if_neg (fun h => g1 h.1), if_pos (.inl g1)]; rfl
    · rw [if_pos (.inr h6)]
      exact eparse_len s _ h6 _ h0 w (Lib.hid HA)
  · rw [if_pos (.inl h0)]
    exact eparse_err s _ _ h0 w (Lib.hid HA)

end Named
end Go.Proofs.YtbgjoefpnjgdkaaDoor
