/- The walk of store.Compact. -/
import Derived.Test.YtjfibmlpjcncmaaStoPlain
import Derived.Test.YtjfibmlpjcncmaaStoRestart
namespace Go.Proofs.Ytjfibmlpjcncmaa
open Go.RowKit
set_option linter.unusedVariables false
set_option linter.unusedSimpArgs false
set_option maxRecDepth 4000
attribute [local go_sem ↓] Go.wp_at_zero Go.wp_at_succ
namespace Sto
open Oct Crc Disk Jrn

/-- what Compact gives -/
def compR (D : ByteArray) (S R : Int) : Res :=
  if rightB D S R then (if (loadR D.data.toList).2.2 ≠ 0 then ⟨D, S, R, (loadR D.data.toList).2.2⟩ else swapR D S R ⟨(anewL (loadR D.data.toList).1 (loadR D.data.toList).2.1).toArray⟩) else Disk.zero 2

theorem loadR_length (l : List UInt8) : 5 * (loadR l).1.length ≤ l.length := by
  have key : ∀ (rs : List (List UInt8)) es0 c0 es c, loadF rs es0 c0 = some (es, c) → es.length ≤ es0.length + rs.length := by
    intro rs
    induction rs with
    | nil => intro es0 c0 es c h; simp only [loadF, Option.some.injEq, Prod.mk.injEq] at h; obtain ⟨rfl, -⟩ := h; simp
    | cons r rs ih =>
      intro es0 c0 es c h
      rw [loadF] at h
      cases hk : takeR es0 c0 r with
      | none => rw [hk] at h; cases h
      | some x =>
        obtain ⟨es1, c1⟩ := x
        rw [hk] at h
        have h1 := ih _ _ _ _ h
        have h2 : es1.length ≤ es0.length + 1 := by
          unfold takeR at hk
          split at hk
          · cases hk
          · split at hk
            · split at hk
              · cases hk; simp
              · split at hk
                · split at hk
                  · cases hk
                  · split at hk
                    · cases hk
                    · split at hk
                      · cases hk
                      · cases hk; omega
                · cases hk
            · cases hk
        simp only [List.length_cons]; omega
  have hcnt : 5 * (readR l).1.length ≤ l.length := by
    have := recs_length (l.length + 1) 0 l (by omega)
    simp only [readR, List.length_map]
    omega
  unfold loadR
  split
  · simp
  · rename_i es c h
    have := key _ _ _ _ _ h
    simp at this ⊢; omega

theorem _root_.Go.Proofs.Ytjfibmlpjcncmaa.Disk.Two.below' {n : Nat} {w w' : World} {a b c d e f : Value} (h : Two n w a b c d e f) (hb : Below w.heap.size w w') : Two n w' a b c d e f := h.below hb

set_option maxHeartbeats 4000000 in
theorem compact_any (D : ByteArray) (S R : Int) (hD : (D.size : Int) ≤ 2097152) (w : World) :
    Calls Try.prog 48 #[.agg #[.string D, .int .i64 S, .int .i64 R]] w fun e w' => e = .returned (.tuple #[.agg #[.string (compR D S R).d, .int .i64 (compR D S R).s, .int .i64 (compR D S R).r], .int .i64 (compR D S R).e]) ∧ Below w.heap.size w w' := by
  have c1 := fun w => Disk.check_any D S R w
  unfold chkE at c1
  unfold compR
  by_cases hr : rightB D S R = true
  · rw [if_pos hr]
    rw [if_pos hr] at c1
    obtain ⟨l, rfl, hl⟩ := Jrn.bytes_of D
    have hll : (l.length : Int) ≤ 2097152 := by rw [hl]; exact hD
    have c2 := fun w => load_any l hll w
    have hsp := loadR_spec l
    have hln := loadR_length l
    dsimp only
    generalize loadR l = q at *
    obtain ⟨es, c, er⟩ := q
    dsimp only at c2 hln ⊢
    have hes : es.length ≤ 500000 := by omega
    have HES := Lib.hid hes
    clear hl hll hD hln hes hr
    by_cases he : er = 0
    · subst he
      rw [if_neg (by simp)]
      have hc := (hsp es c rfl).2.2.1
      have c4 := fun w => swap_any ⟨l.toArray⟩ S R ⟨(anewL es c).toArray⟩ w
      have c3 := fun v w h => anew_any es c v w h HES.out (by omega)
      clear hsp hc
      generalize swapR ⟨l.toArray⟩ S R ⟨(anewL es c).toArray⟩ = r at *
      generalize anewL es c = x at *
      go_enter Try.func48, Try.ntmps48
      go_wp2_with fail
      refine (c1 _).mono ?_
      rintro e w1 ⟨rfl, hb⟩
      have T := (Two.made w _ _ _ _ _ _ _ _).below hb
      have B : Below w.heap.size w w1 := (((Below.refl _ _).alloc (Nat.le_refl _) _).alloc (by simp) _).trans (hb.mono (by simp <;> omega))
      have TT := T
      obtain ⟨hz, a0, a1, a2, b0, b1, b2, fa0, fa1, fa2, fb0, fb1, fb2⟩ := T
      clear hb c1
      go_wp2_with fail
      refine (c2 _).mono ?_
      rintro e w2 ⟨v, rfl, o, hb⟩
      have T := TT.below hb
      replace B := B.trans (hb.mono B.size)
      obtain ⟨pv, cv, rfl⟩ := own_of o
      have RV := o.row
      clear hz a0 a1 a2 b0 b1 b2 fa0 fa1 fa2 fb0 fb1 fb2 hb TT c2 o
      have TT := T
      obtain ⟨hz, a0, a1, a2, b0, b1, b2, fa0, fa1, fa2, fb0, fb1, fb2⟩ := T
      go_wp2_with fail
      have hA := low_al w2 (.cells #[.slice pv es.length cv, .int .i64 (c : Int)] 61)
      have PS := Pair.made w2 (.slice pv es.length cv) (.int .i64 (c : Int)) 61
      have T2 := TT.below hA
      have R2 := RV.below rfl hA
      have B2 := B.trans (hA.mono B.size)
      obtain ⟨n2, hn⟩ : ∃ x, x = w2.heap.size := ⟨_, rfl⟩
      rw [← hn] at PS ⊢
      have T2' := Lib.hid T2
      have R2' := Lib.hid R2
      have PS' := Lib.hid PS
      have B2' := Lib.hid B2
      have hzn : w.heap.size + 1 < n2 := by rw [hn]; exact hz
      generalize w2.alloc (.cells #[.slice pv es.length cv, .int .i64 (c : Int)] 61) = W at *
      clear hz a0 a1 a2 b0 b1 b2 fa0 fa1 fa2 fb0 fb1 fb2 TT RV B hA hn R2 B2
      obtain ⟨hz, a0, a1, a2, b0, b1, b2, fa0, fa1, fa2, fb0, fb1, fb2⟩ := T2
      obtain ⟨sz, s0, s1, sf, sg⟩ := PS
      have hne1 : ¬ n2 = w.heap.size + 1 := by omega
      have hne2 : ¬ w.heap.size + 1 = n2 := by omega
      go_region_held3 (fun w' => w'.cell? ⟨w.heap.size, 0, none⟩ = some (.string ⟨l.toArray⟩) ∧ w'.cell? ⟨w.heap.size, 1, none⟩ = some (.int .i64 S) ∧ w'.cell? ⟨w.heap.size, 2, none⟩ = some (.int .i64 R) ∧ w'.cell? ⟨n2, 0, none⟩ = some (.slice pv es.length cv) ∧ w'.cell? ⟨n2, 1, none⟩ = some (.int .i64 (c : Int)))
        (go_keep)
        (first
          | ((go_at_call 71; refine (c3 _ _ (show StrRow W.drew _ es from R2'.out)).mono ?_; rintro e w3 ⟨rfl, hb⟩; have T3 := T2'.out.drew.below hb; have P3 := PS'.out.drew.below' hb; have B3 := Lib.hid (B2'.out.drew.trans (hb.mono B2'.out.size)); have T3' := Lib.hid T3; have P3' := Lib.hid P3; clear hz a0 a1 a2 b0 b1 b2 fa0 fa1 fa2 fb0 fb1 fb2 sz s0 s1 sf sg hb c3; obtain ⟨hz, a0, a1, a2, b0, b1, b2, fa0, fa1, fa2, fb0, fb1, fb2⟩ := T3; obtain ⟨sz, s0, s1, sf, sg⟩ := P3))
          | ((go_at_call 65; refine (c4 _).mono ?_; rintro e w4 ⟨rfl, hb⟩; have T4 := T3'.out.below hb; have P4 := P3'.out.below' hb; have B4 := Lib.hid (B3.out.trans (hb.mono B3.out.size)); clear hz a0 a1 a2 b0 b1 b2 fa0 fa1 fa2 fb0 fb1 fb2 sz s0 s1 sf sg hb c4; obtain ⟨hz, a0, a1, a2, b0, b1, b2, fa0, fa1, fa2, fb0, fb1, fb2⟩ := T4; obtain ⟨sz, s0, s1, sf, sg⟩ := P4)))
      go_wp2
      exact bodyPost_ret (v := .tuple #[.agg #[.string r.d, .int .i64 r.s, .int .i64 r.r], .int .i64 r.e]) (by simp [results, Try.results48, go_sem, *]) rfl ⟨rfl, by repeat' (first | (with_reducible exact B4.out) | (with_reducible refine Below.setCell ?_ ?_ _) | (with_reducible refine Below.alloc ?_ ?_ _) | (with_reducible refine Below.drew ?_) | (simp; done) | (simp; omega) | omega)⟩
    · rw [if_pos he]
      clear hsp
      have hei : ¬ (er : Int) = 0 := by omega
      go_enter Try.func48, Try.ntmps48
      go_wp2_with fail
      refine (c1 _).mono ?_
      rintro e w1 ⟨rfl, hb⟩
      have T := (Two.made w _ _ _ _ _ _ _ _).below hb
      have B : Below w.heap.size w w1 := (((Below.refl _ _).alloc (Nat.le_refl _) _).alloc (by simp) _).trans (hb.mono (by simp <;> omega))
      have TT := T
      obtain ⟨hz, a0, a1, a2, b0, b1, b2, fa0, fa1, fa2, fb0, fb1, fb2⟩ := T
      clear hb c1
      go_wp2_with fail
      refine (c2 _).mono ?_
      rintro e w2 ⟨v, rfl, o, hb⟩
      have T := TT.below hb
      replace B := B.trans (hb.mono B.size)
      obtain ⟨pv, cv, rfl⟩ := own_of o
      clear hz a0 a1 a2 b0 b1 b2 fa0 fa1 fa2 fb0 fb1 fb2 hb TT c2 o
      have T2 := T.below (low_al w2 (.cells #[.slice pv es.length cv, .int .i64 (c : Int)] 61))
      obtain ⟨hz, a0, a1, a2, b0, b1, b2, fa0, fa1, fa2, fb0, fb1, fb2⟩ := T
      obtain ⟨yz, c0, c1, c2, d0, d1, d2, ga0, ga1, ga2, gb0, gb1, gb2⟩ := T2
      have hBz := B.size
      go_wp2_with fail
      exact bodyPost_ret (v := .tuple #[.agg #[.string ⟨l.toArray⟩, .int .i64 S, .int .i64 R], .int .i64 (er : Int)]) (by simp [results, Try.results48, go_sem, *]) rfl ⟨rfl, by repeat' (first | (with_reducible exact B) | (with_reducible refine Below.setCell ?_ ?_ _) | (with_reducible refine Below.alloc ?_ ?_ _) | (with_reducible refine Below.drew ?_) | (simp; done) | (simp; omega) | omega)⟩
  · rw [if_neg hr]
    rw [if_neg hr] at c1
    simp only [Disk.zero]
    clear hD
    go_enter Try.func48, Try.ntmps48
    go_wp2_with fail
    refine (c1 _).mono ?_
    rintro e w1 ⟨rfl, hb⟩
    have T := (Two.made w _ _ _ _ _ _ _ _).below hb
    have B : Below w.heap.size w w1 := (((Below.refl _ _).alloc (Nat.le_refl _) _).alloc (by simp) _).trans (hb.mono (by simp <;> omega))
    obtain ⟨hz, a0, a1, a2, b0, b1, b2, fa0, fa1, fa2, fb0, fb1, fb2⟩ := T
    clear hb c1
    go_wp2_with fail
    exact bodyPost_ret (v := .tuple #[.agg #[.string ⟨#[]⟩, .int .i64 0, .int .i64 0], .int .i64 2]) (by simp [results, Try.results48, go_sem, *]) rfl ⟨rfl, by repeat' (first | (with_reducible exact B) | (with_reducible refine Below.setCell ?_ ?_ _) | (with_reducible refine Below.alloc ?_ ?_ _) | (with_reducible refine Below.drew ?_) | (simp; done) | (simp; omega) | omega)⟩
end Sto
end Go.Proofs.Ytjfibmlpjcncmaa
