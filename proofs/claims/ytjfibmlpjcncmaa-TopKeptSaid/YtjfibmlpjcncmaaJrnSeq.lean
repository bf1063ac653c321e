/- The iterator behind journal.records: its contract. -/
import Derived.Test.YtjfibmlpjcncmaaOctSeq
import Derived.Test.YtjfibmlpjcncmaaJrnPlain
namespace Go.Proofs.Ytjfibmlpjcncmaa
open Go.RowKit Go.Shelf
set_option linter.unusedVariables false
set_option linter.unusedSimpArgs false
set_option maxRecDepth 100000
attribute [local go_sem] Oper.semAt_some
namespace Jrn
open Oct Crc

abbrev encRc (x : Nat × List UInt8) : Array Value := #[.int .i64 (x.1 : Int), .string ⟨x.2.toArray⟩]

theorem recs_step (at_ : Nat) (l : List UInt8) (h : at_ ≤ l.length) : recs (l.length + 1) at_ l = match step (l.drop at_) with
    | none => []
    | some (t, k) => (at_ + k, t) :: recs (l.length + 1) (at_ + k) l := by
  rw [recs]
  cases hs : step (l.drop at_) with
  | none => rfl
  | some x =>
    obtain ⟨t, k⟩ := x
    have := step_length _ _ _ hs
    dsimp only
    rw [recs_fuel l.length (l.length + 1) (at_ + k) l (by omega) (by omega)]

set_option maxHeartbeats 1000000 in
theorem records_in (F : Fence) (n : Nat) (hF : F.fn 60) (hro : F.round = none) (l : List UInt8) (w : World) :
    CallsIn F n Try.prog 60 #[.string ⟨l.toArray⟩] w fun e w' => e = .returned (.func (.func 75) #[] #[.pointer (some ⟨w.heap.size, 0, none⟩)]) ∧ w' = w.alloc (.cells #[.string ⟨l.toArray⟩] 9) := by
  refine callsIn_of_wp Try.func60 rfl hF ?_ hro
  simp only [Try.ntmps60, List.size_toArray, List.length_cons, List.length_nil, Nat.reduceAdd, Nat.reduceSub, Array.replicate_succ, Array.replicate_zero, List.push_toArray, List.append_toArray, List.nil_append, List.cons_append]
  gi_wp2
  go_ret
  exact ⟨rfl, rfl⟩

set_option maxHeartbeats 1000000 in
theorem records1_in (n : Nat) (hn : 3 ≤ n) (lp Bn : Nat) (l : List UInt8) (hl : (l.length : Int) ≤ 2097152) (J Jx : List (Nat × List UInt8) → World → Prop)
    (hY : ∀ pre x W, J pre W → pre.length < (recs (l.length + 1) 0 l).length → YieldAt Fence.wide (n - 1) Try.prog lp (encRc x) W fun e W' =>
      (e = .returned (.bool true) ∧ J (pre ++ [x]) W' ∧ W'.cell? ⟨Bn, 0, none⟩ = W.cell? ⟨Bn, 0, none⟩) ∨ (e = .returned (.bool false) ∧ Jx (pre ++ [x]) W'))
    (W : World) (hBn : W.cell? ⟨Bn, 0, none⟩ = some (.string ⟨l.toArray⟩)) (h0 : J [] W) :
    CallsIn Fence.wide n Try.prog 75 #[.func (.yield lp) #[] #[], .pointer (some ⟨Bn, 0, none⟩)] W fun e W' => (∃ v, e = .returned v) ∧
      ((∃ ys, ys = recs (l.length + 1) 0 l ∧ J ys W') ∨ (∃ pre, pre <+: recs (l.length + 1) 0 l ∧ Jx pre W')) := by
  refine callsIn_of_wp Try.func75 rfl trivial ?_ rfl
  simp only [Try.ntmps75, List.size_toArray, List.length_cons, List.length_nil, Nat.reduceAdd, Nat.reduceSub, Array.replicate_succ, Array.replicate_zero, List.push_toArray, List.append_toArray, List.nil_append, List.cons_append]
  gi_wp2
  gi_loopw [3] (fun a wr => ∃ (at_ : Nat) (pre : List (Nat × List UInt8)), at_ ≤ l.length ∧ a = .int .i64 (at_ : Int) ∧ Hid (pre ++ recs (l.length + 1) at_ l = recs (l.length + 1) 0 l) ∧ wr.cell? ⟨Bn, 0, none⟩ = some (.string ⟨l.toArray⟩) ∧ J pre wr)
    (fun a _ => l.length - (intOf a).toNat)
  case atStart =>
    exact ⟨0, [], by omega, rfl, Lib.hid rfl, hBn, h0⟩
  case round =>
    obtain ⟨at_, pre, hat, rfl, HG, hB, hJ⟩ := hrel
    have hati : (at_ : Int) ≤ (l.length : Int) := by omega
    obtain ⟨t, u, e, hgt, h3, h4, h5⟩ := getText_spec (l.drop at_)
    have hx := ext_drop l at_
    have HS : Hid (step (l.drop at_) = if e ≠ 0 then none else if (l.drop at_).length < u + 4 then none else if good ((l.drop at_).take (u + 4)) = true then some (t, u + 4) else none) := Lib.hid (by rw [step, hgt])
    have HR := Lib.hid (recs_step at_ l hat)
    have hct := fun w => getText_any (l.drop at_) (by rw [List.length_drop]; unfold maxLen; omega) w
    rw [hgt] at hct
    have hu : u ≤ 8199 := by
      by_cases he : e = 0
      · exact (h3 he).2.2.2
      · rw [(h4 he).1]; omega
    have hxt : (⟨l.toArray⟩ : ByteArray).extract at_ (at_ + u + 4) = ⟨((l.drop at_).take (u + 4)).toArray⟩ := by rw [Nat.add_assoc]; exact ext_take l at_ (u + 4)
    clear hgt h3 h4
    gi_wp2_with fail
    refine ⟨trivial, fun _ => by omega, (callsIn_wide.2 (hct _)).mono ?_⟩
    rintro e1 w2 ⟨rfl, rfl⟩
    clear hct
    have hs := HS.out
    by_cases he : e = 0
    · subst he
      rw [if_neg (by simp)] at hs
      by_cases hlen : (l.drop at_).length < u + 4
      · rw [if_pos hlen] at hs
        rw [List.length_drop] at hlen
        have hr := HR.out
        rw [hs] at hr
        have hg := HG.out
        rw [hr, List.append_nil] at hg
        have HG2 := Lib.hid hg
        have hend : (l.length : Int) < (at_ : Int) + (u : Int) + 4 := by omega
        clear hs hr hg HS HR HG hlen
        gi_wp2
        refine ⟨trivial, ?_⟩
        gi_wp2
        refine bodyPost_ret (results_none rfl _ _ _) rfl ?_
        exact ⟨⟨_, rfl⟩, .inl ⟨_, HG2.out, hJ⟩⟩
      · rw [if_neg hlen] at hs
        rw [List.length_drop] at hlen
        have hend : (at_ : Int) + (u : Int) + 4 ≤ (l.length : Int) := by omega
        have hs1 : (0 : Int) ≤ (at_ : Int) := by omega
        have hs2 : (at_ : Int) ≤ (at_ : Int) + (u : Int) + 4 := by omega
        have hgd := fun w => good_any ⟨((l.drop at_).take (u + 4)).toArray⟩ w (by simp [ByteArray.size]; omega)
        by_cases hgood : good ((l.drop at_).take (u + 4)) = true
        · rw [if_pos hgood] at hs
          have hr := HR.out
          rw [hs] at hr
          have hg := HG.out
          rw [hr] at hg
          have HG2 := Lib.hid hg
          have hgd' : ∀ w, Calls Try.prog 76 #[.string ⟨((l.drop at_).take (u + 4)).toArray⟩] w fun e w' => e = .returned (.bool true) ∧ w = w' := by
            intro w; have := hgd w; simp only [hgood] at this; exact this
          clear hs hr hg HS HR HG hlen hgd
          gi_wp2_with fail
          refine ⟨trivial, fun _ => by omega, (callsIn_wide.2 (hgd' _)).mono ?_⟩
          rintro e1 w3 ⟨rfl, rfl⟩
          clear hgd'
          have hlt : pre.length < (recs (l.length + 1) 0 l).length := by rw [← HG2.out]; simp
          obtain ⟨fn, tmps, assign, body, hy, hR⟩ := hY pre (at_ + (u + 4), t) wr hJ hlt
          dsimp only [encRc] at hy
          rw [show ((at_ + (u + 4) : Nat) : Int) = (at_ : Int) + (u : Int) + 4 by omega] at hy
          gi_wp2
          refine ⟨fun _ => by omega, hR.mono ?_⟩
          rintro e W3 (⟨rfl, hJ3, hk3⟩ | ⟨rfl, hJx3⟩)
          · have hB3 : W3.cell? ⟨Bn, 0, none⟩ = some (.string ⟨l.toArray⟩) := hk3.trans hB
            gi_wp2
            go_roundw
            case rel => exact ⟨at_ + (u + 4), pre ++ [(at_ + (u + 4), t)], by omega, by go_num, Lib.hid (by rw [← HG2.out]; simp), hB3, hJ3⟩
            case measure => simp [intOf]; omega
          · gi_wp2
            refine bodyPost_ret (results_none rfl _ _ _) rfl ?_
            refine ⟨⟨_, rfl⟩, .inr ⟨_, ?_, hJx3⟩⟩
            rw [← HG2.out]
            exact ⟨recs (l.length + 1) (at_ + (u + 4)) l, by simp⟩
        · rw [if_neg hgood] at hs
          have hr := HR.out
          rw [hs] at hr
          have hg := HG.out
          rw [hr, List.append_nil] at hg
          have HG2 := Lib.hid hg
          have hgd' : ∀ w, Calls Try.prog 76 #[.string ⟨((l.drop at_).take (u + 4)).toArray⟩] w fun e w' => e = .returned (.bool false) ∧ w = w' := by
            intro w; have := hgd w; simp only [Bool.eq_false_iff.2 hgood] at this; exact this
          clear hs hr hg HS HR HG hlen hgd
          gi_wp2_with fail
          refine ⟨trivial, fun _ => by omega, (callsIn_wide.2 (hgd' _)).mono ?_⟩
          rintro e1 w3 ⟨rfl, rfl⟩
          clear hgd'
          gi_wp2
          refine bodyPost_ret (results_none rfl _ _ _) rfl ?_
          exact ⟨⟨_, rfl⟩, .inl ⟨_, HG2.out, hJ⟩⟩
    · rw [if_pos he] at hs
      have hr := HR.out
      rw [hs] at hr
      have hg := HG.out
      rw [hr, List.append_nil] at hg
      have HG2 := Lib.hid hg
      have hei : ¬ (e : Int) = 0 := by omega
      clear hs hr hg HS HR HG
      gi_wp2
      refine ⟨trivial, ?_⟩
      gi_wp2
      refine bodyPost_ret (results_none rfl _ _ _) rfl ?_
      exact ⟨⟨_, rfl⟩, .inl ⟨_, HG2.out, hJ⟩⟩

theorem records_stops (n : Nat) (hn : 3 ≤ n) (Bn : Nat) (l : List UInt8) (hl : (l.length : Int) ≤ 2097152) (w : World) (hB : Bn < w.heap.size) (hc1 : w.cell? ⟨Bn, 0, none⟩ = some (.string ⟨l.toArray⟩)) :
    SeqStopsK Fence.wide n Try.prog 75 #[.pointer (some ⟨Bn, 0, none⟩)] encRc (fun A B => B.cell? ⟨Bn, 0, none⟩ = A.cell? ⟨Bn, 0, none⟩) (fun ys => ys = recs (l.length + 1) 0 l) (fun pre => pre <+: recs (l.length + 1) 0 l) (recs (l.length + 1) 0 l).length w := fun lp J Jx W hW _ _ hY h0 =>
  records1_in n hn lp Bn l hl J Jx hY W ((hW.cell (p := ⟨Bn, 0, none⟩) hB).trans hc1) h0
end Jrn
end Go.Proofs.Ytjfibmlpjcncmaa
