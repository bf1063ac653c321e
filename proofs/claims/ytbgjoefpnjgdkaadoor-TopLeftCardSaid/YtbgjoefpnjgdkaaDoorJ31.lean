/- Joined of 2 texts: their lemmas, one behind the other; each says below what it holds. -/
import Derived.Test.YtbgjoefpnjgdkaaDoorEventCheck
import Derived.Test.YtbgjoefpnjgdkaaDoorLeftRow
import Derived.Test.YtbgjoefpnjgdkaaDoorLeftOrder
/- event.State, state.right. -/
namespace Go.Proofs.YtbgjoefpnjgdkaaDoor
open Go.RowKit
set_option linter.unusedVariables false
set_option linter.unusedSimpArgs false
set_option maxRecDepth 100000
namespace Left
open Named
theorem state_any (k : Nat) (w : World) : Calls Tryd.prog 123 #[.int .u8 (k : Int)] w fun e w' => e = .returned (.bool (stateB k)) ∧ w' = w := by
  by_cases h6 : k = 6
  · subst h6
    go_enter Tryd.func123, Tryd.ntmps123
    go_wp2_with fail
    go_ret
    exact ⟨rfl, rfl⟩
  · by_cases h7 : k = 7
    · subst h7
      go_enter Tryd.func123, Tryd.ntmps123
      go_wp2_with fail
      go_ret
      exact ⟨rfl, rfl⟩
    · have HR := Lib.hid (show stateB k = decide (0 < k ∧ k < 9) by unfold stateB; simp [h6, h7])
      have i6 : ¬ (k : Int) = 6 := by omega
      have i7 : ¬ (k : Int) = 7 := by omega
      have d6 : ((k : Int) == 6) = false := by simpa using i6
      have d7 : ((k : Int) == 7) = false := by simpa using i7
      have HK := Lib.hid (fun w => known_any k w)
      generalize decide (0 < k ∧ k < 9) = b at *
      clear h6 h7
      go_enter Tryd.func123, Tryd.ntmps123
      go_wp2_with (go_at_call 65; refine (HK.out _).mono ?_; rintro e w' ⟨rfl, rfl⟩)
      go_ret
      exact ⟨by rw [HR.out]; rfl, rfl⟩
set_option maxHeartbeats 2000000 in
theorem right_in (room sender key body : List UInt8) (kind : Nat) (nonce : Int) (b1 : Bool) (c : Nat) (w : World)
    (HS : Hid (∀ w', Calls Tryd.prog 123 #[.int .u8 (kind : Int)] w' fun e w'' => e = .returned (.bool b1) ∧ w'' = w'))
    (HC : Hid (∀ w', Below w.heap.size w w' → Calls Tryd.prog 24 #[.agg #[.string ⟨room.toArray⟩, .string ⟨sender.toArray⟩, .int .u8 (kind : Int), .string ⟨key.toArray⟩, .string ⟨body.toArray⟩, .int .i64 nonce]] w' fun e w'' => e = .returned (.int .i64 (c : Int)) ∧ Below w'.heap.size w' w'')) :
    Calls Tryd.prog 84 #[.agg #[.int .u8 (kind : Int), .string ⟨key.toArray⟩, .string ⟨room.toArray⟩, .string ⟨sender.toArray⟩, .int .u8 (kind : Int), .string ⟨key.toArray⟩, .string ⟨body.toArray⟩, .int .i64 nonce]] w fun e w' => e = .returned (.bool (b1 && decide (c = 0))) ∧ Below w.heap.size w w' := by
  have A0 := Blk.new w #[.int .u8 (kind : Int), .string ⟨key.toArray⟩, .string ⟨room.toArray⟩, .string ⟨sender.toArray⟩, .int .u8 (kind : Int), .string ⟨key.toArray⟩, .string ⟨body.toArray⟩, .int .i64 nonce] 91
  have B0 := (Below.refl w.heap.size w).alloc (Nat.le_refl _) (.cells #[.int .u8 (kind : Int), .string ⟨key.toArray⟩, .string ⟨room.toArray⟩, .string ⟨sender.toArray⟩, .int .u8 (kind : Int), .string ⟨key.toArray⟩, .string ⟨body.toArray⟩, .int .i64 nonce] 91)
  go_enter Tryd.func84, Tryd.ntmps84
  go_wp2_with fail
  refine (HS.out _).mono ?_
  rintro e w1 ⟨rfl, rfl⟩
  cases b1
  · go_wp2_with fail
    go_ret
    exact ⟨rfl, B0⟩
  · generalize w.alloc (.cells #[.int .u8 (kind : Int), .string ⟨key.toArray⟩, .string ⟨room.toArray⟩, .string ⟨sender.toArray⟩, .int .u8 (kind : Int), .string ⟨key.toArray⟩, .string ⟨body.toArray⟩, .int .i64 nonce] 91) = w1 at *
    have c0 := A0.cell 0 rfl
    have c1 := A0.cell 1 rfl
    have c2 := A0.cell 2 rfl
    have c3 := A0.cell 3 rfl
    have c4 := A0.cell 4 rfl
    have c5 := A0.cell 5 rfl
    have c6 := A0.cell 6 rfl
    have c7 := A0.cell 7 rfl
    go_wp2_with fail
    refine (HC.out _ B0).mono ?_
    rintro e w2 ⟨rfl, hb⟩
    have A0 := A0.low hb
    have B2 := B0.trans (hb.mono B0.size)
    clear hb c0 c1 c2 c3 c4 c5 c6 c7
    have c0 := A0.cell 0 rfl
    have c1 := A0.cell 1 rfl
    have c2 := A0.cell 2 rfl
    have c3 := A0.cell 3 rfl
    have c4 := A0.cell 4 rfl
    have c5 := A0.cell 5 rfl
    have c6 := A0.cell 6 rfl
    have c7 := A0.cell 7 rfl
    by_cases hc : c = 0
    · subst hc
      have hk : ((kind : Int) == (kind : Int)) = true := by simp
      have hy : (key == key) = true := by simp
      go_wp2_with fail
      go_ret
      exact ⟨by simp, B2⟩
    · have hci : ¬ (c : Int) = 0 := by omega
      have hcd : ((c : Int) == 0) = false := by simpa using hci
      have HR := Lib.hid (show decide (c = 0) = false by simpa using hc)
      clear hc
      go_wp2_with fail
      go_ret
      exact ⟨by rw [HR.out]; rfl, B2⟩
theorem right_any (e : Ev) (hf : Fits e) (w : World) (hV : Vars w) : Calls Tryd.prog 84 #[.agg (cellL e).toArray] w fun r w' => r = .returned (.bool (rightB e)) ∧ Below w.heap.size w w' :=
  right_in e.room e.sender e.key e.body e.kind e.nonce _ _ w (Lib.hid (fun w' => state_any e.kind w')) (Lib.hid (fun w' hb => check_any e hf w' (hV.low hb)))
end Left
end Go.Proofs.YtbgjoefpnjgdkaaDoor
/- state.Check of a right state. -/
namespace Go.Proofs.YtbgjoefpnjgdkaaDoor
open Go.RowKit
set_option linter.unusedVariables false
set_option linter.unusedSimpArgs false
set_option maxRecDepth 100000
namespace Left
open Named
set_option maxHeartbeats 8000000 in
theorem check_good (v : Value) (es : List Ev) (w : World) (hr : CRow w v es) (hg : Good es) (hl : es.length ≤ 256) (hf : ∀ e ∈ es, Fits e) (hV : Vars w) :
    Calls Tryd.prog 35 #[v] w fun e w' => e = .returned (.int .i64 0) ∧ Below w.heap.size w w' := by
  obtain ⟨p, cap, rfl⟩ := hr.form
  have HR := Lib.hid hr
  have HRI := Lib.hid (fun (e : Ev) (he : e ∈ es) (w' : World) (hb : Below w.heap.size w w') => (show Calls Tryd.prog 84 #[.agg (cellL e).toArray] w' fun r w'' => r = .returned (.bool true) ∧ Below w'.heap.size w' w'' by
    have h := right_any e (hf e he) w' (hV.low hb)
    rw [hg.1 e he] at h
    exact h))
  have HO := Lib.hid hg.2
  have hli : (es.length : Int) ≤ 256 := by omega
  clear hr hg hf hV
  go_enter Tryd.func35, Tryd.ntmps35
  go_wp2_with fail
  go_loopw [10] (fun i wr => ∃ j : Nat, j ≤ es.length ∧ i = .int .i64 (j : Int) ∧ Hid (Below w.heap.size w wr)) (fun i _ => es.length - (intOf i).toNat)
  case atStart => exact ⟨0, by omega, rfl, Lib.hid (Below.refl _ _)⟩
  case round =>
    obtain ⟨j, hj, rfl, HB⟩ := hrel
    by_cases hlt : j < es.length
    · obtain ⟨b, rfl, -, hcap, hbl, hrg⟩ := HR.out.at hlt
      have HRE := Lib.hid (HRI.out es[j] (List.getElem_mem hlt))
      have HPREV := Lib.hid (fun (k : Nat) (hk : j = k + 1) => HO.out k (by omega))
      have hji : (j : Int) < (es.length : Int) := by omega
      have hmo : Tryd.prog.follows .mixedOrders = true := by kernel_rfl
      rcases Nat.eq_zero_or_pos j with rfl | hjp
      next =>
        generalize es[0] = ej at *
        obtain ⟨room, sender, kind, key, body, nonce⟩ := ej
        have e0 := (HB.out.cell (p := ⟨b, 0 * 8 + 0, none⟩) hbl).trans (hrg 0 _ rfl)
        have e1 := (HB.out.cell (p := ⟨b, 0 * 8 + 1, none⟩) hbl).trans (hrg 1 _ rfl)
        have e2 := (HB.out.cell (p := ⟨b, 0 * 8 + 2, none⟩) hbl).trans (hrg 2 _ rfl)
        have e3 := (HB.out.cell (p := ⟨b, 0 * 8 + 3, none⟩) hbl).trans (hrg 3 _ rfl)
        have e4 := (HB.out.cell (p := ⟨b, 0 * 8 + 4, none⟩) hbl).trans (hrg 4 _ rfl)
        have e5 := (HB.out.cell (p := ⟨b, 0 * 8 + 5, none⟩) hbl).trans (hrg 5 _ rfl)
        have e6 := (HB.out.cell (p := ⟨b, 0 * 8 + 6, none⟩) hbl).trans (hrg 6 _ rfl)
        have e7 := (HB.out.cell (p := ⟨b, 0 * 8 + 7, none⟩) hbl).trans (hrg 7 _ rfl)
        simp only [Nat.zero_mul, Nat.zero_add] at e0 e1 e2 e3 e4 e5 e6 e7
        clear hrg HPREV
        go_wp2_with fail
        have A0 := Blk.new wr #[.int .u8 (kind : Int), .string ⟨key.toArray⟩, .string ⟨room.toArray⟩, .string ⟨sender.toArray⟩, .int .u8 (kind : Int), .string ⟨key.toArray⟩, .string ⟨body.toArray⟩, .int .i64 nonce] 91
        have B0 := HB.out.alloc HB.out.size (.cells #[.int .u8 (kind : Int), .string ⟨key.toArray⟩, .string ⟨room.toArray⟩, .string ⟨sender.toArray⟩, .int .u8 (kind : Int), .string ⟨key.toArray⟩, .string ⟨body.toArray⟩, .int .i64 nonce] 91)
        have hsw := HB.out.size
        generalize hw1 : wr.alloc (.cells #[.int .u8 (kind : Int), .string ⟨key.toArray⟩, .string ⟨room.toArray⟩, .string ⟨sender.toArray⟩, .int .u8 (kind : Int), .string ⟨key.toArray⟩, .string ⟨body.toArray⟩, .int .i64 nonce] 91) = w1 at *
        have A0 := A0.drew
        have B0 := B0.drew
        have S0 : (fun w' => w'.cell? ⟨wr.heap.size, 0, none⟩ = some (.int .u8 (kind : Int)) ∧ w'.cell? ⟨wr.heap.size, 1, none⟩ = some (.string ⟨key.toArray⟩) ∧ w'.cell? ⟨wr.heap.size, 2, none⟩ = some (.string ⟨room.toArray⟩) ∧ w'.cell? ⟨wr.heap.size, 3, none⟩ = some (.string ⟨sender.toArray⟩) ∧ w'.cell? ⟨wr.heap.size, 4, none⟩ = some (.int .u8 (kind : Int)) ∧ w'.cell? ⟨wr.heap.size, 5, none⟩ = some (.string ⟨key.toArray⟩) ∧ w'.cell? ⟨wr.heap.size, 6, none⟩ = some (.string ⟨body.toArray⟩) ∧ w'.cell? ⟨wr.heap.size, 7, none⟩ = some (.int .i64 nonce)) w1.drew := ⟨A0.cell 0 rfl, A0.cell 1 rfl, A0.cell 2 rfl, A0.cell 3 rfl, A0.cell 4 rfl, A0.cell 5 rfl, A0.cell 6 rfl, A0.cell 7 rfl⟩
        refine wp_region_heldX (fun w' => w'.cell? ⟨wr.heap.size, 0, none⟩ = some (.int .u8 (kind : Int)) ∧ w'.cell? ⟨wr.heap.size, 1, none⟩ = some (.string ⟨key.toArray⟩) ∧ w'.cell? ⟨wr.heap.size, 2, none⟩ = some (.string ⟨room.toArray⟩) ∧ w'.cell? ⟨wr.heap.size, 3, none⟩ = some (.string ⟨sender.toArray⟩) ∧ w'.cell? ⟨wr.heap.size, 4, none⟩ = some (.int .u8 (kind : Int)) ∧ w'.cell? ⟨wr.heap.size, 5, none⟩ = some (.string ⟨key.toArray⟩) ∧ w'.cell? ⟨wr.heap.size, 6, none⟩ = some (.string ⟨body.toArray⟩) ∧ w'.cell? ⟨wr.heap.size, 7, none⟩ = some (.int .i64 nonce)) [] hmo ?_
        generalize w1.drew = wd at *
        refine HeldX.take 0 (v := .agg #[.int .u8 (kind : Int), .string ⟨key.toArray⟩, .string ⟨room.toArray⟩, .string ⟨sender.toArray⟩, .int .u8 (kind : Int), .string ⟨key.toArray⟩, .string ⟨body.toArray⟩, .int .i64 nonce]) rfl (by kernel_rfl) (by kernel_rfl) (by kernel_rfl) (by kernel_rfl) (fun _ _ _ h => h) S0 (.inl ⟨by kernel_rfl, fun w h => by have h0 := h.1; have h1 := h.2.1; have h2 := h.2.2.1; have h3 := h.2.2.2.1; have h4 := h.2.2.2.2.1; have h5 := h.2.2.2.2.2.1; have h6 := h.2.2.2.2.2.2.1; have h7 := h.2.2.2.2.2.2.2; go_simp⟩) ?_
        go_simp
        refine HeldX.one 1 (by kernel_rfl) rfl (by kernel_rfl) (fun K hK => ?_)
        go_simp
        refine (HRE.out _ B0).mono ?_
        rintro e w2 ⟨rfl, hb⟩
        have A2 := A0.low hb
        have B2 := B0.trans (hb.mono B0.size)
        have S2 : (fun w' => w'.cell? ⟨wr.heap.size, 0, none⟩ = some (.int .u8 (kind : Int)) ∧ w'.cell? ⟨wr.heap.size, 1, none⟩ = some (.string ⟨key.toArray⟩) ∧ w'.cell? ⟨wr.heap.size, 2, none⟩ = some (.string ⟨room.toArray⟩) ∧ w'.cell? ⟨wr.heap.size, 3, none⟩ = some (.string ⟨sender.toArray⟩) ∧ w'.cell? ⟨wr.heap.size, 4, none⟩ = some (.int .u8 (kind : Int)) ∧ w'.cell? ⟨wr.heap.size, 5, none⟩ = some (.string ⟨key.toArray⟩) ∧ w'.cell? ⟨wr.heap.size, 6, none⟩ = some (.string ⟨body.toArray⟩) ∧ w'.cell? ⟨wr.heap.size, 7, none⟩ = some (.int .i64 nonce)) w2 := ⟨A2.cell 0 rfl, A2.cell 1 rfl, A2.cell 2 rfl, A2.cell 3 rfl, A2.cell 4 rfl, A2.cell 5 rfl, A2.cell 6 rfl, A2.cell 7 rfl⟩
        refine hK _ _ S2 ?_
        clear hK K hb S0
        refine HeldX.move 2 (v := .bool false) rfl (by kernel_rfl) (by kernel_rfl) (by kernel_rfl) (by kernel_rfl) (fun _ _ _ h => h) S2 (.inl ⟨by kernel_rfl, fun w h => by go_simp⟩) ?_
        go_simp
        refine HeldX.move 3 (v := .bool false) rfl (by kernel_rfl) (by kernel_rfl) (by kernel_rfl) (by kernel_rfl) (fun _ _ _ h => h) S2 (.inl ⟨by kernel_rfl, fun w h => by go_simp⟩) ?_
        go_simp
        refine HeldX.move 4 (v := .int .i64 0) rfl (by kernel_rfl) (by kernel_rfl) (by kernel_rfl) (by kernel_rfl) (fun _ _ _ h => h) S2 (.inl ⟨by kernel_rfl, fun w h => by go_simp⟩) ?_
        go_simp
        refine HeldX.move 5 (v := .bool false) rfl (by kernel_rfl) (by kernel_rfl) (by kernel_rfl) (by kernel_rfl) (fun _ _ _ h => h) S2 (.inl ⟨by kernel_rfl, fun w h => by go_simp⟩) ?_
        go_simp
        refine HeldX.move 6 (v := .bool false) rfl (by kernel_rfl) (by kernel_rfl) (by kernel_rfl) (by kernel_rfl) (fun _ _ _ h => h) S2 (.inl ⟨by kernel_rfl, fun w h => by go_simp⟩) ?_
        go_simp
        refine HeldX.move 7 (v := undef) rfl (by kernel_rfl) (by kernel_rfl) (by kernel_rfl) (by kernel_rfl) (fun _ _ _ h => h) S2 (.inr ⟨by kernel_rfl, rfl⟩) ?_
        go_simp
        refine HeldX.move 8 (v := undef) rfl (by kernel_rfl) (by kernel_rfl) (by kernel_rfl) (by kernel_rfl) (fun _ _ _ h => h) S2 (.inr ⟨by kernel_rfl, rfl⟩) ?_
        go_simp
        refine HeldX.move 9 (v := undef) rfl (by kernel_rfl) (by kernel_rfl) (by kernel_rfl) (by kernel_rfl) (fun _ _ _ h => h) S2 (.inr ⟨by kernel_rfl, rfl⟩) ?_
        go_simp
        refine HeldX.move 10 (v := undef) rfl (by kernel_rfl) (by kernel_rfl) (by kernel_rfl) (by kernel_rfl) (fun _ _ _ h => h) S2 (.inr ⟨by kernel_rfl, rfl⟩) ?_
        go_simp
        refine HeldX.move 11 (v := undef) rfl (by kernel_rfl) (by kernel_rfl) (by kernel_rfl) (by kernel_rfl) (fun _ _ _ h => h) S2 (.inr ⟨by kernel_rfl, rfl⟩) ?_
        go_simp
        refine HeldX.move 12 (v := undef) rfl (by kernel_rfl) (by kernel_rfl) (by kernel_rfl) (by kernel_rfl) (fun _ _ _ h => h) S2 (.inr ⟨by kernel_rfl, rfl⟩) ?_
        go_simp
        refine HeldX.move 13 (v := undef) rfl (by kernel_rfl) (by kernel_rfl) (by kernel_rfl) (by kernel_rfl) (fun _ _ _ h => h) S2 (.inr ⟨by kernel_rfl, rfl⟩) ?_
        go_simp
        refine HeldX.move 14 (v := undef) rfl (by kernel_rfl) (by kernel_rfl) (by kernel_rfl) (by kernel_rfl) (fun _ _ _ h => h) S2 (.inr ⟨by kernel_rfl, rfl⟩) ?_
        go_simp
        refine HeldX.move 15 (v := .bool false) rfl (by kernel_rfl) (by kernel_rfl) (by kernel_rfl) (by kernel_rfl) (fun _ _ _ h => h) S2 (.inl ⟨by kernel_rfl, fun w h => by go_simp⟩) ?_
        go_simp
        refine HeldX.move 16 (v := .bool false) rfl (by kernel_rfl) (by kernel_rfl) (by kernel_rfl) (by kernel_rfl) (fun _ _ _ h => h) S2 (.inl ⟨by kernel_rfl, fun w h => by go_simp⟩) ?_
        go_simp
        refine HeldX.done (by kernel_rfl) ?_ _
        go_wp2_with fail
        go_roundw
        case rel => exact ⟨1, by omega, rfl, Lib.hid B2⟩
        case measure => simp [intOf]; omega
      next =>
        obtain ⟨k, hk⟩ : ∃ k, j = k + 1 := ⟨j - 1, by omega⟩
        have hkl : k < es.length := by omega
        obtain ⟨b', e1, -, -, -, hrk⟩ := HR.out.at hkl
        injection e1 with e1
        injection e1 with e1
        subst e1
        have HLT : Hid (ordI es[k] es[j] < 0) := Lib.hid (by
          have h := HPREV.out k hk
          have hje : es[k + 1]'(by omega) = es[j] := by simp [hk]
          rw [hje] at h
          exact h)
        clear HPREV
        have hkI : (k : Int) < (es.length : Int) := by omega
        have hwk : IntKind.i64.wrap (k : Int) = (k : Int) := by rw [IntKind.wrap_i64]; omega
        have hj1 : (j : Int) - 1 = (k : Int) := by omega
        have hj0 : (0 : Int) < (j : Int) := by omega
        clear hk
        generalize es[j] = ej at *
        generalize es[k] = ek at *
        obtain ⟨room, sender, kind, key, body, nonce⟩ := ej
        obtain ⟨room', sender', kind', key', body', nonce'⟩ := ek
        have e0 : wr.cell? ⟨b, j * 8, none⟩ = some (.int .u8 (kind : Int)) := (HB.out.cell (p := ⟨b, j * 8 + 0, none⟩) hbl).trans (hrg 0 _ rfl)
        have e1 : wr.cell? ⟨b, j * 8 + 1, none⟩ = some (.string ⟨key.toArray⟩) := (HB.out.cell (p := ⟨b, j * 8 + 1, none⟩) hbl).trans (hrg 1 _ rfl)
        have e2 : wr.cell? ⟨b, j * 8 + 2, none⟩ = some (.string ⟨room.toArray⟩) := (HB.out.cell (p := ⟨b, j * 8 + 2, none⟩) hbl).trans (hrg 2 _ rfl)
        have e3 : wr.cell? ⟨b, j * 8 + 3, none⟩ = some (.string ⟨sender.toArray⟩) := (HB.out.cell (p := ⟨b, j * 8 + 3, none⟩) hbl).trans (hrg 3 _ rfl)
        have e4 : wr.cell? ⟨b, j * 8 + 4, none⟩ = some (.int .u8 (kind : Int)) := (HB.out.cell (p := ⟨b, j * 8 + 4, none⟩) hbl).trans (hrg 4 _ rfl)
        have e5 : wr.cell? ⟨b, j * 8 + 5, none⟩ = some (.string ⟨key.toArray⟩) := (HB.out.cell (p := ⟨b, j * 8 + 5, none⟩) hbl).trans (hrg 5 _ rfl)
        have e6 : wr.cell? ⟨b, j * 8 + 6, none⟩ = some (.string ⟨body.toArray⟩) := (HB.out.cell (p := ⟨b, j * 8 + 6, none⟩) hbl).trans (hrg 6 _ rfl)
        have e7 : wr.cell? ⟨b, j * 8 + 7, none⟩ = some (.int .i64 nonce) := (HB.out.cell (p := ⟨b, j * 8 + 7, none⟩) hbl).trans (hrg 7 _ rfl)
        have f0 : wr.cell? ⟨b, k * 8, none⟩ = some (.int .u8 (kind' : Int)) := (HB.out.cell (p := ⟨b, k * 8 + 0, none⟩) hbl).trans (hrk 0 _ rfl)
        have f1 : wr.cell? ⟨b, k * 8 + 1, none⟩ = some (.string ⟨key'.toArray⟩) := (HB.out.cell (p := ⟨b, k * 8 + 1, none⟩) hbl).trans (hrk 1 _ rfl)
        have f2 : wr.cell? ⟨b, k * 8 + 2, none⟩ = some (.string ⟨room'.toArray⟩) := (HB.out.cell (p := ⟨b, k * 8 + 2, none⟩) hbl).trans (hrk 2 _ rfl)
        have f3 : wr.cell? ⟨b, k * 8 + 3, none⟩ = some (.string ⟨sender'.toArray⟩) := (HB.out.cell (p := ⟨b, k * 8 + 3, none⟩) hbl).trans (hrk 3 _ rfl)
        have f4 : wr.cell? ⟨b, k * 8 + 4, none⟩ = some (.int .u8 (kind' : Int)) := (HB.out.cell (p := ⟨b, k * 8 + 4, none⟩) hbl).trans (hrk 4 _ rfl)
        have f5 : wr.cell? ⟨b, k * 8 + 5, none⟩ = some (.string ⟨key'.toArray⟩) := (HB.out.cell (p := ⟨b, k * 8 + 5, none⟩) hbl).trans (hrk 5 _ rfl)
        have f6 : wr.cell? ⟨b, k * 8 + 6, none⟩ = some (.string ⟨body'.toArray⟩) := (HB.out.cell (p := ⟨b, k * 8 + 6, none⟩) hbl).trans (hrk 6 _ rfl)
        have f7 : wr.cell? ⟨b, k * 8 + 7, none⟩ = some (.int .i64 nonce') := (HB.out.cell (p := ⟨b, k * 8 + 7, none⟩) hbl).trans (hrk 7 _ rfl)
        clear hrg
        go_wp2_with fail
        have A0 := Blk.new wr #[.int .u8 (kind : Int), .string ⟨key.toArray⟩, .string ⟨room.toArray⟩, .string ⟨sender.toArray⟩, .int .u8 (kind : Int), .string ⟨key.toArray⟩, .string ⟨body.toArray⟩, .int .i64 nonce] 91
        have B0 := HB.out.alloc HB.out.size (.cells #[.int .u8 (kind : Int), .string ⟨key.toArray⟩, .string ⟨room.toArray⟩, .string ⟨sender.toArray⟩, .int .u8 (kind : Int), .string ⟨key.toArray⟩, .string ⟨body.toArray⟩, .int .i64 nonce] 91)
        have hsw := HB.out.size
        generalize hw1 : wr.alloc (.cells #[.int .u8 (kind : Int), .string ⟨key.toArray⟩, .string ⟨room.toArray⟩, .string ⟨sender.toArray⟩, .int .u8 (kind : Int), .string ⟨key.toArray⟩, .string ⟨body.toArray⟩, .int .i64 nonce] 91) = w1 at *
        have A0 := A0.drew
        have B0 := B0.drew
        have S0 : (fun w' => w'.cell? ⟨wr.heap.size, 0, none⟩ = some (.int .u8 (kind : Int)) ∧ w'.cell? ⟨wr.heap.size, 1, none⟩ = some (.string ⟨key.toArray⟩) ∧ w'.cell? ⟨wr.heap.size, 2, none⟩ = some (.string ⟨room.toArray⟩) ∧ w'.cell? ⟨wr.heap.size, 3, none⟩ = some (.string ⟨sender.toArray⟩) ∧ w'.cell? ⟨wr.heap.size, 4, none⟩ = some (.int .u8 (kind : Int)) ∧ w'.cell? ⟨wr.heap.size, 5, none⟩ = some (.string ⟨key.toArray⟩) ∧ w'.cell? ⟨wr.heap.size, 6, none⟩ = some (.string ⟨body.toArray⟩) ∧ w'.cell? ⟨wr.heap.size, 7, none⟩ = some (.int .i64 nonce) ∧ w'.cell? ⟨b, k * 8 + 0, none⟩ = some (.int .u8 (kind' : Int)) ∧ w'.cell? ⟨b, k * 8 + 1, none⟩ = some (.string ⟨key'.toArray⟩) ∧ w'.cell? ⟨b, k * 8 + 2, none⟩ = some (.string ⟨room'.toArray⟩) ∧ w'.cell? ⟨b, k * 8 + 3, none⟩ = some (.string ⟨sender'.toArray⟩) ∧ w'.cell? ⟨b, k * 8 + 4, none⟩ = some (.int .u8 (kind' : Int)) ∧ w'.cell? ⟨b, k * 8 + 5, none⟩ = some (.string ⟨key'.toArray⟩) ∧ w'.cell? ⟨b, k * 8 + 6, none⟩ = some (.string ⟨body'.toArray⟩) ∧ w'.cell? ⟨b, k * 8 + 7, none⟩ = some (.int .i64 nonce')) w1.drew := ⟨A0.cell 0 rfl, A0.cell 1 rfl, A0.cell 2 rfl, A0.cell 3 rfl, A0.cell 4 rfl, A0.cell 5 rfl, A0.cell 6 rfl, A0.cell 7 rfl, (B0.cell (p := ⟨b, k * 8 + 0, none⟩) hbl).trans (hrk 0 _ rfl), (B0.cell (p := ⟨b, k * 8 + 1, none⟩) hbl).trans (hrk 1 _ rfl), (B0.cell (p := ⟨b, k * 8 + 2, none⟩) hbl).trans (hrk 2 _ rfl), (B0.cell (p := ⟨b, k * 8 + 3, none⟩) hbl).trans (hrk 3 _ rfl), (B0.cell (p := ⟨b, k * 8 + 4, none⟩) hbl).trans (hrk 4 _ rfl), (B0.cell (p := ⟨b, k * 8 + 5, none⟩) hbl).trans (hrk 5 _ rfl), (B0.cell (p := ⟨b, k * 8 + 6, none⟩) hbl).trans (hrk 6 _ rfl), (B0.cell (p := ⟨b, k * 8 + 7, none⟩) hbl).trans (hrk 7 _ rfl)⟩
        refine wp_region_heldX (fun w' => w'.cell? ⟨wr.heap.size, 0, none⟩ = some (.int .u8 (kind : Int)) ∧ w'.cell? ⟨wr.heap.size, 1, none⟩ = some (.string ⟨key.toArray⟩) ∧ w'.cell? ⟨wr.heap.size, 2, none⟩ = some (.string ⟨room.toArray⟩) ∧ w'.cell? ⟨wr.heap.size, 3, none⟩ = some (.string ⟨sender.toArray⟩) ∧ w'.cell? ⟨wr.heap.size, 4, none⟩ = some (.int .u8 (kind : Int)) ∧ w'.cell? ⟨wr.heap.size, 5, none⟩ = some (.string ⟨key.toArray⟩) ∧ w'.cell? ⟨wr.heap.size, 6, none⟩ = some (.string ⟨body.toArray⟩) ∧ w'.cell? ⟨wr.heap.size, 7, none⟩ = some (.int .i64 nonce) ∧ w'.cell? ⟨b, k * 8 + 0, none⟩ = some (.int .u8 (kind' : Int)) ∧ w'.cell? ⟨b, k * 8 + 1, none⟩ = some (.string ⟨key'.toArray⟩) ∧ w'.cell? ⟨b, k * 8 + 2, none⟩ = some (.string ⟨room'.toArray⟩) ∧ w'.cell? ⟨b, k * 8 + 3, none⟩ = some (.string ⟨sender'.toArray⟩) ∧ w'.cell? ⟨b, k * 8 + 4, none⟩ = some (.int .u8 (kind' : Int)) ∧ w'.cell? ⟨b, k * 8 + 5, none⟩ = some (.string ⟨key'.toArray⟩) ∧ w'.cell? ⟨b, k * 8 + 6, none⟩ = some (.string ⟨body'.toArray⟩) ∧ w'.cell? ⟨b, k * 8 + 7, none⟩ = some (.int .i64 nonce')) [] hmo ?_
        generalize w1.drew = wd at *
        refine HeldX.take 0 (v := .agg #[.int .u8 (kind : Int), .string ⟨key.toArray⟩, .string ⟨room.toArray⟩, .string ⟨sender.toArray⟩, .int .u8 (kind : Int), .string ⟨key.toArray⟩, .string ⟨body.toArray⟩, .int .i64 nonce]) rfl (by kernel_rfl) (by kernel_rfl) (by kernel_rfl) (by kernel_rfl) (fun _ _ _ h => h) S0 (.inl ⟨by kernel_rfl, fun w h => by have h0 := h.1; have h1 := h.2.1; have h2 := h.2.2.1; have h3 := h.2.2.2.1; have h4 := h.2.2.2.2.1; have h5 := h.2.2.2.2.2.1; have h6 := h.2.2.2.2.2.2.1; have h7 := h.2.2.2.2.2.2.2.1; go_simp⟩) ?_
        go_simp
        refine HeldX.one 1 (by kernel_rfl) rfl (by kernel_rfl) (fun K hK => ?_)
        go_simp
        refine (HRE.out _ B0).mono ?_
        rintro e w2 ⟨rfl, hb⟩
        have A2 := A0.low hb
        have B2 := B0.trans (hb.mono B0.size)
        have S2 : (fun w' => w'.cell? ⟨wr.heap.size, 0, none⟩ = some (.int .u8 (kind : Int)) ∧ w'.cell? ⟨wr.heap.size, 1, none⟩ = some (.string ⟨key.toArray⟩) ∧ w'.cell? ⟨wr.heap.size, 2, none⟩ = some (.string ⟨room.toArray⟩) ∧ w'.cell? ⟨wr.heap.size, 3, none⟩ = some (.string ⟨sender.toArray⟩) ∧ w'.cell? ⟨wr.heap.size, 4, none⟩ = some (.int .u8 (kind : Int)) ∧ w'.cell? ⟨wr.heap.size, 5, none⟩ = some (.string ⟨key.toArray⟩) ∧ w'.cell? ⟨wr.heap.size, 6, none⟩ = some (.string ⟨body.toArray⟩) ∧ w'.cell? ⟨wr.heap.size, 7, none⟩ = some (.int .i64 nonce) ∧ w'.cell? ⟨b, k * 8 + 0, none⟩ = some (.int .u8 (kind' : Int)) ∧ w'.cell? ⟨b, k * 8 + 1, none⟩ = some (.string ⟨key'.toArray⟩) ∧ w'.cell? ⟨b, k * 8 + 2, none⟩ = some (.string ⟨room'.toArray⟩) ∧ w'.cell? ⟨b, k * 8 + 3, none⟩ = some (.string ⟨sender'.toArray⟩) ∧ w'.cell? ⟨b, k * 8 + 4, none⟩ = some (.int .u8 (kind' : Int)) ∧ w'.cell? ⟨b, k * 8 + 5, none⟩ = some (.string ⟨key'.toArray⟩) ∧ w'.cell? ⟨b, k * 8 + 6, none⟩ = some (.string ⟨body'.toArray⟩) ∧ w'.cell? ⟨b, k * 8 + 7, none⟩ = some (.int .i64 nonce')) w2 := ⟨A2.cell 0 rfl, A2.cell 1 rfl, A2.cell 2 rfl, A2.cell 3 rfl, A2.cell 4 rfl, A2.cell 5 rfl, A2.cell 6 rfl, A2.cell 7 rfl, (B2.cell (p := ⟨b, k * 8 + 0, none⟩) hbl).trans (hrk 0 _ rfl), (B2.cell (p := ⟨b, k * 8 + 1, none⟩) hbl).trans (hrk 1 _ rfl), (B2.cell (p := ⟨b, k * 8 + 2, none⟩) hbl).trans (hrk 2 _ rfl), (B2.cell (p := ⟨b, k * 8 + 3, none⟩) hbl).trans (hrk 3 _ rfl), (B2.cell (p := ⟨b, k * 8 + 4, none⟩) hbl).trans (hrk 4 _ rfl), (B2.cell (p := ⟨b, k * 8 + 5, none⟩) hbl).trans (hrk 5 _ rfl), (B2.cell (p := ⟨b, k * 8 + 6, none⟩) hbl).trans (hrk 6 _ rfl), (B2.cell (p := ⟨b, k * 8 + 7, none⟩) hbl).trans (hrk 7 _ rfl)⟩
        refine hK _ _ S2 ?_
        clear hK K hb S0
        refine HeldX.move 2 (v := .bool false) rfl (by kernel_rfl) (by kernel_rfl) (by kernel_rfl) (by kernel_rfl) (fun _ _ _ h => h) S2 (.inl ⟨by kernel_rfl, fun w h => by go_simp⟩) ?_
        go_simp
        refine HeldX.move 3 (v := .bool false) rfl (by kernel_rfl) (by kernel_rfl) (by kernel_rfl) (by kernel_rfl) (fun _ _ _ h => h) S2 (.inl ⟨by kernel_rfl, fun w h => by go_simp⟩) ?_
        go_simp
        refine HeldX.move 4 (v := .int .i64 (j : Int)) rfl (by kernel_rfl) (by kernel_rfl) (by kernel_rfl) (by kernel_rfl) (fun _ _ _ h => h) S2 (.inl ⟨by kernel_rfl, fun w h => by go_simp⟩) ?_
        go_simp
        refine HeldX.move 5 (v := .bool true) rfl (by kernel_rfl) (by kernel_rfl) (by kernel_rfl) (by kernel_rfl) (fun _ _ _ h => h) S2 (.inl ⟨by kernel_rfl, fun w h => by go_simp⟩) ?_
        go_simp
        refine HeldX.move 6 (v := .bool true) rfl (by kernel_rfl) (by kernel_rfl) (by kernel_rfl) (by kernel_rfl) (fun _ _ _ h => h) S2 (.inl ⟨by kernel_rfl, fun w h => by go_simp⟩) ?_
        go_simp
        refine HeldX.move 7 (v := .slice (some ⟨b, 0, none⟩) es.length cap) rfl (by kernel_rfl) (by kernel_rfl) (by kernel_rfl) (by kernel_rfl) (fun _ _ _ h => h) S2 (.inl ⟨by kernel_rfl, fun w h => by go_simp⟩) ?_
        go_simp
        refine HeldX.move 8 (v := .int .i64 (j : Int)) rfl (by kernel_rfl) (by kernel_rfl) (by kernel_rfl) (by kernel_rfl) (fun _ _ _ h => h) S2 (.inl ⟨by kernel_rfl, fun w h => by go_simp⟩) ?_
        go_simp
        refine HeldX.move 9 (v := .int .i64 (k : Int)) rfl (by kernel_rfl) (by kernel_rfl) (by kernel_rfl) (by kernel_rfl) (fun _ _ _ h => h) S2 (.inl ⟨by kernel_rfl, fun w h => by go_simp⟩) ?_
        go_simp
        refine HeldX.move 10 (v := .pointer (some ⟨b, k * 8, none⟩)) rfl (by kernel_rfl) (by kernel_rfl) (by kernel_rfl) (by kernel_rfl) (fun _ _ _ h => h) S2 (.inl ⟨by kernel_rfl, fun w h => by go_simp⟩) ?_
        go_simp
        refine HeldX.take 11 (v := .agg #[.int .u8 (kind' : Int), .string ⟨key'.toArray⟩, .string ⟨room'.toArray⟩, .string ⟨sender'.toArray⟩, .int .u8 (kind' : Int), .string ⟨key'.toArray⟩, .string ⟨body'.toArray⟩, .int .i64 nonce']) rfl (by kernel_rfl) (by kernel_rfl) (by kernel_rfl) (by kernel_rfl) (fun _ _ _ h => h) S2 (.inl ⟨by kernel_rfl, fun w h => by have h8 := h.2.2.2.2.2.2.2.2.1; have h9 := h.2.2.2.2.2.2.2.2.2.1; have h10 := h.2.2.2.2.2.2.2.2.2.2.1; have h11 := h.2.2.2.2.2.2.2.2.2.2.2.1; have h12 := h.2.2.2.2.2.2.2.2.2.2.2.2.1; have h13 := h.2.2.2.2.2.2.2.2.2.2.2.2.2.1; have h14 := h.2.2.2.2.2.2.2.2.2.2.2.2.2.2.1; have h15 := h.2.2.2.2.2.2.2.2.2.2.2.2.2.2.2; go_simp⟩) ?_
        go_simp
        refine HeldX.take 12 (v := .agg #[.int .u8 (kind : Int), .string ⟨key.toArray⟩, .string ⟨room.toArray⟩, .string ⟨sender.toArray⟩, .int .u8 (kind : Int), .string ⟨key.toArray⟩, .string ⟨body.toArray⟩, .int .i64 nonce]) rfl (by kernel_rfl) (by kernel_rfl) (by kernel_rfl) (by kernel_rfl) (fun _ _ _ h => h) S2 (.inl ⟨by kernel_rfl, fun w h => by have h0 := h.1; have h1 := h.2.1; have h2 := h.2.2.1; have h3 := h.2.2.2.1; have h4 := h.2.2.2.2.1; have h5 := h.2.2.2.2.2.1; have h6 := h.2.2.2.2.2.2.1; have h7 := h.2.2.2.2.2.2.2.1; go_simp⟩) ?_
        go_simp
        refine HeldX.one 13 (by kernel_rfl) rfl (by kernel_rfl) (fun K hK => ?_)
        go_simp
        refine (order_any kind' kind key' key _ _ _ _ _ _ _ _ _ _ _ _ _).mono ?_
        rintro e w3 ⟨rfl, hb⟩
        have A3 := A2.low hb
        have B3 := B2.trans (hb.mono B2.size)
        have S3 : (fun w' => w'.cell? ⟨wr.heap.size, 0, none⟩ = some (.int .u8 (kind : Int)) ∧ w'.cell? ⟨wr.heap.size, 1, none⟩ = some (.string ⟨key.toArray⟩) ∧ w'.cell? ⟨wr.heap.size, 2, none⟩ = some (.string ⟨room.toArray⟩) ∧ w'.cell? ⟨wr.heap.size, 3, none⟩ = some (.string ⟨sender.toArray⟩) ∧ w'.cell? ⟨wr.heap.size, 4, none⟩ = some (.int .u8 (kind : Int)) ∧ w'.cell? ⟨wr.heap.size, 5, none⟩ = some (.string ⟨key.toArray⟩) ∧ w'.cell? ⟨wr.heap.size, 6, none⟩ = some (.string ⟨body.toArray⟩) ∧ w'.cell? ⟨wr.heap.size, 7, none⟩ = some (.int .i64 nonce) ∧ w'.cell? ⟨b, k * 8 + 0, none⟩ = some (.int .u8 (kind' : Int)) ∧ w'.cell? ⟨b, k * 8 + 1, none⟩ = some (.string ⟨key'.toArray⟩) ∧ w'.cell? ⟨b, k * 8 + 2, none⟩ = some (.string ⟨room'.toArray⟩) ∧ w'.cell? ⟨b, k * 8 + 3, none⟩ = some (.string ⟨sender'.toArray⟩) ∧ w'.cell? ⟨b, k * 8 + 4, none⟩ = some (.int .u8 (kind' : Int)) ∧ w'.cell? ⟨b, k * 8 + 5, none⟩ = some (.string ⟨key'.toArray⟩) ∧ w'.cell? ⟨b, k * 8 + 6, none⟩ = some (.string ⟨body'.toArray⟩) ∧ w'.cell? ⟨b, k * 8 + 7, none⟩ = some (.int .i64 nonce')) w3 := ⟨A3.cell 0 rfl, A3.cell 1 rfl, A3.cell 2 rfl, A3.cell 3 rfl, A3.cell 4 rfl, A3.cell 5 rfl, A3.cell 6 rfl, A3.cell 7 rfl, (B3.cell (p := ⟨b, k * 8 + 0, none⟩) hbl).trans (hrk 0 _ rfl), (B3.cell (p := ⟨b, k * 8 + 1, none⟩) hbl).trans (hrk 1 _ rfl), (B3.cell (p := ⟨b, k * 8 + 2, none⟩) hbl).trans (hrk 2 _ rfl), (B3.cell (p := ⟨b, k * 8 + 3, none⟩) hbl).trans (hrk 3 _ rfl), (B3.cell (p := ⟨b, k * 8 + 4, none⟩) hbl).trans (hrk 4 _ rfl), (B3.cell (p := ⟨b, k * 8 + 5, none⟩) hbl).trans (hrk 5 _ rfl), (B3.cell (p := ⟨b, k * 8 + 6, none⟩) hbl).trans (hrk 6 _ rfl), (B3.cell (p := ⟨b, k * 8 + 7, none⟩) hbl).trans (hrk 7 _ rfl)⟩
        refine hK _ _ S3 ?_
        clear hK K hb S2
        have HLX : Hid (ordK kind' key' kind key < 0) := HLT
        generalize ordK kind' key' kind key = c at *
        refine HeldX.move 14 (v := .bool false) rfl (by kernel_rfl) (by kernel_rfl) (by kernel_rfl) (by kernel_rfl) (fun _ _ _ h => h) S3 (.inl ⟨by kernel_rfl, fun w h => by go_simp; exact HLX.out⟩) ?_
        go_simp
        refine HeldX.move 15 (v := .bool false) rfl (by kernel_rfl) (by kernel_rfl) (by kernel_rfl) (by kernel_rfl) (fun _ _ _ h => h) S3 (.inl ⟨by kernel_rfl, fun w h => by go_simp⟩) ?_
        go_simp
        refine HeldX.move 16 (v := .bool false) rfl (by kernel_rfl) (by kernel_rfl) (by kernel_rfl) (by kernel_rfl) (fun _ _ _ h => h) S3 (.inl ⟨by kernel_rfl, fun w h => by go_simp⟩) ?_
        go_simp
        refine HeldX.done (by kernel_rfl) ?_ _
        go_wp2_with fail
        go_roundw
        case rel => exact ⟨j + 1, by omega, by go_num, Lib.hid B3⟩
        case measure => simp [intOf]; omega
    · obtain rfl : j = es.length := by omega
      clear hlt hj
      go_wp2_with fail
      go_ret
      exact ⟨rfl, HB.out⟩
end Left
end Go.Proofs.YtbgjoefpnjgdkaaDoor
