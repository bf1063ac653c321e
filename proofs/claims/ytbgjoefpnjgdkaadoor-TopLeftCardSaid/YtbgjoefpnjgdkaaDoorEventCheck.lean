/- event.known, key, Check. -/
import Derived.Test.YtbgjoefpnjgdkaaDoorIdentOf
namespace Go.Proofs.YtbgjoefpnjgdkaaDoor
open Go.RowKit
set_option linter.unusedVariables false
set_option linter.unusedSimpArgs false
set_option maxRecDepth 100000
namespace Named
/-- an event -/
def evV (e : Ev) : Value := .agg #[.string ⟨e.room.toArray⟩, .string ⟨e.sender.toArray⟩, .int .u8 (e.kind : Int), .string ⟨e.key.toArray⟩, .string ⟨e.body.toArray⟩, .int .i64 e.nonce]
/-- its texts are no longer than a memory -/
structure Fits (e : Ev) : Prop where
  room : e.room.length ≤ 281474976710656
  sender : e.sender.length ≤ 281474976710656
  key : e.key.length ≤ 281474976710656
  body : e.body.length ≤ 281474976710656

theorem known_any (k : Nat) (w : World) : Calls Tryd.prog 65 #[.int .u8 (k : Int)] w fun e w' => e = .returned (.bool (decide (0 < k ∧ k < 9))) ∧ w' = w := by
  by_cases h0 : 0 < k
  · by_cases h9 : k < 9
    · have hr : decide (0 < k ∧ k < 9) = true := by simp; omega
      have HR := Lib.hid hr
      have i0 : (0 : Int) < (k : Int) := by omega
      have i9 : (k : Int) < 9 := by omega
      clear hr h0 h9
      go_enter Tryd.func65, Tryd.ntmps65
      go_wp2_with fail
      go_ret
      exact ⟨by rw [HR.out]; simp [i9], rfl⟩
    · have hr : decide (0 < k ∧ k < 9) = false := by simp; omega
      have HR := Lib.hid hr
      have i0 : (0 : Int) < (k : Int) := by omega
      have i9 : ¬ (k : Int) < 9 := by omega
      clear hr h0 h9
      go_enter Tryd.func65, Tryd.ntmps65
      go_wp2_with fail
      go_ret
      exact ⟨Eq.trans (b := Ending.returned (.bool false)) rfl (by simp; omega), rfl⟩
  · obtain rfl : k = 0 := by omega
    clear h0
    go_enter Tryd.func65, Tryd.ntmps65
    go_wp2_with fail
    go_ret
    exact ⟨rfl, rfl⟩

theorem key_member (room sender key body : List UInt8) (nonce : Int) (sv : Nat) (b : Bool) (w : World)
    (HU : Hid (∀ w', Below w.heap.size w w' → Calls Tryd.prog 27 #[.string ⟨key.toArray⟩] w' fun e w'' => e = .returned (.tuple #[.int .i64 (sv : Int), .bool b]) ∧ Below w'.heap.size w' w'')) :
    Calls Tryd.prog 66 #[.agg #[.string ⟨room.toArray⟩, .string ⟨sender.toArray⟩, .int .u8 2, .string ⟨key.toArray⟩, .string ⟨body.toArray⟩, .int .i64 nonce]] w fun e w' => e = .returned (.bool b) ∧ Below w.heap.size w w' := by
  have B0 := (Below.refl w.heap.size w).alloc (Nat.le_refl _) (.cells #[.string ⟨room.toArray⟩, .string ⟨sender.toArray⟩, .int .u8 2, .string ⟨key.toArray⟩, .string ⟨body.toArray⟩, .int .i64 nonce] 56)
  go_enter Tryd.func66, Tryd.ntmps66
  go_wp2_with fail
  refine (HU.out _ B0).mono ?_
  rintro e w' ⟨rfl, hb⟩
  go_wp2_with fail
  go_ret
  exact ⟨rfl, B0.trans (hb.mono B0.size)⟩

theorem key_else (room sender key body : List UInt8) (kind : Nat) (nonce : Int) (hk : kind ≠ 2) (w : World) :
    Calls Tryd.prog 66 #[.agg #[.string ⟨room.toArray⟩, .string ⟨sender.toArray⟩, .int .u8 (kind : Int), .string ⟨key.toArray⟩, .string ⟨body.toArray⟩, .int .i64 nonce]] w fun e w' => e = .returned (.bool (decide (key = []))) ∧ Below w.heap.size w w' := by
  have B0 := (Below.refl w.heap.size w).alloc (Nat.le_refl _) (.cells #[.string ⟨room.toArray⟩, .string ⟨sender.toArray⟩, .int .u8 (kind : Int), .string ⟨key.toArray⟩, .string ⟨body.toArray⟩, .int .i64 nonce] 56)
  have hki : ¬ ((kind : Int) = 2) := by omega
  have hkd : ((kind : Int) == 2) = false := by simpa using hki
  clear hk
  cases key with
  | nil =>
    go_enter Tryd.func66, Tryd.ntmps66
    go_wp2_with fail
    go_ret
    exact ⟨rfl, B0⟩
  | cons c r =>
    go_enter Tryd.func66, Tryd.ntmps66
    go_wp2_with fail
    go_ret
    exact ⟨rfl, B0⟩

theorem key_any (room sender key body : List UInt8) (kind : Nat) (nonce : Int) (hl : key.length ≤ 281474976710656) (w : World) (hV : Vars w) :
    Calls Tryd.prog 66 #[.agg #[.string ⟨room.toArray⟩, .string ⟨sender.toArray⟩, .int .u8 (kind : Int), .string ⟨key.toArray⟩, .string ⟨body.toArray⟩, .int .i64 nonce]] w fun e w' => e = .returned (.bool (keyB kind key)) ∧ Below w.heap.size w w' := by
  rw [keyB]
  by_cases hk : kind = 2
  · subst hk
    rw [if_pos rfl]
    exact key_member room sender key body nonce _ _ w (Lib.hid (fun w' hb => user_any key hl w' (hV.low hb)))
  · rw [if_neg hk]
    exact key_else room sender key body kind nonce hk w

set_option maxHeartbeats 2000000 in
theorem check_in (room sender key body : List UInt8) (kind : Nat) (nonce : Int) (sr su : Nat) (br bu bk bq : Bool) (hbl : body.length ≤ 281474976710656) (w : World)
    (HRM : Hid (∀ w', Below w.heap.size w w' → Calls Tryd.prog 64 #[.string ⟨room.toArray⟩] w' fun e w'' => e = .returned (.tuple #[.int .i64 (sr : Int), .bool br]) ∧ Below w'.heap.size w' w''))
    (HU : Hid (∀ w', Below w.heap.size w w' → Calls Tryd.prog 27 #[.string ⟨sender.toArray⟩] w' fun e w'' => e = .returned (.tuple #[.int .i64 (su : Int), .bool bu]) ∧ Below w'.heap.size w' w''))
    (HK : Hid (∀ w', Calls Tryd.prog 65 #[.int .u8 (kind : Int)] w' fun e w'' => e = .returned (.bool bk) ∧ w'' = w'))
    (HQ : Hid (∀ w', Below w.heap.size w w' → Calls Tryd.prog 66 #[.agg #[.string ⟨room.toArray⟩, .string ⟨sender.toArray⟩, .int .u8 (kind : Int), .string ⟨key.toArray⟩, .string ⟨body.toArray⟩, .int .i64 nonce]] w' fun e w'' => e = .returned (.bool bq) ∧ Below w'.heap.size w' w''))
    (res : Int) (HR : Hid ((if (br && bu && bk && bq) = true ∧ body.length ≤ 512 ∧ 0 ≤ nonce ∧ nonce ≤ 1099511627776 then 0 else 2) = res)) :
    Calls Tryd.prog 24 #[.agg #[.string ⟨room.toArray⟩, .string ⟨sender.toArray⟩, .int .u8 (kind : Int), .string ⟨key.toArray⟩, .string ⟨body.toArray⟩, .int .i64 nonce]] w fun e w' => e = .returned (.int .i64 res) ∧ Below w.heap.size w w' := by
  have A0 := Blk.new w #[.string ⟨room.toArray⟩, .string ⟨sender.toArray⟩, .int .u8 (kind : Int), .string ⟨key.toArray⟩, .string ⟨body.toArray⟩, .int .i64 nonce] 56
  have B0 := (Below.refl w.heap.size w).alloc (Nat.le_refl _) (.cells #[.string ⟨room.toArray⟩, .string ⟨sender.toArray⟩, .int .u8 (kind : Int), .string ⟨key.toArray⟩, .string ⟨body.toArray⟩, .int .i64 nonce] 56)
  have hsz : (ByteArray.mk body.toArray).size = body.length := by simp [ByteArray.size]
  go_enter Tryd.func24, Tryd.ntmps24
  go_wp2_with fail
  generalize w.alloc (.cells #[.string ⟨room.toArray⟩, .string ⟨sender.toArray⟩, .int .u8 (kind : Int), .string ⟨key.toArray⟩, .string ⟨body.toArray⟩, .int .i64 nonce] 56) = w1 at *
  refine (HRM.out _ B0).mono ?_
  rintro e w2 ⟨rfl, hb2⟩
  have A2 := A0.low hb2
  have B2 := B0.trans (hb2.mono B0.size)
  clear A0 B0 hb2
  have c0 := A2.cell 0 rfl
  have c1 := A2.cell 1 rfl
  have c2 := A2.cell 2 rfl
  have c3 := A2.cell 3 rfl
  have c4 := A2.cell 4 rfl
  have c5 := A2.cell 5 rfl
  go_wp2_with fail
  refine (HU.out _ B2).mono ?_
  rintro e w3 ⟨rfl, hb3⟩
  have A3 := A2.low hb3
  have B3 := B2.trans (hb3.mono B2.size)
  clear A2 B2 hb3 c0 c1 c2 c3 c4 c5
  have c0 := A3.cell 0 rfl
  have c1 := A3.cell 1 rfl
  have c2 := A3.cell 2 rfl
  have c3 := A3.cell 3 rfl
  have c4 := A3.cell 4 rfl
  have c5 := A3.cell 5 rfl
  cases br with
  | false =>
    go_wp2_with fail
    go_ret
    exact ⟨by rw [← HR.out, if_neg (by simp)]; rfl, B3⟩
  | true =>
    cases bu with
    | false =>
      go_wp2_with fail
      go_ret
      exact ⟨by rw [← HR.out, if_neg (by simp)]; rfl, B3⟩
    | true =>
      cases bk with
      | false =>
        go_wp2_with (go_at_call 65; refine (HK.out _).mono ?_; rintro e w' ⟨rfl, rfl⟩)
        go_ret
        exact ⟨by rw [← HR.out, if_neg (by simp)]; rfl, B3⟩
      | true =>
        go_wp2_with (go_at_call 65; refine (HK.out _).mono ?_; rintro e w' ⟨rfl, rfl⟩)
        refine (HQ.out _ B3).mono ?_
        rintro e w4 ⟨rfl, hb4⟩
        have A4 := A3.low hb4
        have B4 := B3.trans (hb4.mono B3.size)
        clear A3 B3 hb4 c0 c1 c2 c3 c4 c5
        have c4 := A4.cell 4 rfl
        have c5 := A4.cell 5 rfl
        cases bq with
        | false =>
          go_wp2_with fail
          go_ret
          exact ⟨by rw [← HR.out, if_neg (by simp)]; rfl, B4⟩
        | true =>
          by_cases h1 : body.length ≤ 512
          · have i1 : (body.length : Int) ≤ 512 := by omega
            have H1 := Lib.hid h1
            clear h1
            by_cases h2 : 0 ≤ nonce
            · by_cases h3 : nonce ≤ 1099511627776
              · have H3 := Lib.hid h3
                go_wp2_with fail
                go_ret
                exact ⟨by rw [← HR.out, if_pos ⟨rfl, H1.out, h2, H3.out⟩]; rfl, B4⟩
              · have HRR := Lib.hid (show (2 : Int) = res by rw [← HR.out, if_neg (fun h => h3 h.2.2.2)])
                have i3 : 1099511627776 < nonce := by omega
                clear h3
                go_wp2_with fail
                go_ret
                exact ⟨by rw [← HRR.out]; rfl, B4⟩
            · have HRR := Lib.hid (show (2 : Int) = res by rw [← HR.out, if_neg (fun h => h2 h.2.2.1)])
              have i2 : nonce < 0 := by omega
              clear h2
              go_wp2_with fail
              go_ret
              exact ⟨by rw [← HRR.out]; rfl, B4⟩
          · have HRR := Lib.hid (show (2 : Int) = res by rw [← HR.out, if_neg (fun h => h1 h.2.1)])
            have i1 : (512 : Int) < (body.length : Int) := by omega
            clear h1
            go_wp2_with fail
            go_ret
            exact ⟨by rw [← HRR.out]; rfl, B4⟩

theorem check_any (e : Ev) (hf : Fits e) (w : World) (hV : Vars w) :
    Calls Tryd.prog 24 #[evV e] w fun r w' => r = .returned (.int .i64 (checkE e : Int)) ∧ Below w.heap.size w w' := by
  refine check_in e.room e.sender e.key e.body e.kind e.nonce _ _ _ _ _ _ hf.body w (Lib.hid (fun w' hb => room_any e.room hf.room w' (hV.low hb))) (Lib.hid (fun w' hb => user_any e.sender hf.sender w' (hV.low hb)))
    (Lib.hid (fun w' => known_any e.kind w')) (Lib.hid (fun w' hb => key_any e.room e.sender e.key e.body e.kind e.nonce hf.key w' (hV.low hb))) _ (Lib.hid ?_)
  rw [checkE]
  have hs : sizeB e = true ↔ e.body.length ≤ 512 ∧ 0 ≤ e.nonce ∧ e.nonce ≤ 1099511627776 := by
    simp only [sizeB, Bool.and_eq_true, decide_eq_true_eq]
    omega
  by_cases h : formB e = true ∧ sizeB e = true
  · rw [if_pos h, if_pos ⟨h.1, hs.1 h.2⟩]; rfl
  · rw [if_neg h, if_neg (fun h2 => h ⟨h2.1, hs.2 h2.2⟩)]; rfl
end Named
end Go.Proofs.YtbgjoefpnjgdkaaDoor
