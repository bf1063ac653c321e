/- event.Bytes. -/
import Derived.Test.YtbgjoefpnjgdkaaDoorEventKind
import Derived.Test.YtbgjoefpnjgdkaaDoorOctAll
namespace Go.Proofs.YtbgjoefpnjgdkaaDoor
open Go.RowKit
set_option linter.unusedVariables false
set_option linter.unusedSimpArgs false
set_option maxRecDepth 100000
namespace Named
open Oct
theorem six_row (a b c d e f : List UInt8) (w : World) (t : TypeId) : StrRow (w.alloc (.cells #[.string ⟨a.toArray⟩, .string ⟨b.toArray⟩, .string ⟨c.toArray⟩, .string ⟨d.toArray⟩, .string ⟨e.toArray⟩, .string ⟨f.toArray⟩] t)) (.slice (some ⟨w.heap.size, 0, none⟩) 6 6) [a, b, c, d, e, f] := by
  have A := Blk.new w #[.string ⟨a.toArray⟩, .string ⟨b.toArray⟩, .string ⟨c.toArray⟩, .string ⟨d.toArray⟩, .string ⟨e.toArray⟩, .string ⟨f.toArray⟩] t
  refine .inr ⟨w.heap.size, 0, 6, rfl, A.size, fun j hj => ?_⟩
  have hj6 : j < 6 := hj
  rw [Nat.zero_add]
  obtain rfl | rfl | rfl | rfl | rfl | rfl : j = 0 ∨ j = 1 ∨ j = 2 ∨ j = 3 ∨ j = 4 ∨ j = 5 := by omega
  all_goals exact A.cell _ rfl

set_option maxHeartbeats 1000000 in
theorem bytes_bad (room sender key body : List UInt8) (kind : Nat) (n : Int) (w : World)
    (HC : Hid (∀ w', Below w.heap.size w w' → Calls Tryd.prog 24 #[.agg #[.string ⟨room.toArray⟩, .string ⟨sender.toArray⟩, .int .u8 (kind : Int), .string ⟨key.toArray⟩, .string ⟨body.toArray⟩, .int .i64 n]] w' fun e w'' => e = .returned (.int .i64 2) ∧ Below w'.heap.size w' w'')) :
    Calls Tryd.prog 28 #[.agg #[.string ⟨room.toArray⟩, .string ⟨sender.toArray⟩, .int .u8 (kind : Int), .string ⟨key.toArray⟩, .string ⟨body.toArray⟩, .int .i64 n]] w fun e w' => e = .returned (.tuple #[.string ⟨#[]⟩, .int .i64 2]) ∧ Below w.heap.size w w' := by
  have A0 := Blk.new w #[.string ⟨room.toArray⟩, .string ⟨sender.toArray⟩, .int .u8 (kind : Int), .string ⟨key.toArray⟩, .string ⟨body.toArray⟩, .int .i64 n] 56
  have B0 := (Below.refl w.heap.size w).alloc (Nat.le_refl _) (.cells #[.string ⟨room.toArray⟩, .string ⟨sender.toArray⟩, .int .u8 (kind : Int), .string ⟨key.toArray⟩, .string ⟨body.toArray⟩, .int .i64 n] 56)
  go_enter Tryd.func28, Tryd.ntmps28
  go_wp2_with fail
  refine (HC.out _ B0).mono ?_
  rintro e w2 ⟨rfl, hb2⟩
  have B2 := B0.trans (hb2.mono B0.size)
  go_wp2_with fail
  go_ret2
  exact ⟨rfl, B2⟩

set_option maxHeartbeats 4000000 in
theorem bytes_ok (room sender key body wd nt : List UInt8) (kind n : Nat) (hk9 : kind < 9) (hn : n ≤ 1099511627776) (w : World)
    (HC : Hid (∀ w', Below w.heap.size w w' → Calls Tryd.prog 24 #[.agg #[.string ⟨room.toArray⟩, .string ⟨sender.toArray⟩, .int .u8 (kind : Int), .string ⟨key.toArray⟩, .string ⟨body.toArray⟩, .int .i64 (n : Int)]] w' fun e w'' => e = .returned (.int .i64 0) ∧ Below w'.heap.size w' w''))
    (HN : Hid (∀ w', Calls Tryd.prog 38 #[.int .u64 (n : Int)] w' fun e w'' => e = .returned (.tuple #[.string ⟨nt.toArray⟩, .int .i64 0]) ∧ Below w'.heap.size w' w''))
    (HWD : Hid (w.cell? ⟨2, kind, none⟩ = some (.string ⟨wd.toArray⟩))) (lr : List UInt8) (le : Nat) (hlr : listR [room, sender, wd, key, body, nt] = (lr, le)) :
    Calls Tryd.prog 28 #[.agg #[.string ⟨room.toArray⟩, .string ⟨sender.toArray⟩, .int .u8 (kind : Int), .string ⟨key.toArray⟩, .string ⟨body.toArray⟩, .int .i64 (n : Int)]] w fun e w' => e = .returned (.tuple #[.string ⟨lr.toArray⟩, .int .i64 (le : Int)]) ∧ Below w.heap.size w w' := by
  have HL : Hid (∀ v w', StrRow w' v [room, sender, wd, key, body, nt] → Calls Tryd.prog 10 #[v] w' fun e w'' => e = .returned (.tuple #[.string ⟨lr.toArray⟩, .int .i64 (le : Int)]) ∧ Below w'.heap.size w' w'') := by
    refine Lib.hid (fun v w' h => ?_)
    have := list_any v _ w' h
    rw [hlr] at this
    exact this
  clear hlr
  have hk9i : (kind : Int) < 9 := by omega
  have hk0 : (0 : Int) ≤ (kind : Int) := by omega
  have hni : (n : Int) ≤ 1099511627776 := by omega
  have hn0 : (0 : Int) ≤ (n : Int) := by omega
  clear hn
  have hmo : Tryd.prog.follows .mixedOrders = true := by kernel_rfl
  have A0 := Blk.new w #[.string ⟨room.toArray⟩, .string ⟨sender.toArray⟩, .int .u8 (kind : Int), .string ⟨key.toArray⟩, .string ⟨body.toArray⟩, .int .i64 (n : Int)] 56
  have B0 := (Below.refl w.heap.size w).alloc (Nat.le_refl _) (.cells #[.string ⟨room.toArray⟩, .string ⟨sender.toArray⟩, .int .u8 (kind : Int), .string ⟨key.toArray⟩, .string ⟨body.toArray⟩, .int .i64 (n : Int)] 56)
  go_enter Tryd.func28, Tryd.ntmps28
  go_wp2_with fail
  generalize w.alloc (.cells #[.string ⟨room.toArray⟩, .string ⟨sender.toArray⟩, .int .u8 (kind : Int), .string ⟨key.toArray⟩, .string ⟨body.toArray⟩, .int .i64 (n : Int)] 56) = w1 at *
  refine (HC.out _ B0).mono ?_
  rintro e w2 ⟨rfl, hb2⟩
  have A2 := A0.low hb2
  have B2 := B0.trans (hb2.mono B0.size)
  clear A0 B0 hb2
  have c5 := A2.cell 5 rfl
  go_wp2_with fail
  refine (HN.out _).mono ?_
  rintro e w3 ⟨rfl, hb3⟩
  have A3 := A2.low hb3
  have B3 := B2.trans (hb3.mono B2.size)
  clear A2 B2 hb3 c5
  go_wp2_with fail
  have S3 : (fun w' => w'.cell? ⟨w.heap.size, 0, none⟩ = some (.string ⟨room.toArray⟩) ∧ w'.cell? ⟨w.heap.size, 1, none⟩ = some (.string ⟨sender.toArray⟩) ∧ w'.cell? ⟨w.heap.size, 2, none⟩ = some (.int .u8 (kind : Int)) ∧ w'.cell? ⟨w.heap.size, 3, none⟩ = some (.string ⟨key.toArray⟩) ∧ w'.cell? ⟨w.heap.size, 4, none⟩ = some (.string ⟨body.toArray⟩) ∧ w'.cell? ⟨2, kind, none⟩ = some (.string ⟨wd.toArray⟩)) w3.drew := ⟨A3.drew.cell 0 rfl, A3.drew.cell 1 rfl, A3.drew.cell 2 rfl, A3.drew.cell 3 rfl, A3.drew.cell 4 rfl, (cell_low HWD.out B3.drew)⟩
  refine wp_region_heldX (fun w' => w'.cell? ⟨w.heap.size, 0, none⟩ = some (.string ⟨room.toArray⟩) ∧ w'.cell? ⟨w.heap.size, 1, none⟩ = some (.string ⟨sender.toArray⟩) ∧ w'.cell? ⟨w.heap.size, 2, none⟩ = some (.int .u8 (kind : Int)) ∧ w'.cell? ⟨w.heap.size, 3, none⟩ = some (.string ⟨key.toArray⟩) ∧ w'.cell? ⟨w.heap.size, 4, none⟩ = some (.string ⟨body.toArray⟩) ∧ w'.cell? ⟨2, kind, none⟩ = some (.string ⟨wd.toArray⟩)) [13] hmo ?_
  refine HeldX.move 0 (v := .pointer (some ⟨w.heap.size, 0, none⟩)) rfl (by kernel_rfl) (by kernel_rfl) (by kernel_rfl) (by kernel_rfl) (fun _ _ _ h => h) S3 (.inl ⟨by kernel_rfl, fun w h => by go_simp⟩) ?_
  go_simp
  refine HeldX.take 1 (v := .string ⟨room.toArray⟩) rfl (by kernel_rfl) (by kernel_rfl) (by kernel_rfl) (by kernel_rfl) (fun _ _ _ h => h) S3 (.inl ⟨by kernel_rfl, fun w h => by have h1 := h.1; go_simp⟩) ?_
  go_simp
  refine HeldX.move 2 (v := .pointer (some ⟨w.heap.size, 1, none⟩)) rfl (by kernel_rfl) (by kernel_rfl) (by kernel_rfl) (by kernel_rfl) (fun _ _ _ h => h) S3 (.inl ⟨by kernel_rfl, fun w h => by go_simp⟩) ?_
  go_simp
  refine HeldX.take 3 (v := .string ⟨sender.toArray⟩) rfl (by kernel_rfl) (by kernel_rfl) (by kernel_rfl) (by kernel_rfl) (fun _ _ _ h => h) S3 (.inl ⟨by kernel_rfl, fun w h => by have h1 := h.2.1; go_simp⟩) ?_
  go_simp
  refine HeldX.move 4 (v := .pointer (some ⟨w.heap.size, 2, none⟩)) rfl (by kernel_rfl) (by kernel_rfl) (by kernel_rfl) (by kernel_rfl) (fun _ _ _ h => h) S3 (.inl ⟨by kernel_rfl, fun w h => by go_simp⟩) ?_
  go_simp
  refine HeldX.take 5 (v := .int .u8 (kind : Int)) rfl (by kernel_rfl) (by kernel_rfl) (by kernel_rfl) (by kernel_rfl) (fun _ _ _ h => h) S3 (.inl ⟨by kernel_rfl, fun w h => by have h1 := h.2.2.1; go_simp⟩) ?_
  go_simp
  refine HeldX.move 6 (v := .pointer (some ⟨2, kind, none⟩)) rfl (by kernel_rfl) (by kernel_rfl) (by kernel_rfl) (by kernel_rfl) (fun _ _ _ h => h) S3 (.inl ⟨by kernel_rfl, fun w h => by go_simp⟩) ?_
  go_simp
  refine HeldX.take 7 (v := .string ⟨wd.toArray⟩) rfl (by kernel_rfl) (by kernel_rfl) (by kernel_rfl) (by kernel_rfl) (fun _ _ _ h => h) S3 (.inl ⟨by kernel_rfl, fun w h => by have h1 := h.2.2.2.2.2; go_simp⟩) ?_
  go_simp
  refine HeldX.move 8 (v := .pointer (some ⟨w.heap.size, 3, none⟩)) rfl (by kernel_rfl) (by kernel_rfl) (by kernel_rfl) (by kernel_rfl) (fun _ _ _ h => h) S3 (.inl ⟨by kernel_rfl, fun w h => by go_simp⟩) ?_
  go_simp
  refine HeldX.take 9 (v := .string ⟨key.toArray⟩) rfl (by kernel_rfl) (by kernel_rfl) (by kernel_rfl) (by kernel_rfl) (fun _ _ _ h => h) S3 (.inl ⟨by kernel_rfl, fun w h => by have h1 := h.2.2.2.1; go_simp⟩) ?_
  go_simp
  refine HeldX.move 10 (v := .pointer (some ⟨w.heap.size, 4, none⟩)) rfl (by kernel_rfl) (by kernel_rfl) (by kernel_rfl) (by kernel_rfl) (fun _ _ _ h => h) S3 (.inl ⟨by kernel_rfl, fun w h => by go_simp⟩) ?_
  go_simp
  refine HeldX.take 11 (v := .string ⟨body.toArray⟩) rfl (by kernel_rfl) (by kernel_rfl) (by kernel_rfl) (by kernel_rfl) (fun _ _ _ h => h) S3 (.inl ⟨by kernel_rfl, fun w h => by have h1 := h.2.2.2.2.1; go_simp⟩) ?_
  go_simp
  refine HeldX.move 12 (v := .string ⟨nt.toArray⟩) rfl (by kernel_rfl) (by kernel_rfl) (by kernel_rfl) (by kernel_rfl) (fun _ _ _ h => h) S3 (.inl ⟨by kernel_rfl, fun w h => by go_simp⟩) ?_
  go_simp
  have H4 := Lib.hid (six_row room sender wd key body nt w3 9)
  have B4 := B3.alloc B3.size (.cells #[.string ⟨room.toArray⟩, .string ⟨sender.toArray⟩, .string ⟨wd.toArray⟩, .string ⟨key.toArray⟩, .string ⟨body.toArray⟩, .string ⟨nt.toArray⟩] 9)
  refine HeldX.last 13 (by kernel_rfl) (by kernel_rfl) rfl (by kernel_rfl) (fun K hK => ?_)
  go_simp
  refine hK _ _ ?_
  clear hK K
  have H4d : StrRow (w3.alloc (.cells #[.string ⟨room.toArray⟩, .string ⟨sender.toArray⟩, .string ⟨wd.toArray⟩, .string ⟨key.toArray⟩, .string ⟨body.toArray⟩, .string ⟨nt.toArray⟩] 9)).drew (.slice (some ⟨w3.heap.size, 0, none⟩) 6 6) [room, sender, wd, key, body, nt] := H4.out
  have B4d := B4.drew
  refine HeldX.last 14 (by kernel_rfl) (by kernel_rfl) rfl (by kernel_rfl) (fun K hK => ?_)
  go_simp
  refine (HL.out _ _ H4d).mono ?_
  rintro e w5 ⟨rfl, hb5⟩
  have B5 := B4d.trans (hb5.mono B4d.size)
  refine hK _ _ ?_
  clear hK K
  refine HeldX.moveL 15 (v := .string ⟨lr.toArray⟩) rfl (by kernel_rfl) (by kernel_rfl) (by kernel_rfl) (by kernel_rfl) (by kernel_rfl) (fun _ _ _ h => h) (.inl ⟨by kernel_rfl, fun w h => by go_simp⟩) ?_
  go_simp
  refine HeldX.moveL 16 (v := .int .i64 (le : Int)) rfl (by kernel_rfl) (by kernel_rfl) (by kernel_rfl) (by kernel_rfl) (by kernel_rfl) (fun _ _ _ h => h) (.inl ⟨by kernel_rfl, fun w h => by go_simp⟩) ?_
  go_simp
  refine HeldX.last 17 (by kernel_rfl) (by kernel_rfl) rfl (by kernel_rfl) (fun K hK => ?_)
  go_simp
  refine hK _ _ ?_
  clear hK K
  refine HeldX.last 18 (by kernel_rfl) (by kernel_rfl) rfl (by kernel_rfl) (fun K hK => ?_)
  go_simp
  refine hK _ _ ?_
  clear hK K
  refine HeldX.done (by kernel_rfl) ?_ _
  go_wp2_with fail
  go_ret2
  exact ⟨rfl, B5⟩

theorem numR_ok (n : Nat) (h : n ≤ 1099511627776) : (numR n).2 = 0 := by
  rw [numR, if_pos (by omega)]

theorem bytes_any (e : Ev) (hf : Fits e) (w : World) (hV : Vars w) (hW : Words w) :
    Calls Tryd.prog 28 #[evV e] w fun r w' => r = .returned (.tuple #[.string ⟨(bytesE e).1.toArray⟩, .int .i64 ((bytesE e).2 : Int)]) ∧ Below w.heap.size w w' := by
  rw [bytesE]
  by_cases hc : checkE e = 0
  · rw [if_pos hc]
    obtain ⟨room, sender, kind, key, body, nonce⟩ := e
    obtain ⟨-, -, hk, -, -, h0, h1⟩ := check_parts hc
    obtain ⟨n, rfl⟩ : ∃ n : Nat, nonce = (n : Int) := ⟨nonce.toNat, (Int.toNat_of_nonneg h0).symm⟩
    have hn : n ≤ 1099511627776 := by
      have h2 : (n : Int) ≤ 1099511627776 := h1
      omega
    refine bytes_ok room sender key body (wordL kind) (numR n).1 kind n hk.2 hn w (Lib.hid fun w' hb => ?_) (Lib.hid fun w' => ?_) (Lib.hid (hW kind hk.2)) _ _ ?_
    · have h := check_any _ hf w' (hV.low hb)
      rw [hc] at h
      exact h
    · have h := num_any n w'
      rw [numR_ok n hn] at h
      exact h
    · show listR [room, sender, wordL kind, key, body, (numR n).1] = _
      rw [show (textsE ⟨room, sender, kind, key, body, (n : Int)⟩) = [room, sender, wordL kind, key, body, (numR n).1] by simp [textsE]]
  · rw [if_neg hc]
    have h2 : checkE e = 2 := by rw [checkE] at hc ⊢; split at hc <;> simp_all
    refine bytes_bad e.room e.sender e.key e.body e.kind e.nonce w (Lib.hid fun w' hb => ?_)
    have h := check_any e hf w' (hV.low hb)
    rw [h2] at h
    exact h
end Named
end Go.Proofs.YtbgjoefpnjgdkaaDoor
