/- Joined of 2 texts: their lemmas, one behind the other; each says below what it holds. -/
import Derived.Test.YtbgjoefpnjgdkaaDoorLeftOrder
import Derived.Test.YtbgjoefpnjgdkaaDoorLeftRow
import Derived.Lib.BufferMore
/- slices.BinarySearchFunc at cells, state.find. -/
namespace Go.Proofs.YtbgjoefpnjgdkaaDoor
open Go.RowKit
set_option linter.unusedVariables false
set_option linter.unusedSimpArgs false
set_option maxRecDepth 100000
namespace Left
open Named
def target (k : Nat) (key : List UInt8) : Ev := ⟨[], [], k, key, [], 0⟩
theorem ordI_target (a e : Ev) : ordI a e = ordI a (target e.kind e.key) := rfl
set_option maxHeartbeats 16000000 in
theorem search_any (v : Value) (es : List Ev) (x : Ev) (w : World) (hr : CRow w v es) (hl : es.length ≤ 256) :
    Calls Tryd.prog 124 #[v, .agg #[.int .u8 (x.kind : Int), .string ⟨x.key.toArray⟩, .string ⟨#[]⟩, .string ⟨#[]⟩, .int .u8 0, .string ⟨#[]⟩, .string ⟨#[]⟩, .int .i64 0], .func (.func 87) #[] #[]] w fun e w' => e = .returned (.tuple #[.int .i64 (atL es x : Int), .bool (isL es x)]) ∧ Below w.heap.size w w' := by
  obtain ⟨p, cap, rfl⟩ := hr.form
  obtain ⟨xr, xs, tk, tkey, xb, xn⟩ := x
  have HR := Lib.hid hr
  have HA : Hid (bs (lessAt es ⟨xr, xs, tk, tkey, xb, xn⟩) es.length 0 es.length = atL es ⟨xr, xs, tk, tkey, xb, xn⟩) := Lib.hid rfl
  have HI : Hid (isL es ⟨xr, xs, tk, tkey, xb, xn⟩ = (decide (atL es ⟨xr, xs, tk, tkey, xb, xn⟩ < es.length) && decide (ordI (es.getD (atL es ⟨xr, xs, tk, tkey, xb, xn⟩) zeroE) ⟨xr, xs, tk, tkey, xb, xn⟩ = 0))) := Lib.hid rfl
  have HLE := Lib.hid (atL_spec es ⟨xr, xs, tk, tkey, xb, xn⟩).1
  have HP := Lib.hid (fun (h : Nat) (hh : h < es.length) => (show lessAt es ⟨xr, xs, tk, tkey, xb, xn⟩ h = decide (ordK (es[h]).kind (es[h]).key tk tkey < 0) by unfold lessAt; rw [getD_of hh]; rfl))
  have HQ := Lib.hid (fun (h : Nat) (hh : h < es.length) => (show ordI (es.getD h zeroE) ⟨xr, xs, tk, tkey, xb, xn⟩ = ordK (es[h]).kind (es[h]).key tk tkey by rw [getD_of hh]; rfl))
  have hli : (es.length : Int) ≤ 256 := by omega
  generalize lessAt es ⟨xr, xs, tk, tkey, xb, xn⟩ = pp at *
  generalize isL es ⟨xr, xs, tk, tkey, xb, xn⟩ = res at *
  generalize atL es ⟨xr, xs, tk, tkey, xb, xn⟩ = at_ at *
  clear hr
  have A0 := Blk.new w #[.int .u8 (tk : Int), .string ⟨tkey.toArray⟩, .string ⟨#[]⟩, .string ⟨#[]⟩, .int .u8 0, .string ⟨#[]⟩, .string ⟨#[]⟩, .int .i64 0] 91
  have B0 := (Below.refl w.heap.size w).alloc (Nat.le_refl _) (.cells #[.int .u8 (tk : Int), .string ⟨tkey.toArray⟩, .string ⟨#[]⟩, .string ⟨#[]⟩, .int .u8 0, .string ⟨#[]⟩, .string ⟨#[]⟩, .int .i64 0] 91)
  have hmo : Tryd.prog.follows .mixedOrders = true := by kernel_rfl
  go_enter Tryd.func124, Tryd.ntmps124
  go_wp2_with fail
  generalize w.alloc (.cells #[.int .u8 (tk : Int), .string ⟨tkey.toArray⟩, .string ⟨#[]⟩, .string ⟨#[]⟩, .int .u8 0, .string ⟨#[]⟩, .string ⟨#[]⟩, .int .i64 0] 91) = w1 at *
  have HA0 := Lib.hid A0
  have HB0 := Lib.hid B0
  clear A0 B0
  go_loopw [9, 10] (fun x y wr => ∃ i j : Nat, x = .int .i64 (i : Int) ∧ y = .int .i64 (j : Int) ∧ i ≤ j ∧ j ≤ es.length ∧ Hid (∃ f, j - i ≤ f ∧ bs pp f i j = at_) ∧ Hid (Blk wr w.heap.size [.int .u8 (tk : Int), .string ⟨tkey.toArray⟩, .string ⟨#[]⟩, .string ⟨#[]⟩, .int .u8 0, .string ⟨#[]⟩, .string ⟨#[]⟩, .int .i64 0]) ∧ Hid (Below w.heap.size w wr)) (fun x y _ => (intOf y).toNat - (intOf x).toNat)
  case atStart => exact ⟨0, es.length, rfl, rfl, by omega, by omega, Lib.hid ⟨es.length, by omega, HA.out⟩, HA0, HB0⟩
  case round =>
    clear HA0 HB0 HA
    obtain ⟨i, j, rfl, rfl, hij, hjn, HF, HX, HB⟩ := hrel
    by_cases hlt : i < j
    · obtain ⟨m, hm⟩ : ∃ m, m = (i + j) / 2 := ⟨_, rfl⟩
      have hh : m < es.length := by omega
      obtain ⟨b, rfl, -, hcap, hbl, hrg⟩ := HR.out.at hh
      have HPH := Lib.hid (HP.out _ hh)
      have HSTEP : Hid (∃ f, (pp m = true → j - (m + 1) ≤ f ∧ bs pp f (m + 1) j = at_) ∧ (pp m = false → m - i ≤ f ∧ bs pp f i m = at_)) := Lib.hid (by
        obtain ⟨f, h1, h2⟩ := HF.out
        obtain ⟨f, rfl⟩ : ∃ f', f = f' + 1 := ⟨f - 1, by omega⟩
        rw [bs, if_pos hlt, ← hm] at h2
        refine ⟨f, fun hp => ⟨by omega, ?_⟩, fun hp => ⟨by omega, ?_⟩⟩
        · rw [if_pos hp] at h2; exact h2
        · rw [if_neg (by rw [hp]; decide)] at h2; exact h2)
      have hmi : ((i : Int) + (j : Int)) / 2 = (m : Int) := by omega
      have hml : (m : Int) < (es.length : Int) := by omega
      have hijI : (i : Int) < (j : Int) := by omega
      have hjI : (j : Int) ≤ 256 := by omega
      have hm1 : i ≤ m := by omega
      have hm2 : m < j := by omega
      clear hm
      generalize es[m] = em at *
      obtain ⟨room, sender, kind, key, body, nonce⟩ := em
      have e0 := (HB.out.cell (p := ⟨b, m * 8 + 0, none⟩) hbl).trans (hrg 0 _ rfl)
      have e1 := (HB.out.cell (p := ⟨b, m * 8 + 1, none⟩) hbl).trans (hrg 1 _ rfl)
      have e2 := (HB.out.cell (p := ⟨b, m * 8 + 2, none⟩) hbl).trans (hrg 2 _ rfl)
      have e3 := (HB.out.cell (p := ⟨b, m * 8 + 3, none⟩) hbl).trans (hrg 3 _ rfl)
      have e4 := (HB.out.cell (p := ⟨b, m * 8 + 4, none⟩) hbl).trans (hrg 4 _ rfl)
      have e5 := (HB.out.cell (p := ⟨b, m * 8 + 5, none⟩) hbl).trans (hrg 5 _ rfl)
      have e6 := (HB.out.cell (p := ⟨b, m * 8 + 6, none⟩) hbl).trans (hrg 6 _ rfl)
      have e7 := (HB.out.cell (p := ⟨b, m * 8 + 7, none⟩) hbl).trans (hrg 7 _ rfl)
      clear hrg
      dsimp only at HPH
      have HX := HX.out
      have WB := HB.out
      go_wp2_with fail
      have HX := HX.drew
      have WB := WB.drew
      have S5 : (fun w' => w'.cell? ⟨b, m * 8 + 0, none⟩ = some (.int .u8 (kind : Int)) ∧ w'.cell? ⟨b, m * 8 + 1, none⟩ = some (.string ⟨key.toArray⟩) ∧ w'.cell? ⟨b, m * 8 + 2, none⟩ = some (.string ⟨room.toArray⟩) ∧ w'.cell? ⟨b, m * 8 + 3, none⟩ = some (.string ⟨sender.toArray⟩) ∧ w'.cell? ⟨b, m * 8 + 4, none⟩ = some (.int .u8 (kind : Int)) ∧ w'.cell? ⟨b, m * 8 + 5, none⟩ = some (.string ⟨key.toArray⟩) ∧ w'.cell? ⟨b, m * 8 + 6, none⟩ = some (.string ⟨body.toArray⟩) ∧ w'.cell? ⟨b, m * 8 + 7, none⟩ = some (.int .i64 nonce) ∧ w'.cell? ⟨w.heap.size, 0, none⟩ = some (.int .u8 (tk : Int)) ∧ w'.cell? ⟨w.heap.size, 1, none⟩ = some (.string ⟨tkey.toArray⟩) ∧ w'.cell? ⟨w.heap.size, 2, none⟩ = some (.string ⟨#[]⟩) ∧ w'.cell? ⟨w.heap.size, 3, none⟩ = some (.string ⟨#[]⟩) ∧ w'.cell? ⟨w.heap.size, 4, none⟩ = some (.int .u8 0) ∧ w'.cell? ⟨w.heap.size, 5, none⟩ = some (.string ⟨#[]⟩) ∧ w'.cell? ⟨w.heap.size, 6, none⟩ = some (.string ⟨#[]⟩) ∧ w'.cell? ⟨w.heap.size, 7, none⟩ = some (.int .i64 0)) wr.drew := ⟨e0, e1, e2, e3, e4, e5, e6, e7, HX.cell 0 rfl, HX.cell 1 rfl, HX.cell 2 rfl, HX.cell 3 rfl, HX.cell 4 rfl, HX.cell 5 rfl, HX.cell 6 rfl, HX.cell 7 rfl⟩
      refine wp_region_heldX (fun w' => w'.cell? ⟨b, m * 8 + 0, none⟩ = some (.int .u8 (kind : Int)) ∧ w'.cell? ⟨b, m * 8 + 1, none⟩ = some (.string ⟨key.toArray⟩) ∧ w'.cell? ⟨b, m * 8 + 2, none⟩ = some (.string ⟨room.toArray⟩) ∧ w'.cell? ⟨b, m * 8 + 3, none⟩ = some (.string ⟨sender.toArray⟩) ∧ w'.cell? ⟨b, m * 8 + 4, none⟩ = some (.int .u8 (kind : Int)) ∧ w'.cell? ⟨b, m * 8 + 5, none⟩ = some (.string ⟨key.toArray⟩) ∧ w'.cell? ⟨b, m * 8 + 6, none⟩ = some (.string ⟨body.toArray⟩) ∧ w'.cell? ⟨b, m * 8 + 7, none⟩ = some (.int .i64 nonce) ∧ w'.cell? ⟨w.heap.size, 0, none⟩ = some (.int .u8 (tk : Int)) ∧ w'.cell? ⟨w.heap.size, 1, none⟩ = some (.string ⟨tkey.toArray⟩) ∧ w'.cell? ⟨w.heap.size, 2, none⟩ = some (.string ⟨#[]⟩) ∧ w'.cell? ⟨w.heap.size, 3, none⟩ = some (.string ⟨#[]⟩) ∧ w'.cell? ⟨w.heap.size, 4, none⟩ = some (.int .u8 0) ∧ w'.cell? ⟨w.heap.size, 5, none⟩ = some (.string ⟨#[]⟩) ∧ w'.cell? ⟨w.heap.size, 6, none⟩ = some (.string ⟨#[]⟩) ∧ w'.cell? ⟨w.heap.size, 7, none⟩ = some (.int .i64 0)) [] hmo ?_
      generalize wr.drew = wd at *
      refine HeldX.move 0 (v := .func (.func 87) #[] #[]) rfl (by kernel_rfl) (by kernel_rfl) (by kernel_rfl) (by kernel_rfl) (fun _ _ _ h => h) S5 (.inl ⟨by kernel_rfl, fun w h => by go_simp⟩) ?_
      go_simp
      refine HeldX.move 1 (v := .slice (some ⟨b, 0, none⟩) es.length cap) rfl (by kernel_rfl) (by kernel_rfl) (by kernel_rfl) (by kernel_rfl) (fun _ _ _ h => h) S5 (.inl ⟨by kernel_rfl, fun w h => by go_simp⟩) ?_
      go_simp
      refine HeldX.move 2 (v := .int .i64 (m : Int)) rfl (by kernel_rfl) (by kernel_rfl) (by kernel_rfl) (by kernel_rfl) (fun _ _ _ h => h) S5 (.inl ⟨by kernel_rfl, fun w h => by go_simp⟩) ?_
      go_simp
      refine HeldX.move 3 (v := .pointer (some ⟨b, m * 8, none⟩)) rfl (by kernel_rfl) (by kernel_rfl) (by kernel_rfl) (by kernel_rfl) (fun _ _ _ h => h) S5 (.inl ⟨by kernel_rfl, fun w h => by go_simp⟩) ?_
      go_simp
      refine HeldX.take 4 (v := .agg #[.int .u8 (kind : Int), .string ⟨key.toArray⟩, .string ⟨room.toArray⟩, .string ⟨sender.toArray⟩, .int .u8 (kind : Int), .string ⟨key.toArray⟩, .string ⟨body.toArray⟩, .int .i64 nonce]) rfl (by kernel_rfl) (by kernel_rfl) (by kernel_rfl) (by kernel_rfl) (fun _ _ _ h => h) S5 (.inl ⟨by kernel_rfl, fun w h => by have h0 := h.1; have h1 := h.2.1; have h2 := h.2.2.1; have h3 := h.2.2.2.1; have h4 := h.2.2.2.2.1; have h5 := h.2.2.2.2.2.1; have h6 := h.2.2.2.2.2.2.1; have h7 := h.2.2.2.2.2.2.2.1; go_simp⟩) ?_
      go_simp
      refine HeldX.take 5 (v := .agg #[.int .u8 (tk : Int), .string ⟨tkey.toArray⟩, .string ⟨#[]⟩, .string ⟨#[]⟩, .int .u8 0, .string ⟨#[]⟩, .string ⟨#[]⟩, .int .i64 0]) rfl (by kernel_rfl) (by kernel_rfl) (by kernel_rfl) (by kernel_rfl) (fun _ _ _ h => h) S5 (.inl ⟨by kernel_rfl, fun w h => by have h8 := h.2.2.2.2.2.2.2.2.1; have h9 := h.2.2.2.2.2.2.2.2.2.1; have h10 := h.2.2.2.2.2.2.2.2.2.2.1; have h11 := h.2.2.2.2.2.2.2.2.2.2.2.1; have h12 := h.2.2.2.2.2.2.2.2.2.2.2.2.1; have h13 := h.2.2.2.2.2.2.2.2.2.2.2.2.2.1; have h14 := h.2.2.2.2.2.2.2.2.2.2.2.2.2.2.1; have h15 := h.2.2.2.2.2.2.2.2.2.2.2.2.2.2.2; go_simp⟩) ?_
      go_simp
      refine HeldX.one 6 (by kernel_rfl) rfl (by kernel_rfl) (fun K hK => ?_)
      go_simp
      refine (order_any kind tk key tkey _ _ _ _ _ _ _ _ _ _ _ _ _).mono ?_
      rintro e w2 ⟨rfl, hb⟩
      have HX2 := HX.low hb
      have S6 : (fun w' => w'.cell? ⟨b, m * 8 + 0, none⟩ = some (.int .u8 (kind : Int)) ∧ w'.cell? ⟨b, m * 8 + 1, none⟩ = some (.string ⟨key.toArray⟩) ∧ w'.cell? ⟨b, m * 8 + 2, none⟩ = some (.string ⟨room.toArray⟩) ∧ w'.cell? ⟨b, m * 8 + 3, none⟩ = some (.string ⟨sender.toArray⟩) ∧ w'.cell? ⟨b, m * 8 + 4, none⟩ = some (.int .u8 (kind : Int)) ∧ w'.cell? ⟨b, m * 8 + 5, none⟩ = some (.string ⟨key.toArray⟩) ∧ w'.cell? ⟨b, m * 8 + 6, none⟩ = some (.string ⟨body.toArray⟩) ∧ w'.cell? ⟨b, m * 8 + 7, none⟩ = some (.int .i64 nonce) ∧ w'.cell? ⟨w.heap.size, 0, none⟩ = some (.int .u8 (tk : Int)) ∧ w'.cell? ⟨w.heap.size, 1, none⟩ = some (.string ⟨tkey.toArray⟩) ∧ w'.cell? ⟨w.heap.size, 2, none⟩ = some (.string ⟨#[]⟩) ∧ w'.cell? ⟨w.heap.size, 3, none⟩ = some (.string ⟨#[]⟩) ∧ w'.cell? ⟨w.heap.size, 4, none⟩ = some (.int .u8 0) ∧ w'.cell? ⟨w.heap.size, 5, none⟩ = some (.string ⟨#[]⟩) ∧ w'.cell? ⟨w.heap.size, 6, none⟩ = some (.string ⟨#[]⟩) ∧ w'.cell? ⟨w.heap.size, 7, none⟩ = some (.int .i64 0)) w2 := ⟨(hb.cell (p := ⟨b, m * 8 + 0, none⟩) (Nat.lt_of_lt_of_le hbl WB.size)).trans (S5.1), (hb.cell (p := ⟨b, m * 8 + 1, none⟩) (Nat.lt_of_lt_of_le hbl WB.size)).trans (S5.2.1), (hb.cell (p := ⟨b, m * 8 + 2, none⟩) (Nat.lt_of_lt_of_le hbl WB.size)).trans (S5.2.2.1), (hb.cell (p := ⟨b, m * 8 + 3, none⟩) (Nat.lt_of_lt_of_le hbl WB.size)).trans (S5.2.2.2.1), (hb.cell (p := ⟨b, m * 8 + 4, none⟩) (Nat.lt_of_lt_of_le hbl WB.size)).trans (S5.2.2.2.2.1), (hb.cell (p := ⟨b, m * 8 + 5, none⟩) (Nat.lt_of_lt_of_le hbl WB.size)).trans (S5.2.2.2.2.2.1), (hb.cell (p := ⟨b, m * 8 + 6, none⟩) (Nat.lt_of_lt_of_le hbl WB.size)).trans (S5.2.2.2.2.2.2.1), (hb.cell (p := ⟨b, m * 8 + 7, none⟩) (Nat.lt_of_lt_of_le hbl WB.size)).trans (S5.2.2.2.2.2.2.2.1), HX2.cell 0 rfl, HX2.cell 1 rfl, HX2.cell 2 rfl, HX2.cell 3 rfl, HX2.cell 4 rfl, HX2.cell 5 rfl, HX2.cell 6 rfl, HX2.cell 7 rfl⟩
      have WB2 := WB.trans (hb.mono WB.size)
      refine hK _ _ S6 ?_
      clear hK K hb S5
      generalize ordK kind key tk tkey = c at *
      by_cases hc : c < 0
      · have HPT := Lib.hid (show pp m = true by rw [HPH.out]; exact decide_eq_true hc)
        refine HeldX.move 7 (v := .bool true) rfl (by kernel_rfl) (by kernel_rfl) (by kernel_rfl) (by kernel_rfl) (fun _ _ _ h => h) S6 (.inl ⟨by kernel_rfl, fun w h => by go_simp⟩) ?_
        go_simp
        refine HeldX.done (by kernel_rfl) ?_ _
        go_wp2_with fail
        go_roundw
        case rel =>
          obtain ⟨f, h1, -⟩ := HSTEP.out
          exact ⟨m + 1, j, by go_num, rfl, by omega, hjn, Lib.hid ⟨f, h1 HPT.out⟩, Lib.hid HX2, Lib.hid WB2⟩
        case measure => simp [intOf]; omega
      · have HPT := Lib.hid (show pp m = false by rw [HPH.out]; exact decide_eq_false hc)
        refine HeldX.move 7 (v := .bool false) rfl (by kernel_rfl) (by kernel_rfl) (by kernel_rfl) (by kernel_rfl) (fun _ _ _ h => h) S6 (.inl ⟨by kernel_rfl, fun w h => by go_simp⟩) ?_
        go_simp
        refine HeldX.done (by kernel_rfl) ?_ _
        go_wp2_with fail
        go_roundw
        case rel =>
          obtain ⟨f, -, h1⟩ := HSTEP.out
          exact ⟨i, m, rfl, rfl, by omega, by omega, Lib.hid ⟨f, h1 HPT.out⟩, Lib.hid HX2, Lib.hid WB2⟩
        case measure => simp [intOf]; omega
    · obtain rfl : i = j := by omega
      clear hlt hij
      have HE : Hid (at_ = i) := Lib.hid (by
        obtain ⟨f, -, h2⟩ := HF.out
        cases f with
        | zero => exact h2.symm
        | succ f => rw [bs, if_neg (Nat.lt_irrefl _)] at h2; exact h2.symm)
      have HX := HX.out
      have WB := HB.out
      by_cases hn : i < es.length
      · obtain ⟨b, rfl, -, hcap, hbl, hrg⟩ := HR.out.at hn
        have HQH := Lib.hid (HQ.out _ hn)
        have hml : (i : Int) < (es.length : Int) := by omega
        generalize es[i] = em at *
        obtain ⟨room, sender, kind, key, body, nonce⟩ := em
        have e0 := (HB.out.cell (p := ⟨b, i * 8 + 0, none⟩) hbl).trans (hrg 0 _ rfl)
        have e1 := (HB.out.cell (p := ⟨b, i * 8 + 1, none⟩) hbl).trans (hrg 1 _ rfl)
        have e2 := (HB.out.cell (p := ⟨b, i * 8 + 2, none⟩) hbl).trans (hrg 2 _ rfl)
        have e3 := (HB.out.cell (p := ⟨b, i * 8 + 3, none⟩) hbl).trans (hrg 3 _ rfl)
        have e4 := (HB.out.cell (p := ⟨b, i * 8 + 4, none⟩) hbl).trans (hrg 4 _ rfl)
        have e5 := (HB.out.cell (p := ⟨b, i * 8 + 5, none⟩) hbl).trans (hrg 5 _ rfl)
        have e6 := (HB.out.cell (p := ⟨b, i * 8 + 6, none⟩) hbl).trans (hrg 6 _ rfl)
        have e7 := (HB.out.cell (p := ⟨b, i * 8 + 7, none⟩) hbl).trans (hrg 7 _ rfl)
        clear hrg
        dsimp only at HQH
        go_wp2_with fail
        have HX := HX.drew
        have WB := WB.drew
        have S5 : (fun w' => w'.cell? ⟨b, i * 8 + 0, none⟩ = some (.int .u8 (kind : Int)) ∧ w'.cell? ⟨b, i * 8 + 1, none⟩ = some (.string ⟨key.toArray⟩) ∧ w'.cell? ⟨b, i * 8 + 2, none⟩ = some (.string ⟨room.toArray⟩) ∧ w'.cell? ⟨b, i * 8 + 3, none⟩ = some (.string ⟨sender.toArray⟩) ∧ w'.cell? ⟨b, i * 8 + 4, none⟩ = some (.int .u8 (kind : Int)) ∧ w'.cell? ⟨b, i * 8 + 5, none⟩ = some (.string ⟨key.toArray⟩) ∧ w'.cell? ⟨b, i * 8 + 6, none⟩ = some (.string ⟨body.toArray⟩) ∧ w'.cell? ⟨b, i * 8 + 7, none⟩ = some (.int .i64 nonce) ∧ w'.cell? ⟨w.heap.size, 0, none⟩ = some (.int .u8 (tk : Int)) ∧ w'.cell? ⟨w.heap.size, 1, none⟩ = some (.string ⟨tkey.toArray⟩) ∧ w'.cell? ⟨w.heap.size, 2, none⟩ = some (.string ⟨#[]⟩) ∧ w'.cell? ⟨w.heap.size, 3, none⟩ = some (.string ⟨#[]⟩) ∧ w'.cell? ⟨w.heap.size, 4, none⟩ = some (.int .u8 0) ∧ w'.cell? ⟨w.heap.size, 5, none⟩ = some (.string ⟨#[]⟩) ∧ w'.cell? ⟨w.heap.size, 6, none⟩ = some (.string ⟨#[]⟩) ∧ w'.cell? ⟨w.heap.size, 7, none⟩ = some (.int .i64 0)) wr.drew := ⟨e0, e1, e2, e3, e4, e5, e6, e7, HX.cell 0 rfl, HX.cell 1 rfl, HX.cell 2 rfl, HX.cell 3 rfl, HX.cell 4 rfl, HX.cell 5 rfl, HX.cell 6 rfl, HX.cell 7 rfl⟩
        refine wp_region_heldX (fun w' => w'.cell? ⟨b, i * 8 + 0, none⟩ = some (.int .u8 (kind : Int)) ∧ w'.cell? ⟨b, i * 8 + 1, none⟩ = some (.string ⟨key.toArray⟩) ∧ w'.cell? ⟨b, i * 8 + 2, none⟩ = some (.string ⟨room.toArray⟩) ∧ w'.cell? ⟨b, i * 8 + 3, none⟩ = some (.string ⟨sender.toArray⟩) ∧ w'.cell? ⟨b, i * 8 + 4, none⟩ = some (.int .u8 (kind : Int)) ∧ w'.cell? ⟨b, i * 8 + 5, none⟩ = some (.string ⟨key.toArray⟩) ∧ w'.cell? ⟨b, i * 8 + 6, none⟩ = some (.string ⟨body.toArray⟩) ∧ w'.cell? ⟨b, i * 8 + 7, none⟩ = some (.int .i64 nonce) ∧ w'.cell? ⟨w.heap.size, 0, none⟩ = some (.int .u8 (tk : Int)) ∧ w'.cell? ⟨w.heap.size, 1, none⟩ = some (.string ⟨tkey.toArray⟩) ∧ w'.cell? ⟨w.heap.size, 2, none⟩ = some (.string ⟨#[]⟩) ∧ w'.cell? ⟨w.heap.size, 3, none⟩ = some (.string ⟨#[]⟩) ∧ w'.cell? ⟨w.heap.size, 4, none⟩ = some (.int .u8 0) ∧ w'.cell? ⟨w.heap.size, 5, none⟩ = some (.string ⟨#[]⟩) ∧ w'.cell? ⟨w.heap.size, 6, none⟩ = some (.string ⟨#[]⟩) ∧ w'.cell? ⟨w.heap.size, 7, none⟩ = some (.int .i64 0)) [] hmo ?_
        generalize wr.drew = wd at *
        refine HeldX.move 0 (v := .int .i64 (i : Int)) rfl (by kernel_rfl) (by kernel_rfl) (by kernel_rfl) (by kernel_rfl) (fun _ _ _ h => h) S5 (.inl ⟨by kernel_rfl, fun w h => by go_simp⟩) ?_
        go_simp
        refine HeldX.move 1 (v := .int .i64 (i : Int)) rfl (by kernel_rfl) (by kernel_rfl) (by kernel_rfl) (by kernel_rfl) (fun _ _ _ h => h) S5 (.inl ⟨by kernel_rfl, fun w h => by go_simp⟩) ?_
        go_simp
        refine HeldX.move 2 (v := .int .i64 (es.length : Int)) rfl (by kernel_rfl) (by kernel_rfl) (by kernel_rfl) (by kernel_rfl) (fun _ _ _ h => h) S5 (.inl ⟨by kernel_rfl, fun w h => by go_simp⟩) ?_
        go_simp
        refine HeldX.move 3 (v := .bool true) rfl (by kernel_rfl) (by kernel_rfl) (by kernel_rfl) (by kernel_rfl) (fun _ _ _ h => h) S5 (.inl ⟨by kernel_rfl, fun w h => by go_simp⟩) ?_
        go_simp
        refine HeldX.move 4 (v := .bool true) rfl (by kernel_rfl) (by kernel_rfl) (by kernel_rfl) (by kernel_rfl) (fun _ _ _ h => h) S5 (.inl ⟨by kernel_rfl, fun w h => by go_simp⟩) ?_
        go_simp
        refine HeldX.move 5 (v := .func (.func 87) #[] #[]) rfl (by kernel_rfl) (by kernel_rfl) (by kernel_rfl) (by kernel_rfl) (fun _ _ _ h => h) S5 (.inl ⟨by kernel_rfl, fun w h => by go_simp⟩) ?_
        go_simp
        refine HeldX.move 6 (v := .slice (some ⟨b, 0, none⟩) es.length cap) rfl (by kernel_rfl) (by kernel_rfl) (by kernel_rfl) (by kernel_rfl) (fun _ _ _ h => h) S5 (.inl ⟨by kernel_rfl, fun w h => by go_simp⟩) ?_
        go_simp
        refine HeldX.move 7 (v := .int .i64 (i : Int)) rfl (by kernel_rfl) (by kernel_rfl) (by kernel_rfl) (by kernel_rfl) (fun _ _ _ h => h) S5 (.inl ⟨by kernel_rfl, fun w h => by go_simp⟩) ?_
        go_simp
        refine HeldX.move 8 (v := .pointer (some ⟨b, i * 8, none⟩)) rfl (by kernel_rfl) (by kernel_rfl) (by kernel_rfl) (by kernel_rfl) (fun _ _ _ h => h) S5 (.inl ⟨by kernel_rfl, fun w h => by go_simp⟩) ?_
        go_simp
        refine HeldX.take 9 (v := .agg #[.int .u8 (kind : Int), .string ⟨key.toArray⟩, .string ⟨room.toArray⟩, .string ⟨sender.toArray⟩, .int .u8 (kind : Int), .string ⟨key.toArray⟩, .string ⟨body.toArray⟩, .int .i64 nonce]) rfl (by kernel_rfl) (by kernel_rfl) (by kernel_rfl) (by kernel_rfl) (fun _ _ _ h => h) S5 (.inl ⟨by kernel_rfl, fun w h => by have h0 := h.1; have h1 := h.2.1; have h2 := h.2.2.1; have h3 := h.2.2.2.1; have h4 := h.2.2.2.2.1; have h5 := h.2.2.2.2.2.1; have h6 := h.2.2.2.2.2.2.1; have h7 := h.2.2.2.2.2.2.2.1; go_simp⟩) ?_
        go_simp
        refine HeldX.take 10 (v := .agg #[.int .u8 (tk : Int), .string ⟨tkey.toArray⟩, .string ⟨#[]⟩, .string ⟨#[]⟩, .int .u8 0, .string ⟨#[]⟩, .string ⟨#[]⟩, .int .i64 0]) rfl (by kernel_rfl) (by kernel_rfl) (by kernel_rfl) (by kernel_rfl) (fun _ _ _ h => h) S5 (.inl ⟨by kernel_rfl, fun w h => by have h8 := h.2.2.2.2.2.2.2.2.1; have h9 := h.2.2.2.2.2.2.2.2.2.1; have h10 := h.2.2.2.2.2.2.2.2.2.2.1; have h11 := h.2.2.2.2.2.2.2.2.2.2.2.1; have h12 := h.2.2.2.2.2.2.2.2.2.2.2.2.1; have h13 := h.2.2.2.2.2.2.2.2.2.2.2.2.2.1; have h14 := h.2.2.2.2.2.2.2.2.2.2.2.2.2.2.1; have h15 := h.2.2.2.2.2.2.2.2.2.2.2.2.2.2.2; go_simp⟩) ?_
        go_simp
        refine HeldX.one 11 (by kernel_rfl) rfl (by kernel_rfl) (fun K hK => ?_)
        go_simp
        refine (order_any kind tk key tkey _ _ _ _ _ _ _ _ _ _ _ _ _).mono ?_
        rintro e w2 ⟨rfl, hb⟩
        have HX2 := HX.low hb
        have S6 : (fun w' => w'.cell? ⟨b, i * 8 + 0, none⟩ = some (.int .u8 (kind : Int)) ∧ w'.cell? ⟨b, i * 8 + 1, none⟩ = some (.string ⟨key.toArray⟩) ∧ w'.cell? ⟨b, i * 8 + 2, none⟩ = some (.string ⟨room.toArray⟩) ∧ w'.cell? ⟨b, i * 8 + 3, none⟩ = some (.string ⟨sender.toArray⟩) ∧ w'.cell? ⟨b, i * 8 + 4, none⟩ = some (.int .u8 (kind : Int)) ∧ w'.cell? ⟨b, i * 8 + 5, none⟩ = some (.string ⟨key.toArray⟩) ∧ w'.cell? ⟨b, i * 8 + 6, none⟩ = some (.string ⟨body.toArray⟩) ∧ w'.cell? ⟨b, i * 8 + 7, none⟩ = some (.int .i64 nonce) ∧ w'.cell? ⟨w.heap.size, 0, none⟩ = some (.int .u8 (tk : Int)) ∧ w'.cell? ⟨w.heap.size, 1, none⟩ = some (.string ⟨tkey.toArray⟩) ∧ w'.cell? ⟨w.heap.size, 2, none⟩ = some (.string ⟨#[]⟩) ∧ w'.cell? ⟨w.heap.size, 3, none⟩ = some (.string ⟨#[]⟩) ∧ w'.cell? ⟨w.heap.size, 4, none⟩ = some (.int .u8 0) ∧ w'.cell? ⟨w.heap.size, 5, none⟩ = some (.string ⟨#[]⟩) ∧ w'.cell? ⟨w.heap.size, 6, none⟩ = some (.string ⟨#[]⟩) ∧ w'.cell? ⟨w.heap.size, 7, none⟩ = some (.int .i64 0)) w2 := ⟨(hb.cell (p := ⟨b, i * 8 + 0, none⟩) (Nat.lt_of_lt_of_le hbl WB.size)).trans (S5.1), (hb.cell (p := ⟨b, i * 8 + 1, none⟩) (Nat.lt_of_lt_of_le hbl WB.size)).trans (S5.2.1), (hb.cell (p := ⟨b, i * 8 + 2, none⟩) (Nat.lt_of_lt_of_le hbl WB.size)).trans (S5.2.2.1), (hb.cell (p := ⟨b, i * 8 + 3, none⟩) (Nat.lt_of_lt_of_le hbl WB.size)).trans (S5.2.2.2.1), (hb.cell (p := ⟨b, i * 8 + 4, none⟩) (Nat.lt_of_lt_of_le hbl WB.size)).trans (S5.2.2.2.2.1), (hb.cell (p := ⟨b, i * 8 + 5, none⟩) (Nat.lt_of_lt_of_le hbl WB.size)).trans (S5.2.2.2.2.2.1), (hb.cell (p := ⟨b, i * 8 + 6, none⟩) (Nat.lt_of_lt_of_le hbl WB.size)).trans (S5.2.2.2.2.2.2.1), (hb.cell (p := ⟨b, i * 8 + 7, none⟩) (Nat.lt_of_lt_of_le hbl WB.size)).trans (S5.2.2.2.2.2.2.2.1), HX2.cell 0 rfl, HX2.cell 1 rfl, HX2.cell 2 rfl, HX2.cell 3 rfl, HX2.cell 4 rfl, HX2.cell 5 rfl, HX2.cell 6 rfl, HX2.cell 7 rfl⟩
        have WB2 := WB.trans (hb.mono WB.size)
        refine hK _ _ S6 ?_
        clear hK K hb S5
        generalize ordK kind key tk tkey = c at *
        by_cases hc : c = 0
        · have HRES := Lib.hid (show res = true by rw [HI.out, HE.out, HQH.out]; simp [hn, hc])
          subst hc
          refine HeldX.move 12 (v := .bool true) rfl (by kernel_rfl) (by kernel_rfl) (by kernel_rfl) (by kernel_rfl) (fun _ _ _ h => h) S6 (.inl ⟨by kernel_rfl, fun w h => by go_simp⟩) ?_
          go_simp
          refine HeldX.move 13 (v := .bool true) rfl (by kernel_rfl) (by kernel_rfl) (by kernel_rfl) (by kernel_rfl) (fun _ _ _ h => h) S6 (.inl ⟨by kernel_rfl, fun w h => by go_simp⟩) ?_
          go_simp
          refine HeldX.move 14 (v := .int .i64 (i : Int)) rfl (by kernel_rfl) (by kernel_rfl) (by kernel_rfl) (by kernel_rfl) (fun _ _ _ h => h) S6 (.inl ⟨by kernel_rfl, fun w h => by go_simp⟩) ?_
          go_simp
          refine HeldX.move 15 (v := .bool true) rfl (by kernel_rfl) (by kernel_rfl) (by kernel_rfl) (by kernel_rfl) (fun _ _ _ h => h) S6 (.inl ⟨by kernel_rfl, fun w h => by go_simp⟩) ?_
          go_simp
          refine HeldX.done (by kernel_rfl) ?_ _
          go_wp2_with fail
          refine bodyPost_ret (v := .tuple #[.int .i64 (i : Int), .bool true]) (by simp [results, Tryd.f124, go_sem]) rfl ⟨by rw [HRES.out, HE.out], WB2⟩
        · have HRES := Lib.hid (show res = false by rw [HI.out, HE.out, HQH.out]; simp [hc])
          have hcd : (c == 0) = false := by simpa using hc
          refine HeldX.move 12 (v := .bool false) rfl (by kernel_rfl) (by kernel_rfl) (by kernel_rfl) (by kernel_rfl) (fun _ _ _ h => h) S6 (.inl ⟨by kernel_rfl, fun w h => by go_simp⟩) ?_
          go_simp
          refine HeldX.move 13 (v := .bool false) rfl (by kernel_rfl) (by kernel_rfl) (by kernel_rfl) (by kernel_rfl) (fun _ _ _ h => h) S6 (.inl ⟨by kernel_rfl, fun w h => by go_simp⟩) ?_
          go_simp
          refine HeldX.move 14 (v := .int .i64 (i : Int)) rfl (by kernel_rfl) (by kernel_rfl) (by kernel_rfl) (by kernel_rfl) (fun _ _ _ h => h) S6 (.inl ⟨by kernel_rfl, fun w h => by go_simp⟩) ?_
          go_simp
          refine HeldX.move 15 (v := .bool false) rfl (by kernel_rfl) (by kernel_rfl) (by kernel_rfl) (by kernel_rfl) (fun _ _ _ h => h) S6 (.inl ⟨by kernel_rfl, fun w h => by go_simp⟩) ?_
          go_simp
          refine HeldX.done (by kernel_rfl) ?_ _
          go_wp2_with fail
          refine bodyPost_ret (v := .tuple #[.int .i64 (i : Int), .bool false]) (by simp [results, Tryd.f124, go_sem]) rfl ⟨by rw [HRES.out, HE.out], WB2⟩
      · have hni : es.length = i := by omega
        have HRES := Lib.hid (show res = false by rw [HI.out, HE.out]; simp [hn])
        rw [hni]
        have HX := HX.drew
        have WB := WB.drew
        go_wp2_with fail
        refine wp_region_heldX (fun _ => True) [] hmo ?_
        generalize wr.drew = wd at *
        refine HeldX.move 0 (v := .int .i64 (i : Int)) rfl (by kernel_rfl) (by kernel_rfl) (by kernel_rfl) (by kernel_rfl) (fun _ _ _ h => h) trivial (.inl ⟨by kernel_rfl, fun w h => by go_simp⟩) ?_
        go_simp
        refine HeldX.move 1 (v := .int .i64 (i : Int)) rfl (by kernel_rfl) (by kernel_rfl) (by kernel_rfl) (by kernel_rfl) (fun _ _ _ h => h) trivial (.inl ⟨by kernel_rfl, fun w h => by go_simp⟩) ?_
        go_simp
        refine HeldX.move 2 (v := .int .i64 (i : Int)) rfl (by kernel_rfl) (by kernel_rfl) (by kernel_rfl) (by kernel_rfl) (fun _ _ _ h => h) trivial (.inl ⟨by kernel_rfl, fun w h => by go_simp⟩) ?_
        go_simp
        refine HeldX.move 3 (v := .bool false) rfl (by kernel_rfl) (by kernel_rfl) (by kernel_rfl) (by kernel_rfl) (fun _ _ _ h => h) trivial (.inl ⟨by kernel_rfl, fun w h => by go_simp⟩) ?_
        go_simp
        refine HeldX.move 4 (v := .bool false) rfl (by kernel_rfl) (by kernel_rfl) (by kernel_rfl) (by kernel_rfl) (fun _ _ _ h => h) trivial (.inl ⟨by kernel_rfl, fun w h => by go_simp⟩) ?_
        go_simp
        refine HeldX.move 5 (v := undef) rfl (by kernel_rfl) (by kernel_rfl) (by kernel_rfl) (by kernel_rfl) (fun _ _ _ h => h) trivial (.inr ⟨by kernel_rfl, rfl⟩) ?_
        go_simp
        refine HeldX.move 6 (v := undef) rfl (by kernel_rfl) (by kernel_rfl) (by kernel_rfl) (by kernel_rfl) (fun _ _ _ h => h) trivial (.inr ⟨by kernel_rfl, rfl⟩) ?_
        go_simp
        refine HeldX.move 7 (v := undef) rfl (by kernel_rfl) (by kernel_rfl) (by kernel_rfl) (by kernel_rfl) (fun _ _ _ h => h) trivial (.inr ⟨by kernel_rfl, rfl⟩) ?_
        go_simp
        refine HeldX.move 8 (v := undef) rfl (by kernel_rfl) (by kernel_rfl) (by kernel_rfl) (by kernel_rfl) (fun _ _ _ h => h) trivial (.inr ⟨by kernel_rfl, rfl⟩) ?_
        go_simp
        refine HeldX.move 9 (v := undef) rfl (by kernel_rfl) (by kernel_rfl) (by kernel_rfl) (by kernel_rfl) (fun _ _ _ h => h) trivial (.inr ⟨by kernel_rfl, rfl⟩) ?_
        go_simp
        refine HeldX.move 10 (v := undef) rfl (by kernel_rfl) (by kernel_rfl) (by kernel_rfl) (by kernel_rfl) (fun _ _ _ h => h) trivial (.inr ⟨by kernel_rfl, rfl⟩) ?_
        go_simp
        refine HeldX.move 11 (v := undef) rfl (by kernel_rfl) (by kernel_rfl) (by kernel_rfl) (by kernel_rfl) (fun _ _ _ h => h) trivial (.inr ⟨by kernel_rfl, rfl⟩) ?_
        go_simp
        refine HeldX.move 12 (v := undef) rfl (by kernel_rfl) (by kernel_rfl) (by kernel_rfl) (by kernel_rfl) (fun _ _ _ h => h) trivial (.inr ⟨by kernel_rfl, rfl⟩) ?_
        go_simp
        refine HeldX.move 13 (v := .bool false) rfl (by kernel_rfl) (by kernel_rfl) (by kernel_rfl) (by kernel_rfl) (fun _ _ _ h => h) trivial (.inl ⟨by kernel_rfl, fun w h => by go_simp⟩) ?_
        go_simp
        refine HeldX.move 14 (v := .int .i64 (i : Int)) rfl (by kernel_rfl) (by kernel_rfl) (by kernel_rfl) (by kernel_rfl) (fun _ _ _ h => h) trivial (.inl ⟨by kernel_rfl, fun w h => by go_simp⟩) ?_
        go_simp
        refine HeldX.move 15 (v := .bool false) rfl (by kernel_rfl) (by kernel_rfl) (by kernel_rfl) (by kernel_rfl) (fun _ _ _ h => h) trivial (.inl ⟨by kernel_rfl, fun w h => by go_simp⟩) ?_
        go_simp
        refine HeldX.done (by kernel_rfl) ?_ _
        go_wp2_with fail
        refine bodyPost_ret (v := .tuple #[.int .i64 (i : Int), .bool false]) (by simp [results, Tryd.f124, go_sem]) rfl ⟨by rw [HRES.out, HE.out], WB⟩

end Left
end Go.Proofs.YtbgjoefpnjgdkaaDoor
/- state.find, slices.Clone at cells. -/
namespace Go.Proofs.YtbgjoefpnjgdkaaDoor
open Go.RowKit
set_option linter.unusedVariables false
set_option linter.unusedSimpArgs false
set_option maxRecDepth 100000
namespace Left
open Named
theorem find_any (v : Value) (es : List Ev) (x : Ev) (w : World) (hr : CRow w v es) (hl : es.length ≤ 256) :
    Calls Tryd.prog 85 #[v, .int .u8 (x.kind : Int), .string ⟨x.key.toArray⟩] w fun e w' => e = .returned (.tuple #[.int .i64 (atL es x : Int), .bool (isL es x)]) ∧ Below w.heap.size w w' := by
  have HS := Lib.hid (search_any v es x w hr hl)
  generalize atL es x = a at *
  generalize isL es x = b at *
  obtain ⟨xr, xs, k, key, xb, xn⟩ := x
  dsimp only at HS ⊢
  go_enter Tryd.func85, Tryd.ntmps85
  go_wp2_with fail
  refine HS.out.mono ?_
  rintro e w2 ⟨rfl, hb⟩
  go_wp2_with fail
  refine bodyPost_ret (v := .tuple #[.int .i64 (a : Int), .bool b]) (by simp [results, Tryd.f85, go_sem]) rfl ⟨rfl, hb⟩

theorem CRow.cells {w : World} {b n cap : Nat} {es : List Ev} (h : CRow w (.slice (some ⟨b, 0, none⟩) n cap) es) : ∀ j u, (es.flatMap cellL)[j]? = some u → w.cell? ((⟨b, 0, none⟩ : Addr).add j) = some u := by
  intro j u hu
  have hj := (List.getElem?_eq_some_iff.1 hu).1
  rw [flat_len] at hj
  have hi : j / 8 < es.length := by omega
  obtain ⟨b', e1, -, -, -, hr⟩ := h.at hi
  injection e1 with e1
  injection e1 with e1
  subst e1
  have e : (⟨b, 0, none⟩ : Addr).add j = ⟨b, j, none⟩ := by unfold Addr.add; split <;> simp_all
  rw [e]
  have h2 : (es.flatMap cellL)[j / 8 * 8 + j % 8]? = some u := by rw [show j / 8 * 8 + j % 8 = j by omega]; exact hu
  have h3 : (cellL es[j / 8])[j % 8]? = some u := by
    have := flat_drop es (j / 8)
    rw [← List.getElem?_drop, this, List.drop_eq_getElem_cons hi, List.flatMap_cons, List.getElem?_append_left (by rw [show (cellL es[j / 8]).length = 8 from rfl]; omega)] at h2
    exact h2
  have h4 := hr (j % 8) u h3
  rwa [show j / 8 * 8 + j % 8 = j by omega] at h4

set_option maxHeartbeats 1000000 in
theorem clone_any (v : Value) (es : List Ev) (w : World) (hr : CRow w v es) (hl : es.length ≤ 256) :
    Calls Tryd.prog 83 #[v] w fun e w' => ∃ v', e = .returned v' ∧ OwnE w.heap.size w' v' es ∧ (0 < es.length ∨ v' = .slice none 0 0) ∧ Below w.heap.size w w' := by
  rcases hr with ⟨rfl, rfl⟩ | ⟨b, cap, rfl, hb, hc, hr⟩
  · have hnil : ∀ W, (binOp .eql 84 (.slice none 0 0) (.slice none 0 0)).run Tryd.prog W = .ok (.bool true) W := fun W => Lib.run_eql_slice_nil_nil W _ _ Tryd.underlying84
    go_enter Tryd.func83, Tryd.ntmps83
    go_wp2_with fail
    go_ret
    exact ⟨_, rfl, OwnE.nil _ _, .inr rfl, Below.refl _ _⟩
  · have hsome : ∀ W n, (binOp .eql 84 (.slice (some ⟨b, 0, none⟩) n cap) (.slice none 0 0)).run Tryd.prog W = .ok (.bool false) W := fun W n => Lib.run_eql_slice_some_nil W _ _ _ Tryd.underlying84
    have hC : CRow w (.slice (some ⟨b, 0, none⟩) es.length cap) es := .inr ⟨b, cap, rfl, hb, hc, hr⟩
    have hal := (Below.refl w.heap.size w).alloc (Nat.le_refl _) (.cells #[] 91)
    have HCC := Lib.hid (hC.low hal).cells
    have HO := World.ownsRow_made (base := w.heap.size) (e := 91) (size := 8) w #[] 0 (Nat.le_refl _) (by unfold maxLen; omega) rfl
    have hz := World.size_alloc w (.cells #[] 91)
    have HL := Lib.hid (flat_len es)
    have H1 := Lib.hid (flat_one es)
    have HCAP := hc.2
    have hpos := hc.1
    obtain ⟨i0, hin, hz0, hz1, hz2⟩ := info_parts info_cell
    clear hr hC hb hc
    generalize hfl : es.flatMap cellL = fl at *
    have HFL := Lib.hid hfl
    clear hfl
    go_enter Tryd.func83, Tryd.ntmps83
    go_wp2_with (at_builtin; go_must (refine wpList_append_own _ rfl _ _ _ rfl w.heap.size 91 i0 (.agg #[.int .u8 0, .string ByteArray.empty, .string ByteArray.empty, .string ByteArray.empty, .int .u8 0, .string ByteArray.empty, .string ByteArray.empty, .int .i64 0]) 8 104 Tryd.underlying84 hin hz0 hz1 hz2 (by simp [Value.cells]) (by decide) _ 0 [] rfl HO ⟨b, 0, none⟩ es.length cap fl rfl HL.out HCC.out H1.out (by unfold maxLen; omega) (by omega) (by omega) ?_; intro v' w3 hown' hgrow hiff; clear hiff))
    have hb3 : Below w.heap.size w w3 := hal.grown hgrow (by omega) (fun k hk => Nat.le_of_eq (Option.some.inj (show some w.heap.size = some k from hk)))
    rw [List.nil_append, Nat.zero_add] at hown'
    go_ret
    exact ⟨_, rfl, by rw [OwnE, HFL.out]; exact hown', .inl hpos, hb3⟩
end Left
end Go.Proofs.YtbgjoefpnjgdkaaDoor
