/- ident.Text. -/
import Derived.Test.YtbgjoefpnjgdkaaDoorIdentUint
import Derived.Test.YtbgjoefpnjgdkaaDoorHeldOut
import Derived.Test.YtbgjoefpnjgdkaaDoorBlk
import Derived.Deep.AppendLies
namespace Go.Proofs.YtbgjoefpnjgdkaaDoor
open Go.RowKit
set_option linter.unusedVariables false
set_option linter.unusedSimpArgs false
set_option maxRecDepth 100000
/-- append as it stands: the walk does not open it -/
def appIdentText (ats : Array TypeId) (ty : TypeId) (args : Array Value) : Sem Value := Builtin.append_ ats ty args
theorem appIdentText_fold (ats : Array TypeId) (ty : TypeId) (args : Array Value) : Builtin.append_ ats ty args = appIdentText ats ty args := rfl
attribute [local go_sem ↓] appIdentText_fold
namespace Named
def identV (k : Nat) (nm : List UInt8) (sv : Int) : Value := .agg #[.int .u8 (k : Int), .string ⟨nm.toArray⟩, .int .i64 sv]

theorem itext_bad (k : Nat) (nm : List UInt8) (sv : Int) (hnm : nm.length ≤ maxLen) (w : World) (hbad : ¬ okI k nm sv) :
    Calls Tryd.prog 26 #[identV k nm sv] w fun e w' => e = .returned (.tuple #[.string ⟨#[]⟩, .int .i64 2]) ∧ Below w.heap.size w w' := by
  unfold identV
  have HN := Lib.hid (name_any nm hnm)
  clear hnm
  unfold okI at hbad
  have B0 := (Below.refl w.heap.size w).alloc (Nat.le_refl _) (.cells #[.int .u8 (k : Int), .string ⟨nm.toArray⟩, .int .i64 sv] 62)
  by_cases hk : k = 1 ∨ k = 2
  · cases hb : nameB nm with
    | false =>
      rw [hb] at HN
      clear hbad
      rcases hk with rfl | rfl
      all_goals
        go_enter Tryd.func26, Tryd.ntmps26
        go_wp2_with (go_at_call 70; refine (HN.out _).mono ?_; rintro e w' ⟨rfl, rfl⟩)
        go_ret2
        exact ⟨rfl, B0⟩
    | true =>
      rw [hb] at HN
      by_cases h0 : sv < 0
      · clear hbad
        rcases hk with rfl | rfl
        all_goals
          go_enter Tryd.func26, Tryd.ntmps26
          go_wp2_with (go_at_call 70; refine (HN.out _).mono ?_; rintro e w' ⟨rfl, rfl⟩)
          go_ret2
          exact ⟨rfl, B0⟩
      · have h63 : 63 < sv := by
          by_cases h : 63 < sv
          · exact h
          · exact absurd ⟨hk, hb, by omega, by omega⟩ hbad
        clear hbad
        rcases hk with rfl | rfl
        all_goals
          go_enter Tryd.func26, Tryd.ntmps26
          go_wp2_with (go_at_call 70; refine (HN.out _).mono ?_; rintro e w' ⟨rfl, rfl⟩)
          go_ret2
          exact ⟨rfl, B0⟩
  · have h1 : ¬ (k : Int) = 1 := by omega
    have h2 : ¬ (k : Int) = 2 := by omega
    clear hbad hk
    go_enter Tryd.func26, Tryd.ntmps26
    go_wp2
    go_ret2
    exact ⟨rfl, B0⟩

set_option maxHeartbeats 4000000 in
theorem itext_ok1 (nm : List UInt8) (u : Nat) (hnm : nm.length ≤ 16) (hb : nameB nm = true) (hu : u ≤ 63) (w : World) (hV : Vars w) :
    Calls Tryd.prog 26 #[identV 1 nm (u : Int)] w fun e w' => e = .returned (.tuple #[.string ⟨([64] ++ nm ++ [58] ++ Lib.decDigits u).toArray⟩, .int .i64 0]) ∧ Below w.heap.size w w' := by
  unfold identV
  have HN := Lib.hid (name_any nm (by unfold maxLen; omega))
  have HAI := Lib.hid (fun base v l hl w hB hb => appendInt_small base v l u (by omega) hl w hB hb)
  rw [hb] at HN
  clear hb
  have hmo : Tryd.prog.follows .mixedOrders = true := by kernel_rfl
  have B0 := (Below.refl w.heap.size w).alloc (Nat.le_refl _) (.cells #[.int .u8 1, .string ⟨nm.toArray⟩, .int .i64 (u : Int)] 62)
  have A0 := Blk.new w #[.int .u8 1, .string ⟨nm.toArray⟩, .int .i64 (u : Int)] 62
  have HV := Lib.hid hV
  clear hV
  have hu63 : (u : Int) ≤ 63 := by omega
  have hu0 : (0 : Int) ≤ (u : Int) := by omega
  have hd2 := decDigits_short u (by omega)
  rw [show ((1 : Nat) : Int) = 1 from rfl]
  go_enter Tryd.func26, Tryd.ntmps26
  go_wp2_with fail
  refine (HN.out _).mono ?_
  rintro e w' ⟨rfl, rfl⟩
  have S0 : (fun w' => w'.cell? ⟨w.heap.size, 0, none⟩ = some (.int .u8 1) ∧ w'.cell? ⟨w.heap.size, 1, none⟩ = some (.string ⟨nm.toArray⟩) ∧ w'.cell? ⟨w.heap.size, 2, none⟩ = some (.int .i64 (u : Int)) ∧ w'.cell? ⟨1, 1, none⟩ = some (.string ⟨#[64]⟩)) ((w.alloc (.cells #[.int .u8 1, .string ⟨nm.toArray⟩, .int .i64 (u : Int)] 62)).drew) := ⟨A0.drew.cell 0 rfl, A0.drew.cell 1 rfl, A0.drew.cell 2 rfl, (HV.out.low B0.drew).s1⟩
  go_wp2_with fail
  refine wp_region_heldX (fun w' => w'.cell? ⟨w.heap.size, 0, none⟩ = some (.int .u8 1) ∧ w'.cell? ⟨w.heap.size, 1, none⟩ = some (.string ⟨nm.toArray⟩) ∧ w'.cell? ⟨w.heap.size, 2, none⟩ = some (.int .i64 (u : Int)) ∧ w'.cell? ⟨1, 1, none⟩ = some (.string ⟨#[64]⟩)) [] hmo ?_
  have B0 := B0.drew
  have A0 := A0.drew
  have hzz : (w.alloc (.cells #[.int .u8 1, .string ⟨nm.toArray⟩, .int .i64 (u : Int)] 62)).drew.heap.size = w.heap.size + 1 := by simp
  generalize (w.alloc (.cells #[.int .u8 1, .string ⟨nm.toArray⟩, .int .i64 (u : Int)] 62)).drew = w1 at *
  refine HeldX.move 0 (v := .pointer (some ⟨w.heap.size, 0, none⟩)) rfl (by kernel_rfl) (by kernel_rfl) (by kernel_rfl) (by kernel_rfl) (fun _ _ _ h => h) S0 (.inl ⟨by kernel_rfl, fun w h => by go_simp⟩) ?_
  go_simp
  refine HeldX.take 1 (v := .int .u8 1) rfl (by kernel_rfl) (by kernel_rfl) (by kernel_rfl) (by kernel_rfl) (fun _ _ _ h => h) S0 (.inl ⟨by kernel_rfl, fun w h => by have h1 := h.1; go_simp⟩) ?_
  go_simp
  refine HeldX.move 2 (v := .pointer (some ⟨1, 1, none⟩)) rfl (by kernel_rfl) (by kernel_rfl) (by kernel_rfl) (by kernel_rfl) (fun _ _ _ h => h) S0 (.inl ⟨by kernel_rfl, fun w h => by go_simp⟩) ?_
  go_simp
  refine HeldX.take 3 (v := .string ⟨#[64]⟩) rfl (by kernel_rfl) (by kernel_rfl) (by kernel_rfl) (by kernel_rfl) (fun _ _ _ h => h) S0 (.inl ⟨by kernel_rfl, fun w h => by have h1 := h.2.2.2; go_simp⟩) ?_
  go_simp
  refine HeldX.move 5 (v := .pointer (some ⟨w.heap.size, 1, none⟩)) rfl (by kernel_rfl) (by kernel_rfl) (by kernel_rfl) (by kernel_rfl) (fun _ _ _ h => h) S0 (.inl ⟨by kernel_rfl, fun w h => by go_simp⟩) ?_
  go_simp
  refine HeldX.take 6 (v := .string ⟨nm.toArray⟩) rfl (by kernel_rfl) (by kernel_rfl) (by kernel_rfl) (by kernel_rfl) (fun _ _ _ h => h) S0 (.inl ⟨by kernel_rfl, fun w h => by have h1 := h.2.1; go_simp⟩) ?_
  go_simp
  have hcv := bytes_conv ⟨#[64]⟩ w1
  refine HeldX.one 4 (by kernel_rfl) rfl (by kernel_rfl) (fun K hK => ?_)
  go_simp
  have hbt := bytesW_below w1 ⟨#[64]⟩
  have hs2 := bytesW_size w1 ⟨#[64]⟩
  have A2 := A0.low hbt
  have B2 := B0.trans (hbt.mono B0.size)
  have hBg : Bag (w.heap.size + 1) (bytesW w1 ⟨#[64]⟩) (.slice (some ⟨w1.heap.size, 0, none⟩) 1 (bytesCap w1 ⟨#[64]⟩)) [64] := Bag.bytesW w1 ⟨#[64]⟩ (w.heap.size + 1) (by omega)
  clear hcv hbt B0 A0
  rw [hzz] at hBg hs2
  refine hK _ _ ⟨A2.cell 0 rfl, A2.cell 1 rfl, A2.cell 2 rfl, (HV.out.low B2).s1⟩ ?_
  clear hK K
  clear S0
  generalize bytesCap w1 ⟨#[64]⟩ = cap at *
  generalize bytesW w1 ⟨#[64]⟩ = w2 at *
  clear hzz
  obtain ⟨v3, w3, hr, hB3, hg3⟩ := hBg.append_string (by rw [hs2]; omega) 96 ⟨nm.toArray⟩ (by rw [ba_size]; simp; omega)
  rw [appIdentText_fold] at hr
  have hne3 : (Value.slice (some ⟨w.heap.size + 1, 0, none⟩) 1 cap).ownBlock ≠ some w.heap.size := by intro e; injection e with e; simp at e
  have A3 := A2.grown hg3 hne3
  have B3 := B2.grown hg3 B2.size (fun k e => by injection e with e; simp at e; omega)
  refine HeldX.one 7 (by kernel_rfl) rfl (by kernel_rfl) (fun K hK => ?_)
  go_simp
  refine hK _ _ ⟨A3.cell 0 rfl, A3.cell 1 rfl, A3.cell 2 rfl, (HV.out.low B3).s1⟩ ?_
  clear hK K hr
  refine HeldX.one 8 (by kernel_rfl) rfl (by kernel_rfl) (fun K hK => ?_)
  go_simp
  refine hK _ _ ⟨A3.cell 0 rfl, A3.cell 1 rfl, A3.cell 2 rfl, (HV.out.low B3).s1⟩ ?_
  clear hK K
  refine HeldX.done (by kernel_rfl) ?_ _
  clear A2 B2 hBg hg3 hne3 hs2
  have hb3l : w.heap.size + 1 ≤ w3.heap.size := A3.size
  have S4 : w3.drew.cell? ⟨w.heap.size, 2, none⟩ = some (.int .i64 (u : Int)) := A3.drew.cell 2 rfl
  go_wp2_with fail
  refine wp_region_heldX (fun w' => w'.cell? ⟨w.heap.size, 2, none⟩ = some (.int .i64 (u : Int))) [] hmo ?_
  refine HeldX.move 0 (v := v3) rfl (by kernel_rfl) (by kernel_rfl) (by kernel_rfl) (by kernel_rfl) (fun _ _ _ h => h) S4 (.inl ⟨by kernel_rfl, fun w h => by go_simp⟩) ?_
  go_simp
  refine HeldX.move 3 (v := .pointer (some ⟨w.heap.size, 2, none⟩)) rfl (by kernel_rfl) (by kernel_rfl) (by kernel_rfl) (by kernel_rfl) (fun _ _ _ h => h) S4 (.inl ⟨by kernel_rfl, fun w h => by go_simp⟩) ?_
  go_simp
  refine HeldX.take 4 (v := .int .i64 (u : Int)) rfl (by kernel_rfl) (by kernel_rfl) (by kernel_rfl) (by kernel_rfl) (fun _ _ _ h => h) S4 (.inl ⟨by kernel_rfl, fun w h => by have h1 := h; go_simp⟩) ?_
  go_simp
  refine HeldX.one 1 (by kernel_rfl) rfl (by kernel_rfl) (fun K hK => ?_)
  go_simp
  have A4 := (A3.alloc (.cells #[.int .u8 58] 5)).drew
  have B4 := (B3.alloc B3.size (.cells #[.int .u8 58] 5)).drew
  have hB4 := (hB3.alloc (.cells #[.int .u8 58] 5)).drew
  have hN4 : ∀ j u, (bytesV [58])[j]? = some u → ((w3.alloc (.cells #[.int .u8 58] 5)).drew).cell? ((⟨w3.heap.size, 0, none⟩ : Addr).add j) = some u := World.news_of_block (World.alloc_heap_new w3 (.cells #[.int .u8 58] 5))
  have hz4 : (w3.alloc (.cells #[.int .u8 58] 5)).drew.heap.size = w3.heap.size + 1 := by simp
  refine hK _ _ (A4.cell 2 rfl) ?_
  clear hK K
  clear A3 B3 hB3 S4
  generalize (w3.alloc (.cells #[.int .u8 58] 5)).drew = w4 at *
  obtain ⟨v5, w5, hr, hB5, hg5⟩ := hB4.append (by omega) 96 ⟨w3.heap.size, 0, none⟩ 1 1 [58] rfl hN4 (by simp; omega)
  rw [appIdentText_fold] at hr
  have hne5 : v3.ownBlock ≠ some w.heap.size := by intro e; have := (hB4.lt _ e).1; omega
  have A5 := A4.grown hg5 hne5
  have B5 := B4.grown hg5 B4.size (fun k e => by have := (hB4.lt _ e).1; omega)
  have hz5 := hg5.size
  clear hne5
  refine HeldX.one 2 (by kernel_rfl) rfl (by kernel_rfl) (fun K hK => ?_)
  go_simp
  refine hK _ _ (A5.cell 2 rfl) ?_
  clear hK K hr hg5 hB4 hN4
  have HA := Lib.hid (HAI.out (w.heap.size + 1) v5 ([64] ++ nm ++ [58]) (by simp; omega) w5 hB5 (by omega))
  refine HeldX.one 5 (by kernel_rfl) rfl (by kernel_rfl) (fun K hK => ?_)
  go_simp
  refine HA.out.mono ?_
  rintro e w6 ⟨v6, rfl, hB6, hg6⟩
  have hne6 : v5.ownBlock ≠ some w.heap.size := by intro e; have := (hB5.lt _ e).1; omega
  have A6 := A5.grown hg6 hne6
  have B6 := B5.grown hg6 B5.size (fun k e => by have := (hB5.lt _ e).1; omega)
  refine hK _ _ (A6.cell 2 rfl) ?_
  clear hK K A4 B4 A5 B5 hB5 hg6 hne6 HA
  have hcv := hB6.conv
  refine HeldX.one 6 (by kernel_rfl) rfl (by kernel_rfl) (fun K hK => ?_)
  go_simp
  refine hK _ _ (A6.cell 2 rfl) ?_
  clear hK K hcv
  refine HeldX.one 7 (by kernel_rfl) rfl (by kernel_rfl) (fun K hK => ?_)
  go_simp
  refine hK _ _ (A6.cell 2 rfl) ?_
  clear hK K
  refine HeldX.one 8 (by kernel_rfl) rfl (by kernel_rfl) (fun K hK => ?_)
  go_simp
  refine hK _ _ (A6.cell 2 rfl) ?_
  clear hK K
  refine HeldX.done (by kernel_rfl) ?_ _
  go_wp2_with fail
  go_ret2
  exact ⟨Eq.trans (b := Ending.returned (.tuple #[.string ⟨(64 :: (nm ++ 58 :: Lib.decDigits u)).toArray⟩, .int .i64 0])) rfl (by simp), B6⟩

set_option maxHeartbeats 4000000 in
theorem itext_ok2 (nm : List UInt8) (u : Nat) (hnm : nm.length ≤ 16) (hb : nameB nm = true) (hu : u ≤ 63) (w : World) (hV : Vars w) :
    Calls Tryd.prog 26 #[identV 2 nm (u : Int)] w fun e w' => e = .returned (.tuple #[.string ⟨([33] ++ nm ++ [58] ++ Lib.decDigits u).toArray⟩, .int .i64 0]) ∧ Below w.heap.size w w' := by
  unfold identV
  have HN := Lib.hid (name_any nm (by unfold maxLen; omega))
  have HAI := Lib.hid (fun base v l hl w hB hb => appendInt_small base v l u (by omega) hl w hB hb)
  rw [hb] at HN
  clear hb
  have hmo : Tryd.prog.follows .mixedOrders = true := by kernel_rfl
  have B0 := (Below.refl w.heap.size w).alloc (Nat.le_refl _) (.cells #[.int .u8 2, .string ⟨nm.toArray⟩, .int .i64 (u : Int)] 62)
  have A0 := Blk.new w #[.int .u8 2, .string ⟨nm.toArray⟩, .int .i64 (u : Int)] 62
  have HV := Lib.hid hV
  clear hV
  have hu63 : (u : Int) ≤ 63 := by omega
  have hu0 : (0 : Int) ≤ (u : Int) := by omega
  have hd2 := decDigits_short u (by omega)
  rw [show ((2 : Nat) : Int) = 2 from rfl]
  go_enter Tryd.func26, Tryd.ntmps26
  go_wp2_with fail
  refine (HN.out _).mono ?_
  rintro e w' ⟨rfl, rfl⟩
  have S0 : (fun w' => w'.cell? ⟨w.heap.size, 0, none⟩ = some (.int .u8 2) ∧ w'.cell? ⟨w.heap.size, 1, none⟩ = some (.string ⟨nm.toArray⟩) ∧ w'.cell? ⟨w.heap.size, 2, none⟩ = some (.int .i64 (u : Int)) ∧ w'.cell? ⟨1, 2, none⟩ = some (.string ⟨#[33]⟩)) ((w.alloc (.cells #[.int .u8 2, .string ⟨nm.toArray⟩, .int .i64 (u : Int)] 62)).drew) := ⟨A0.drew.cell 0 rfl, A0.drew.cell 1 rfl, A0.drew.cell 2 rfl, (HV.out.low B0.drew).s2⟩
  go_wp2_with fail
  refine wp_region_heldX (fun w' => w'.cell? ⟨w.heap.size, 0, none⟩ = some (.int .u8 2) ∧ w'.cell? ⟨w.heap.size, 1, none⟩ = some (.string ⟨nm.toArray⟩) ∧ w'.cell? ⟨w.heap.size, 2, none⟩ = some (.int .i64 (u : Int)) ∧ w'.cell? ⟨1, 2, none⟩ = some (.string ⟨#[33]⟩)) [] hmo ?_
  have B0 := B0.drew
  have A0 := A0.drew
  have hzz : (w.alloc (.cells #[.int .u8 2, .string ⟨nm.toArray⟩, .int .i64 (u : Int)] 62)).drew.heap.size = w.heap.size + 1 := by simp
  generalize (w.alloc (.cells #[.int .u8 2, .string ⟨nm.toArray⟩, .int .i64 (u : Int)] 62)).drew = w1 at *
  refine HeldX.move 0 (v := .pointer (some ⟨w.heap.size, 0, none⟩)) rfl (by kernel_rfl) (by kernel_rfl) (by kernel_rfl) (by kernel_rfl) (fun _ _ _ h => h) S0 (.inl ⟨by kernel_rfl, fun w h => by go_simp⟩) ?_
  go_simp
  refine HeldX.take 1 (v := .int .u8 2) rfl (by kernel_rfl) (by kernel_rfl) (by kernel_rfl) (by kernel_rfl) (fun _ _ _ h => h) S0 (.inl ⟨by kernel_rfl, fun w h => by have h1 := h.1; go_simp⟩) ?_
  go_simp
  refine HeldX.move 2 (v := .pointer (some ⟨1, 2, none⟩)) rfl (by kernel_rfl) (by kernel_rfl) (by kernel_rfl) (by kernel_rfl) (fun _ _ _ h => h) S0 (.inl ⟨by kernel_rfl, fun w h => by go_simp⟩) ?_
  go_simp
  refine HeldX.take 3 (v := .string ⟨#[33]⟩) rfl (by kernel_rfl) (by kernel_rfl) (by kernel_rfl) (by kernel_rfl) (fun _ _ _ h => h) S0 (.inl ⟨by kernel_rfl, fun w h => by have h1 := h.2.2.2; go_simp⟩) ?_
  go_simp
  refine HeldX.move 5 (v := .pointer (some ⟨w.heap.size, 1, none⟩)) rfl (by kernel_rfl) (by kernel_rfl) (by kernel_rfl) (by kernel_rfl) (fun _ _ _ h => h) S0 (.inl ⟨by kernel_rfl, fun w h => by go_simp⟩) ?_
  go_simp
  refine HeldX.take 6 (v := .string ⟨nm.toArray⟩) rfl (by kernel_rfl) (by kernel_rfl) (by kernel_rfl) (by kernel_rfl) (fun _ _ _ h => h) S0 (.inl ⟨by kernel_rfl, fun w h => by have h1 := h.2.1; go_simp⟩) ?_
  go_simp
  have hcv := bytes_conv ⟨#[33]⟩ w1
  refine HeldX.one 4 (by kernel_rfl) rfl (by kernel_rfl) (fun K hK => ?_)
  go_simp
  have hbt := bytesW_below w1 ⟨#[33]⟩
  have hs2 := bytesW_size w1 ⟨#[33]⟩
  have A2 := A0.low hbt
  have B2 := B0.trans (hbt.mono B0.size)
  have hBg : Bag (w.heap.size + 1) (bytesW w1 ⟨#[33]⟩) (.slice (some ⟨w1.heap.size, 0, none⟩) 1 (bytesCap w1 ⟨#[33]⟩)) [33] := Bag.bytesW w1 ⟨#[33]⟩ (w.heap.size + 1) (by omega)
  clear hcv hbt B0 A0
  rw [hzz] at hBg hs2
  refine hK _ _ ⟨A2.cell 0 rfl, A2.cell 1 rfl, A2.cell 2 rfl, (HV.out.low B2).s2⟩ ?_
  clear hK K
  clear S0
  generalize bytesCap w1 ⟨#[33]⟩ = cap at *
  generalize bytesW w1 ⟨#[33]⟩ = w2 at *
  clear hzz
  obtain ⟨v3, w3, hr, hB3, hg3⟩ := hBg.append_string (by rw [hs2]; omega) 96 ⟨nm.toArray⟩ (by rw [ba_size]; simp; omega)
  rw [appIdentText_fold] at hr
  have hne3 : (Value.slice (some ⟨w.heap.size + 1, 0, none⟩) 1 cap).ownBlock ≠ some w.heap.size := by intro e; injection e with e; simp at e
  have A3 := A2.grown hg3 hne3
  have B3 := B2.grown hg3 B2.size (fun k e => by injection e with e; simp at e; omega)
  refine HeldX.one 7 (by kernel_rfl) rfl (by kernel_rfl) (fun K hK => ?_)
  go_simp
  refine hK _ _ ⟨A3.cell 0 rfl, A3.cell 1 rfl, A3.cell 2 rfl, (HV.out.low B3).s2⟩ ?_
  clear hK K hr
  refine HeldX.one 8 (by kernel_rfl) rfl (by kernel_rfl) (fun K hK => ?_)
  go_simp
  refine hK _ _ ⟨A3.cell 0 rfl, A3.cell 1 rfl, A3.cell 2 rfl, (HV.out.low B3).s2⟩ ?_
  clear hK K
  refine HeldX.done (by kernel_rfl) ?_ _
  clear A2 B2 hBg hg3 hne3 hs2
  have hb3l : w.heap.size + 1 ≤ w3.heap.size := A3.size
  have S4 : w3.drew.cell? ⟨w.heap.size, 2, none⟩ = some (.int .i64 (u : Int)) := A3.drew.cell 2 rfl
  go_wp2_with fail
  refine wp_region_heldX (fun w' => w'.cell? ⟨w.heap.size, 2, none⟩ = some (.int .i64 (u : Int))) [] hmo ?_
  refine HeldX.move 0 (v := v3) rfl (by kernel_rfl) (by kernel_rfl) (by kernel_rfl) (by kernel_rfl) (fun _ _ _ h => h) S4 (.inl ⟨by kernel_rfl, fun w h => by go_simp⟩) ?_
  go_simp
  refine HeldX.move 3 (v := .pointer (some ⟨w.heap.size, 2, none⟩)) rfl (by kernel_rfl) (by kernel_rfl) (by kernel_rfl) (by kernel_rfl) (fun _ _ _ h => h) S4 (.inl ⟨by kernel_rfl, fun w h => by go_simp⟩) ?_
  go_simp
  refine HeldX.take 4 (v := .int .i64 (u : Int)) rfl (by kernel_rfl) (by kernel_rfl) (by kernel_rfl) (by kernel_rfl) (fun _ _ _ h => h) S4 (.inl ⟨by kernel_rfl, fun w h => by have h1 := h; go_simp⟩) ?_
  go_simp
  refine HeldX.one 1 (by kernel_rfl) rfl (by kernel_rfl) (fun K hK => ?_)
  go_simp
  have A4 := (A3.alloc (.cells #[.int .u8 58] 5)).drew
  have B4 := (B3.alloc B3.size (.cells #[.int .u8 58] 5)).drew
  have hB4 := (hB3.alloc (.cells #[.int .u8 58] 5)).drew
  have hN4 : ∀ j u, (bytesV [58])[j]? = some u → ((w3.alloc (.cells #[.int .u8 58] 5)).drew).cell? ((⟨w3.heap.size, 0, none⟩ : Addr).add j) = some u := World.news_of_block (World.alloc_heap_new w3 (.cells #[.int .u8 58] 5))
  have hz4 : (w3.alloc (.cells #[.int .u8 58] 5)).drew.heap.size = w3.heap.size + 1 := by simp
  refine hK _ _ (A4.cell 2 rfl) ?_
  clear hK K
  clear A3 B3 hB3 S4
  generalize (w3.alloc (.cells #[.int .u8 58] 5)).drew = w4 at *
  obtain ⟨v5, w5, hr, hB5, hg5⟩ := hB4.append (by omega) 96 ⟨w3.heap.size, 0, none⟩ 1 1 [58] rfl hN4 (by simp; omega)
  rw [appIdentText_fold] at hr
  have hne5 : v3.ownBlock ≠ some w.heap.size := by intro e; have := (hB4.lt _ e).1; omega
  have A5 := A4.grown hg5 hne5
  have B5 := B4.grown hg5 B4.size (fun k e => by have := (hB4.lt _ e).1; omega)
  have hz5 := hg5.size
  clear hne5
  refine HeldX.one 2 (by kernel_rfl) rfl (by kernel_rfl) (fun K hK => ?_)
  go_simp
  refine hK _ _ (A5.cell 2 rfl) ?_
  clear hK K hr hg5 hB4 hN4
  have HA := Lib.hid (HAI.out (w.heap.size + 1) v5 ([33] ++ nm ++ [58]) (by simp; omega) w5 hB5 (by omega))
  refine HeldX.one 5 (by kernel_rfl) rfl (by kernel_rfl) (fun K hK => ?_)
  go_simp
  refine HA.out.mono ?_
  rintro e w6 ⟨v6, rfl, hB6, hg6⟩
  have hne6 : v5.ownBlock ≠ some w.heap.size := by intro e; have := (hB5.lt _ e).1; omega
  have A6 := A5.grown hg6 hne6
  have B6 := B5.grown hg6 B5.size (fun k e => by have := (hB5.lt _ e).1; omega)
  refine hK _ _ (A6.cell 2 rfl) ?_
  clear hK K A4 B4 A5 B5 hB5 hg6 hne6 HA
  have hcv := hB6.conv
  refine HeldX.one 6 (by kernel_rfl) rfl (by kernel_rfl) (fun K hK => ?_)
  go_simp
  refine hK _ _ (A6.cell 2 rfl) ?_
  clear hK K hcv
  refine HeldX.one 7 (by kernel_rfl) rfl (by kernel_rfl) (fun K hK => ?_)
  go_simp
  refine hK _ _ (A6.cell 2 rfl) ?_
  clear hK K
  refine HeldX.one 8 (by kernel_rfl) rfl (by kernel_rfl) (fun K hK => ?_)
  go_simp
  refine hK _ _ (A6.cell 2 rfl) ?_
  clear hK K
  refine HeldX.done (by kernel_rfl) ?_ _
  go_wp2_with fail
  go_ret2
  exact ⟨Eq.trans (b := Ending.returned (.tuple #[.string ⟨(33 :: (nm ++ 58 :: Lib.decDigits u)).toArray⟩, .int .i64 0])) rfl (by simp), B6⟩

theorem itext_any (k : Nat) (nm : List UInt8) (sv : Int) (hnm : nm.length ≤ maxLen) (w : World) (hV : Vars w) :
    Calls Tryd.prog 26 #[identV k nm sv] w fun e w' => e = .returned (.tuple #[.string ⟨(textI k nm sv).1.toArray⟩, .int .i64 ((textI k nm sv).2 : Int)]) ∧ Below w.heap.size w w' := by
  by_cases h : okI k nm sv
  · rw [textI, if_pos h]
    obtain ⟨hk, hb, h0, h63⟩ := h
    have hl : nm.length ≤ 16 := by
      rw [nameB, Bool.and_eq_true, decide_eq_true_eq] at hb
      exact hb.2
    obtain ⟨u, rfl⟩ : ∃ u : Nat, sv = (u : Int) := ⟨sv.toNat, by omega⟩
    rw [Int.toNat_natCast]
    rcases hk with rfl | rfl
    · exact itext_ok1 nm u hl hb (by omega) w hV
    · exact itext_ok2 nm u hl hb (by omega) w hV
  · rw [textI, if_neg h]
    exact itext_bad k nm sv hnm w h
end Named
end Go.Proofs.YtbgjoefpnjgdkaaDoor
