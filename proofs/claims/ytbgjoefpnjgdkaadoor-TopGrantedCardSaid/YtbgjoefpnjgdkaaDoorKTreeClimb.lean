/- tree.Climb: where a leaf leads. -/
import Derived.Test.YtbgjoefpnjgdkaaDoorKTreeRoot
namespace Go.Proofs.YtbgjoefpnjgdkaaDoor
open Go.RowKit
set_option linter.unusedVariables false
set_option linter.unusedSimpArgs false
set_option maxRecDepth 100000
namespace Tree
open Sha
def climbL (X kk : Nat → Int) : List UInt8 → Nat → List (List UInt8) → List UInt8
  | l, _, [] => l
  | l, i, x :: r => climbL X kk (if i % 2 = 0 then aboveL X kk l x else aboveL X kk x l) (i / 2) r

/-- block n holds a sum, and may be written -/
structure HashAt (w : World) (n : Nat) (l : List UInt8) : Prop where
  size : n < w.heap.size
  at_ : w.rangeAt n 0 (bytesV l)
  there : w.there n 0 32
theorem HashAt.below {w w' : World} {n : Nat} {l : List UInt8} (h : HashAt w n l) (hb : Below w.heap.size w w') : HashAt w' n l :=
  ⟨Nat.lt_of_lt_of_le h.size hb.size, rangeAt_low h.at_ h.size hb, fun j hj => by rw [hb.cell (p := ⟨n, 0 + j, none⟩) h.size, hb.frozen (p := ⟨n, 0 + j, none⟩) h.size]; exact h.there j hj⟩
theorem HashAt.new (w : World) (l : List UInt8) (hl : l.length = 32) (t : TypeId) : HashAt (w.alloc (.cells (bytesV l).toArray t)) w.heap.size l := by
  have hc : ∀ j, (w.alloc (.cells (bytesV l).toArray t)).cell? ⟨w.heap.size, 0 + j, none⟩ = (bytesV l)[j]? := fun j => by
    rw [Nat.zero_add, World.cell?_alloc_mark w (bytesV l).toArray t (0, 0) j]; simp
  refine ⟨by simp, fun j v hv => (hc j).trans hv, fun j hj => ⟨?_, ?_⟩⟩
  · rw [hc j, List.getElem?_eq_getElem (by rw [bytesV_length, hl]; exact hj)]; rfl
  · exact (World.frozen?_alloc_mark w _ t 0 0 (0 + j)).trans (by simp)
theorem size_sets (g o : Nat) (vs : List Value) (w : World) : (w.setCells g o vs).heap.size = w.heap.size := by
  induction vs generalizing o w with
  | nil => rfl
  | cons v r ih => rw [World.setCells, ih]; simp [World.setCell]
theorem HashAt.set {w : World} {n : Nat} {l l2 : List UInt8} (h : HashAt w n l) (h2 : l2.length = 32) : HashAt (w.setCells n 0 (bytesV l2)) n l2 :=
  ⟨by rw [size_sets]; exact h.size, World.rangeAt_setCells_same w n 0 (bytesV l2) (by rw [bytesV_length, h2]; exact h.there), World.there_setCells h.there _ _ _⟩
theorem HashAt.far {w : World} {n m : Nat} {l l2 : List UInt8} (h : HashAt w n l) (hne : n ≠ m) : HashAt (w.setCells m 0 (bytesV l2)) n l :=
  ⟨by rw [size_sets]; exact h.size, World.rangeAt_setCells_apart h.at_ _ _ _ (.inl hne), World.there_setCells h.there _ _ _⟩
theorem HRow.sets {w : World} {v : Value} {ls : List (List UInt8)} (h : HRow w v ls) (n : Nat) (vs : List Value) (hne : ∀ b, (∃ o m c, v = .slice (some ⟨b, o, none⟩) m c) → b ≠ n ∧ b < w.heap.size) : HRow (w.setCells n 0 vs) v ls :=
  h.turned (by rw [size_sets]; exact Nat.le_refl _) (fun b hb => (bag_sets n vs 0 w w ⟨rfl, rfl, rfl, Nat.le_refl _, fun _ _ _ => rfl⟩).block b (hne b hb).2 (fun e => (hne b hb).1 (Option.some.inj e)))

theorem and1 (n : Nat) (h : n < 256) : bits .and .i64 (n : Int) 1 = ((n % 2 : Nat) : Int) := by
  have h' : ∀ a : Fin 256, bits .and .i64 (a.val : Int) 1 = ((a.val % 2 : Nat) : Int) := by decide +kernel
  exact h' ⟨n, h⟩

set_option maxHeartbeats 4000000 in
theorem climb_any (X kk : Nat → Int) (leaf : List UInt8) (h32 : leaf.length = 32) (i : Nat) (b o cap : Nat) (ps : List (List UInt8)) (hps : ∀ l ∈ ps, l.length = 32) (p : Nat) (hp3 : p ≤ 3) (hp : ps.length = p) (hp0 : 0 < p) (hi : i < 2 ^ p) (w : World) (hv : HRow w (.slice (some ⟨b, o, none⟩) p cap) ps) (hT : Tabs w X kk) :
    Calls Tryd.prog 18 #[.agg (bytesV leaf).toArray, .int .i64 (i : Int), .slice (some ⟨b, o, none⟩) p cap] w fun e w' => e = .returned (.tuple #[.agg (bytesV (climbL X kk leaf i ps)).toArray, .int .i64 0]) ∧ Below w.heap.size w w' := by
  have HT := Lib.hid hT
  have HV := Lib.hid hv
  have HPS := Lib.hid hps
  have HP := Lib.hid hp
  have hi8 : i < 8 := Nat.lt_of_lt_of_le hi (Nat.le_trans (Nat.pow_le_pow_right (by omega) hp3) (by decide))
  have hsh : (i : Int) < wrap64 (2 ^ p) := by
    match p, hp3, hp0 with
    | 1, _, _ | 2, _, _ | 3, _, _ => simp [wrap64] at hi ⊢; omega
  have HI := Lib.hid hi
  have hp3i : (p : Int) ≤ 3 := by omega
  clear hT hv hps hp hi
  go_enter Tryd.func18, Tryd.ntmps18
  go_wp2_with fail
  generalize wrap64 (2 ^ p) = sh at *
  have hzz : (bytesV (List.replicate 32 (0 : UInt8))).toArray = #[Value.int .u8 0, Value.int .u8 0, Value.int .u8 0, Value.int .u8 0, Value.int .u8 0, Value.int .u8 0, Value.int .u8 0, Value.int .u8 0, Value.int .u8 0, Value.int .u8 0, Value.int .u8 0, Value.int .u8 0, Value.int .u8 0, Value.int .u8 0, Value.int .u8 0, Value.int .u8 0, Value.int .u8 0, Value.int .u8 0, Value.int .u8 0, Value.int .u8 0, Value.int .u8 0, Value.int .u8 0, Value.int .u8 0, Value.int .u8 0, Value.int .u8 0, Value.int .u8 0, Value.int .u8 0, Value.int .u8 0, Value.int .u8 0, Value.int .u8 0, Value.int .u8 0, Value.int .u8 0] := rfl
  have A0 := HashAt.new w leaf h32 30
  have A1 := HashAt.new (w.alloc (.cells (bytesV leaf).toArray 30)) (List.replicate 32 0) rfl 30
  rw [hzz, World.size_alloc] at A1
  have A2 := A0.below ((Below.refl _ _).alloc (Nat.le_refl _) (.cells #[.int .u8 0, .int .u8 0, .int .u8 0, .int .u8 0, .int .u8 0, .int .u8 0, .int .u8 0, .int .u8 0, .int .u8 0, .int .u8 0, .int .u8 0, .int .u8 0, .int .u8 0, .int .u8 0, .int .u8 0, .int .u8 0, .int .u8 0, .int .u8 0, .int .u8 0, .int .u8 0, .int .u8 0, .int .u8 0, .int .u8 0, .int .u8 0, .int .u8 0, .int .u8 0, .int .u8 0, .int .u8 0, .int .u8 0, .int .u8 0, .int .u8 0, .int .u8 0] 30))
  have B2 := ((Below.refl w.heap.size w).alloc (Nat.le_refl _) (.cells (bytesV leaf).toArray 30)).alloc (by simp) (.cells #[.int .u8 0, .int .u8 0, .int .u8 0, .int .u8 0, .int .u8 0, .int .u8 0, .int .u8 0, .int .u8 0, .int .u8 0, .int .u8 0, .int .u8 0, .int .u8 0, .int .u8 0, .int .u8 0, .int .u8 0, .int .u8 0, .int .u8 0, .int .u8 0, .int .u8 0, .int .u8 0, .int .u8 0, .int .u8 0, .int .u8 0, .int .u8 0, .int .u8 0, .int .u8 0, .int .u8 0, .int .u8 0, .int .u8 0, .int .u8 0, .int .u8 0, .int .u8 0] 30)
  have z2 : ((w.alloc (.cells (bytesV leaf).toArray 30)).alloc (.cells #[.int .u8 0, .int .u8 0, .int .u8 0, .int .u8 0, .int .u8 0, .int .u8 0, .int .u8 0, .int .u8 0, .int .u8 0, .int .u8 0, .int .u8 0, .int .u8 0, .int .u8 0, .int .u8 0, .int .u8 0, .int .u8 0, .int .u8 0, .int .u8 0, .int .u8 0, .int .u8 0, .int .u8 0, .int .u8 0, .int .u8 0, .int .u8 0, .int .u8 0, .int .u8 0, .int .u8 0, .int .u8 0, .int .u8 0, .int .u8 0, .int .u8 0, .int .u8 0] 30)).heap.size = w.heap.size + 2 := by simp
  generalize (w.alloc (.cells (bytesV leaf).toArray 30)).alloc (.cells #[.int .u8 0, .int .u8 0, .int .u8 0, .int .u8 0, .int .u8 0, .int .u8 0, .int .u8 0, .int .u8 0, .int .u8 0, .int .u8 0, .int .u8 0, .int .u8 0, .int .u8 0, .int .u8 0, .int .u8 0, .int .u8 0, .int .u8 0, .int .u8 0, .int .u8 0, .int .u8 0, .int .u8 0, .int .u8 0, .int .u8 0, .int .u8 0, .int .u8 0, .int .u8 0, .int .u8 0, .int .u8 0, .int .u8 0, .int .u8 0, .int .u8 0, .int .u8 0] 30) = W0 at *
  have V2 := HV.out.below B2
  have hbw : b < w.heap.size := by
    obtain ⟨b', o', c', e, h, _⟩ := HV.out
    injection e with e1
    injection e1 with e1
    injection e1 with e1
    omega
  clear hzz A0
  go_loopw [1, 27] (fun x y wr => ∃ (q m : Nat) (l' : List UInt8), q ≤ p ∧ m < 8 ∧ x = .int .i64 (m : Int) ∧ y = .int .i64 (q : Int) ∧ Hid (l'.length = 32) ∧ Hid (HashAt wr w.heap.size l') ∧ Hid (climbL X kk l' m (ps.drop q) = climbL X kk leaf i ps) ∧ Hid (HashAt wr (w.heap.size + 1) (List.replicate 32 0)) ∧ Hid (HRow wr (.slice (some ⟨b, o, none⟩) p cap) ps) ∧ Hid (Below w.heap.size w wr) ∧ w.heap.size + 2 ≤ wr.heap.size) (fun _ y _ => p - (intOf y).toNat)
  case atStart => exact ⟨0, i, leaf, by omega, hi8, rfl, rfl, Lib.hid h32, Lib.hid A2, Lib.hid rfl, Lib.hid A1, Lib.hid V2, Lib.hid B2, by omega⟩
  case round =>
    clear A1 A2 V2 B2 z2 hsh
    obtain ⟨q, m, l', hq, hm8, rfl, rfl, HL', HH, HC, HZ, HVr, HB, hws⟩ := hrel
    by_cases hlt : q < p
    · have hqi : (q : Int) < (p : Int) := by omega
      have hpl := HP.out
      have hqp : q < ps.length := by omega
      have HXC : Hid (ps.drop q = ps[q] :: ps.drop (q + 1)) := Lib.hid (List.drop_eq_getElem_cons hqp)
      have hx32 := HPS.out _ (List.getElem_mem hqp)
      have hrx : wr.rangeAt b (o + q * 32) (bytesV ps[q]) := by
        obtain ⟨b', o', c', e, _, _, hr⟩ := HVr.out
        injection e with e1
        injection e1 with e1
        injection e1 with e1 e2
        subst e1 e2
        rw [Nat.mul_comm]
        exact hr q hqp
      generalize ps[q] = x at *
      have HX := Lib.hid hrx
      have HIX : Hid ((Tryd.prog.info? 30).map (·.size) = some (bytesV x).length) := by rw [bytesV_length, hx32]; exact Lib.hid (by kernel_rfl)
      have HIA : Hid ((Tryd.prog.info? 30).map (·.size) = some (bytesV x).toArray.size) := by rw [List.size_toArray]; exact HIX
      have HIL : Hid ((Tryd.prog.info? 30).map (·.size) = some (bytesV l').length) := by rw [bytesV_length, HL'.out]; exact Lib.hid (by kernel_rfl)
      have HSZ : Hid ((bytesV x).toArray.size = 32) := by rw [List.size_toArray, bytesV_length, hx32]; exact Lib.hid rfl
      have hba := (Below.refl wr.heap.size wr).alloc (Nat.le_refl _) (.cells (bytesV x).toArray 30)
      have H9 := Lib.hid (HashAt.new wr x hx32 30).at_
      have H3 := Lib.hid (HH.out.below hba)
      have HZ2 := Lib.hid (HZ.out.below hba)
      have HV2 := Lib.hid (HVr.out.below hba)
      have HB2 := Lib.hid (HB.out.alloc (by omega) (.cells (bytesV x).toArray 30))
      have hs2 : (wr.alloc (.cells (bytesV x).toArray 30)).heap.size = wr.heap.size + 1 := by simp
      have hm1 := and1 m (by omega)
      have hl32 := HL'.out
      clear hrx hba hpl hqp
      by_cases hpar : m % 2 = 0
      · have hpi : ((m % 2 : Nat) : Int) = 0 := by omega
        rw [hpi] at hm1
        have hpar2 : (m % 2 = 0) = True := eq_true hpar
        go_wp2_with (first | (with_reducible refine wpList_load_mid rfl 30 _ rfl b (o + q * 32) rfl (bytesV x) _ HX.out Tryd.underlying30 rfl HIX.out ?_) | (refine wpList_store_new (o := ⟨none, .store 30 (.tmp 9) (.tmp 30), _, _, _, _⟩) rfl 30 (.tmp 9) (.tmp 30) rfl _ (bytesV x).toArray ?_ ?_ HIA.out ?_ (bytesV_one _) ?_; rfl; rfl; exact (show _ = 32 from rfl).trans HSZ.out.symm) | (with_reducible refine wpList_load_mid rfl 30 _ rfl w.heap.size 0 rfl (bytesV l') _ H3.out.at_ Tryd.underlying30 rfl HIL.out ?_) | (with_reducible refine wpList_load_mid rfl 30 _ rfl wr.heap.size 0 rfl (bytesV x) _ H9.out Tryd.underlying30 rfl HIX.out ?_))
        refine (above_any X kk l' x hl32 hx32 _ (HT.out.below rfl HB2.out)).mono ?_
        rintro e w3 ⟨rfl, hb3⟩
        have hy32 := aboveL_length X kk l' x
        have HCL : Hid (climbL X kk l' m (x :: ps.drop (q + 1)) = climbL X kk (aboveL X kk l' x) (m / 2) (ps.drop (q + 1))) := Lib.hid (by rw [climbL, if_pos hpar])
        generalize aboveL X kk l' x = y at *
        have h3 := H3.out.below hb3
        have hz3 := HZ2.out.below hb3
        have hv3 := HV2.out.below hb3
        have hB3 := HB2.out.trans (hb3.mono (by have := HB2.out.size; omega))
        have hs3 := hb3.size
        have HI' : Hid ((Tryd.prog.info? 30).map (·.size) = some (bytesV y).toArray.size) := by rw [List.size_toArray, bytesV_length, hy32]; exact Lib.hid (by kernel_rfl)
        have HTH : Hid (w3.there w.heap.size 0 (bytesV y).toArray.size) := Lib.hid (by rw [show (bytesV y).toArray.size = 32 by rw [List.size_toArray, bytesV_length, hy32]]; exact h3.there)
        have HH3 := Lib.hid h3
        have HZ3 := Lib.hid hz3
        have HV3 := Lib.hid hv3
        have HB3 := Lib.hid hB3
        have HY := Lib.hid hy32
        clear h3 hz3 hv3 hB3 hb3 hy32
        go_wp2_with (with_reducible refine wpList_store_mid rfl 30 _ _ rfl w.heap.size 0 (bytesV y).toArray rfl rfl HTH.out HI'.out (bytesV_one _) ?_)
        go_roundw
        case rel => exact ⟨q + 1, m / 2, y, by omega, by omega, by go_num, by go_num, HY, Lib.hid (HH3.out.set HY.out), by rw [← HC.out, HXC.out, HCL.out]; exact Lib.hid rfl, Lib.hid (HZ3.out.far (by omega)), Lib.hid (HV3.out.sets _ _ (fun b' h => by obtain ⟨o', m', c', e⟩ := h; injection e with e1; injection e1 with e1; injection e1 with e1; omega)), Lib.hid (below_setCells (Nat.le_refl _) _ _ _ HB3.out), by rw [size_sets]; omega⟩
        case measure => simp [intOf]; omega
      · have hpi : ((m % 2 : Nat) : Int) = 1 := by omega
        rw [hpi] at hm1
        go_wp2_with (first | (with_reducible refine wpList_load_mid rfl 30 _ rfl b (o + q * 32) rfl (bytesV x) _ HX.out Tryd.underlying30 rfl HIX.out ?_) | (refine wpList_store_new (o := ⟨none, .store 30 (.tmp 9) (.tmp 30), _, _, _, _⟩) rfl 30 (.tmp 9) (.tmp 30) rfl _ (bytesV x).toArray ?_ ?_ HIA.out ?_ (bytesV_one _) ?_; rfl; rfl; exact (show _ = 32 from rfl).trans HSZ.out.symm) | (with_reducible refine wpList_load_mid rfl 30 _ rfl w.heap.size 0 rfl (bytesV l') _ H3.out.at_ Tryd.underlying30 rfl HIL.out ?_) | (with_reducible refine wpList_load_mid rfl 30 _ rfl wr.heap.size 0 rfl (bytesV x) _ H9.out Tryd.underlying30 rfl HIX.out ?_))
        refine (above_any X kk x l' hx32 hl32 _ (HT.out.below rfl HB2.out)).mono ?_
        rintro e w3 ⟨rfl, hb3⟩
        have hy32 := aboveL_length X kk x l'
        have HCL : Hid (climbL X kk l' m (x :: ps.drop (q + 1)) = climbL X kk (aboveL X kk x l') (m / 2) (ps.drop (q + 1))) := Lib.hid (by rw [climbL, if_neg hpar])
        generalize aboveL X kk x l' = y at *
        have h3 := H3.out.below hb3
        have hz3 := HZ2.out.below hb3
        have hv3 := HV2.out.below hb3
        have hB3 := HB2.out.trans (hb3.mono (by have := HB2.out.size; omega))
        have hs3 := hb3.size
        have HI' : Hid ((Tryd.prog.info? 30).map (·.size) = some (bytesV y).toArray.size) := by rw [List.size_toArray, bytesV_length, hy32]; exact Lib.hid (by kernel_rfl)
        have HTH : Hid (w3.there w.heap.size 0 (bytesV y).toArray.size) := Lib.hid (by rw [show (bytesV y).toArray.size = 32 by rw [List.size_toArray, bytesV_length, hy32]]; exact h3.there)
        have HH3 := Lib.hid h3
        have HZ3 := Lib.hid hz3
        have HV3 := Lib.hid hv3
        have HB3 := Lib.hid hB3
        have HY := Lib.hid hy32
        clear h3 hz3 hv3 hB3 hb3 hy32
        go_wp2_with (with_reducible refine wpList_store_mid rfl 30 _ _ rfl w.heap.size 0 (bytesV y).toArray rfl rfl HTH.out HI'.out (bytesV_one _) ?_)
        go_roundw
        case rel => exact ⟨q + 1, m / 2, y, by omega, by omega, by go_num, by go_num, HY, Lib.hid (HH3.out.set HY.out), by rw [← HC.out, HXC.out, HCL.out]; exact Lib.hid rfl, Lib.hid (HZ3.out.far (by omega)), Lib.hid (HV3.out.sets _ _ (fun b' h => by obtain ⟨o', m', c', e⟩ := h; injection e with e1; injection e1 with e1; injection e1 with e1; omega)), Lib.hid (below_setCells (Nat.le_refl _) _ _ _ HB3.out), by rw [size_sets]; omega⟩
        case measure => simp [intOf]; omega
    · obtain rfl : q = p := by omega
      have hfin : climbL X kk leaf i ps = l' := by
        rw [← HC.out, List.drop_eq_nil_of_le (by rw [HP.out]; exact Nat.le_refl _), climbL]
      have HFIN := Lib.hid hfin
      have HIL : Hid ((Tryd.prog.info? 30).map (·.size) = some (bytesV l').length) := by rw [bytesV_length, HL'.out]; exact Lib.hid (by kernel_rfl)
      have HI' : Hid ((Tryd.prog.info? 30).map (·.size) = some (bytesV l').toArray.size) := by rw [List.size_toArray]; exact HIL
      have HTH : Hid (wr.there (w.heap.size + 1) 0 (bytesV l').toArray.size) := Lib.hid (by rw [show (bytesV l').toArray.size = 32 by rw [List.size_toArray, bytesV_length, HL'.out]]; exact HZ.out.there)
      have HAT := Lib.hid HH.out.at_
      clear hfin hlt
      go_wp2_with (first | (with_reducible refine wpList_load_mid rfl 30 _ rfl w.heap.size 0 rfl (bytesV l') _ HAT.out Tryd.underlying30 rfl HIL.out ?_) | (with_reducible refine wpList_store_mid rfl 30 _ _ rfl (w.heap.size + 1) 0 (bytesV l').toArray rfl rfl HTH.out HI'.out (bytesV_one _) ?_))
      refine bodyPost_ret (v := .tuple #[.agg (bytesV l').toArray, .int .i64 0]) ?_ rfl ⟨by rw [HFIN.out], below_setCells (by omega) _ _ _ HB.out⟩
      exact One.results_cell_tmp Tryd.results18 _ _ _ (w.heap.size + 1) (bytesV l') _ rfl rfl (run_loadVar_mid _ (w.heap.size + 1) 0 30 (bytesV l') _ (World.rangeAt_setCells_same wr (w.heap.size + 1) 0 (bytesV l') (by rw [← List.size_toArray]; exact HTH.out)) Tryd.underlying30 rfl HIL.out)
end Tree
end Go.Proofs.YtbgjoefpnjgdkaaDoor
