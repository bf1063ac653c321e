/- onetime.Recover: the sum that a signature leads to. -/
import Derived.Test.YtbgjoefpnjgdkaaDoorKOnePublic
namespace Go.Proofs.YtbgjoefpnjgdkaaDoor
open Go.RowKit
set_option linter.unusedVariables false
set_option linter.unusedSimpArgs false
set_option maxRecDepth 100000
namespace One
open Sha Oct

def recEnds (X kk : Nat → Int) : List Nat → List UInt8 → List UInt8
  | [], _ => []
  | d :: ds, s => onL X kk (3 - d) (s.take 16) ++ recEnds X kk ds (s.drop 16)
theorem recEnds_append (X kk : Nat → Int) : ∀ (ds : List Nat) (d : Nat) (s : List UInt8), recEnds X kk (ds ++ [d]) s = recEnds X kk ds s ++ onL X kk (3 - d) ((s.drop (16 * ds.length)).take 16)
  | [], d, s => by simp [recEnds]
  | e :: ds, d, s => by
    rw [List.cons_append, recEnds, recEnds_append X kk ds d, recEnds, List.append_assoc, List.drop_drop, List.length_cons, show 16 + 16 * ds.length = 16 * (ds.length + 1) by omega]
theorem recEnds_length (X kk : Nat → Int) : ∀ (ds : List Nat) (s : List UInt8), s.length = 16 * ds.length → (recEnds X kk ds s).length = 16 * ds.length
  | [], s, h => rfl
  | e :: ds, s, h => by
    rw [List.length_cons] at h
    rw [recEnds, List.length_append, onL_length X kk _ _ (by rw [List.length_take]; omega), recEnds_length X kk ds _ (by rw [List.length_drop]; omega), List.length_cons]
    omega
def recoverL (X kk : Nat → Int) (text sig : List UInt8) : List UInt8 := sumL X kk (4 :: recEnds X kk (digitsL X kk text) sig)

theorem _root_.Go.Proofs.YtbgjoefpnjgdkaaDoor.Sha.ArrB.row {n : Nat} {w w' : World} {f : Nat → UInt8} {N : Nat} {row : Option Nat} (h : ArrB n w f N) (hne : some n ≠ row) (hg : w.grownBy w' row) : ArrB n w' f N := by
  have hbl : w'.heap[n]? = w.heap[n]? := hg.block n h.size hne
  exact ⟨Nat.lt_of_lt_of_le h.size hg.size, fun j hj => by rw [World.cell?_of_block (a := ⟨n, j, none⟩) hbl]; exact h.cell j hj, fun j => by rw [World.frozen?_of_block (a := ⟨n, j, none⟩) hbl]; exact h.froz j⟩

/-- results: one that lies in a block, and one in a slot -/
theorem results_cell_tmp {fn : Func} {t s : Tmp} {ty : TypeId} (h : fn.results = #[.cell t ty, .tmp s]) (tmps : Array Value) (P : Program) (w : World) (b : Nat) (cs : List Value) (u : Value) (hv : tmps.getD t undef = .pointer (some ⟨b, 0, none⟩)) (hs : tmps.getD s undef = u) (hl : (loadVar ty ⟨b, 0, none⟩).run P w = .ok (.agg cs.toArray) w) :
    (results fn tmps).run P w = .ok (.tuple #[.agg cs.toArray, u]) w := by
  have hv' : tmps[t]?.getD undef = .pointer (some ⟨b, 0, none⟩) := by simpa using hv
  have hs' : tmps[s]?.getD undef = u := by simpa using hs
  simp [results, h, hv', asAddr, hl, hs']

set_option maxHeartbeats 4000000 in
theorem recover_any (X kk : Nat → Int) (t : ByteArray) (s : List UInt8) (hs : s.length = 1088) (w : World) (hT : Tabs w X kk) :
    Calls Tryd.prog 15 #[.string t, .string ⟨s.toArray⟩] w fun e w' => e = .returned (.tuple #[.agg (bytesV (recoverL X kk t.data.toList s)).toArray, .int .i64 0]) ∧ Below w.heap.size w w' := by
  have HT := Lib.hid hT
  clear hT
  have hcv := Lib.run_convert_bytes_const (P := Tryd.prog) (w.alloc (.cells (Array.replicate 32 (.int .u8 0)) 30)) 96 5 #[.int .u8 4] 1 1 Tryd.underlying96 Tryd.underlying5
  rw [World.size_alloc] at hcv
  have hz : (Array.replicate 32 (Value.int .u8 0)) = #[.int .u8 0, .int .u8 0, .int .u8 0, .int .u8 0, .int .u8 0, .int .u8 0, .int .u8 0, .int .u8 0, .int .u8 0, .int .u8 0, .int .u8 0, .int .u8 0, .int .u8 0, .int .u8 0, .int .u8 0, .int .u8 0, .int .u8 0, .int .u8 0, .int .u8 0, .int .u8 0, .int .u8 0, .int .u8 0, .int .u8 0, .int .u8 0, .int .u8 0, .int .u8 0, .int .u8 0, .int .u8 0, .int .u8 0, .int .u8 0, .int .u8 0, .int .u8 0] := rfl
  have a0 := ArrB.zeros w 32 _ 30 rfl
  have B0 := (Below.refl w.heap.size w).alloc (Nat.le_refl _) (.cells (Array.replicate 32 (.int .u8 0)) 30)
  have z0 := World.size_alloc w (.cells (Array.replicate 32 (.int .u8 0)) 30)
  rw [hz] at hcv a0 B0 z0
  clear hz
  go_enter Tryd.func15, Tryd.ntmps15
  go_wp2_with fail
  generalize w.alloc (.cells #[.int .u8 0, .int .u8 0, .int .u8 0, .int .u8 0, .int .u8 0, .int .u8 0, .int .u8 0, .int .u8 0, .int .u8 0, .int .u8 0, .int .u8 0, .int .u8 0, .int .u8 0, .int .u8 0, .int .u8 0, .int .u8 0, .int .u8 0, .int .u8 0, .int .u8 0, .int .u8 0, .int .u8 0, .int .u8 0, .int .u8 0, .int .u8 0, .int .u8 0, .int .u8 0, .int .u8 0, .int .u8 0, .int .u8 0, .int .u8 0, .int .u8 0, .int .u8 0] 30) = wa at *
  have l0 : Bag (w.heap.size + 1) (wa.alloc (.cells #[.int .u8 4] 5 (1, 2))) (.slice (some ⟨w.heap.size + 1, 0, none⟩) 1 1) [4] := Bag.literal wa [4] #[.int .u8 4] 5 1 (w.heap.size + 1) (w.heap.size + 1) z0 (Nat.le_refl _) rfl (by simp) 2
  have a1 := a0.below ((Below.refl _ _).alloc (Nat.le_refl _) (.cells #[.int .u8 4] 5 (1, 2)))
  have B1 := B0.alloc (by omega) (.cells #[.int .u8 4] 5 (1, 2))
  have z1 := World.size_alloc wa (.cells #[.int .u8 4] 5 (1, 2))
  rw [z0] at z1
  generalize wa.alloc (.cells #[.int .u8 4] 5 (1, 2)) = wb at *
  refine (digits_any X kk t wb (HT.out.below rfl B1)).mono ?_
  rintro e w1 ⟨vd, rfl, hd, hb⟩
  have hDl := digitsL_length X kk t.data.toList
  have HDL := Lib.hid (digitsL_le X kk t.data.toList)
  have HRL : Hid (recoverL X kk t.data.toList s = sumL X kk (4 :: recEnds X kk (digitsL X kk t.data.toList) s)) := Lib.hid rfl
  generalize digitsL X kk t.data.toList = D at *
  obtain ⟨gd, cd, rfl, hgd, hgs⟩ := World.ownsRow.form hd (by omega)
  have HD := Lib.hid (fun (j : Nat) (hj : j < D.length) => hd.cell (g := gd) rfl j hj)
  have l1 := l0.below hb
  have a2 := a1.below hb
  have B2 := B1.trans (hb.mono (by omega))
  have hgd1 : w.heap.size + 2 ≤ gd := by omega
  have hs1 := hb.size
  have L1 := Lib.hid l1
  have A2 := Lib.hid a2
  have B2' := Lib.hid B2
  have hws : w.heap.size + 2 ≤ w1.heap.size := by omega
  have hrec0 : 4 :: recEnds X kk (D.take 0) s = [4] := rfl
  rw [hDl]
  clear hcv a0 B0 z0 l0 a1 B1 z1 hd hb l1 a2 B2 hgd hs1
  go_wp2_with fail
  go_loopw [1, 6, 18] (fun x v i wr => ∃ k : Nat, k ≤ 68 ∧ x = .string ⟨(s.drop (16 * k)).toArray⟩ ∧ i = .int .i64 (k : Int) ∧ Hid (Bag (w.heap.size + 1) wr v (4 :: recEnds X kk (D.take k) s)) ∧ Hid (∀ (j : Nat) (hj : j < D.length), wr.cell? ⟨gd, j, none⟩ = some (.int .i64 (D[j] : Int))) ∧ Hid (ArrB w.heap.size wr (fun _ => 0) 32) ∧ Hid (Below w.heap.size w wr) ∧ gd < wr.heap.size ∧ w.heap.size + 2 ≤ wr.heap.size) (fun _ _ i _ => 68 - (intOf i).toNat)
  case atStart => exact ⟨0, by omega, by simp, rfl, L1, HD, A2, B2', hgs, hws⟩
  case round =>
    clear L1 HD A2 B2' hgs hws hrec0
    obtain ⟨k, hk, rfl, rfl, HV, HD, HA, HB, hgs, hws⟩ := hrel
    by_cases hlt : k < 68
    · have hki : (k : Int) < 68 := by omega
      have hdk := HD.out k (by omega)
      have hd3 : D[k]'(by omega) ≤ 3 := HDL.out _ (List.getElem_mem _)
      have HRE : Hid (recEnds X kk (D.take (k + 1)) s = recEnds X kk (D.take k) s ++ onL X kk (3 - D[k]'(by omega)) ((s.drop (16 * k)).take 16)) := by
        refine Lib.hid ?_
        rw [List.take_succ_eq_append_getElem (by omega : k < D.length), recEnds_append, show (D.take k).length = k by rw [List.length_take]; omega]
      have HREL : Hid ((recEnds X kk (D.take k) s).length ≤ 2000) := by
        refine Lib.hid ?_
        have h : ∀ (ds : List Nat) (s' : List UInt8), 16 * ds.length ≤ s'.length → (recEnds X kk ds s').length = 16 * ds.length := by
          intro ds
          induction ds with
          | nil => intro s' _; rfl
          | cons e ds ih =>
            intro s' h
            rw [List.length_cons] at h
            rw [recEnds, List.length_append, onL_length X kk _ _ (by rw [List.length_take]; omega), ih _ (by rw [List.length_drop]; omega), List.length_cons]
            omega
        rw [h _ _ (by rw [List.length_take]; omega), List.length_take]
        omega
      generalize D[k]'(by omega) = d at *
      have hdl : (s.drop (16 * k)).length = 1088 - 16 * k := by rw [List.length_drop, hs]
      have HDD : Hid ((s.drop (16 * k)).drop 16 = s.drop (16 * (k + 1))) := Lib.hid (by rw [List.drop_drop, show 16 * k + 16 = 16 * (k + 1) by omega])
      generalize s.drop (16 * k) = y at *
      have hy16 : 16 ≤ y.length := by omega
      have hyi : (16 : Int) ≤ (y.length : Int) := by omega
      have hx1 : (⟨y.toArray⟩ : ByteArray).extract 0 16 = ⟨(y.take 16).toArray⟩ := by
        have := ext_take y 0 16
        rw [List.drop_zero, Nat.zero_add] at this
        exact this
      have hx2 := ext_drop y 16
      have h3d : (3 : Int) - (d : Int) = ((3 - d : Nat) : Int) := by omega
      have HON := Lib.hid (on_any X kk (y.take 16) (3 - d) (by omega) (by rw [List.length_take]; omega) wr (HT.out.below rfl HB.out))
      have hol := onL_length X kk (3 - d) (y.take 16) (by rw [List.length_take]; omega)
      generalize y.take 16 = y0 at *
      generalize y.drop 16 = y1 at *
      generalize onL X kk (3 - d) y0 = z at *
      clear hdl
      go_wp2_with fail
      refine HON.out.mono ?_
      rintro e w2 ⟨rfl, hb2⟩
      have dv := HV.out.below hb2
      have dA := HA.out.below hb2
      have dB := HB.out.trans (hb2.mono (by omega))
      have hs2 := hb2.size
      have DD : ∀ (j : Nat) (hj : j < D.length), w2.cell? ⟨gd, j, none⟩ = some (.int .i64 (D[j] : Int)) := fun j hj => (hb2.cell (p := ⟨gd, j, none⟩) hgs).trans (HD.out j hj)
      have hne := dv.ne_box (b := gd) (by simp) (DD 0 (by omega)) (by intro c h; cases h)
      have hneA : some w.heap.size ≠ _ := fun e => by have := dv.lt _ e.symm; omega
      have HDV := Lib.hid dv
      have HFIT : Hid ((4 :: recEnds X kk (D.take k) s).length + (⟨z.toArray⟩ : ByteArray).size ≤ 1099511627776) := by
        refine Lib.hid ?_
        have := HREL.out
        simp [ByteArray.size]; omega
      have HDA := Lib.hid dA
      have HDB := Lib.hid dB
      have HDD2 := Lib.hid DD
      have HNE := Lib.hid hne
      have HNA := Lib.hid hneA
      clear dv dA dB DD hne hneA
      go_wp2_with (at_builtin; refine wpList_append_bag_string rfl (.tmp 22) (.tmp 27) rfl (w.heap.size + 1) _ (4 :: recEnds X kk (D.take k) s) rfl HDV.out (by omega) ⟨z.toArray⟩ rfl HFIT.out ?_; intro v3 w3 hv3 hg3)
      have hg3s := hg3.size
      go_roundw
      case rel => exact ⟨k + 1, by omega, by rw [HDD.out], by go_num, Lib.hid (by rw [HRE.out, ← List.cons_append]; exact hv3), Lib.hid (fun j hj => (hg3.cell (HDD2.out j hj) HNE.out.symm)), Lib.hid (HDA.out.row HNA.out hg3), Lib.hid (HDB.out.grown hg3 (by omega) (fun k e => by have := HDV.out.lt k e; omega)), by omega, by omega⟩
      case measure => simp [intOf]; omega
    · obtain rfl : k = 68 := by omega
      rw [show D.take 68 = D from List.take_of_length_le (by omega)] at HV
      rw [show ((68 : Nat) : Int) = 68 from rfl]
      clear hlt hk HD
      have hcv := HV.out.conv
      have HSM := Lib.hid (sum_any ⟨(4 :: recEnds X kk D s).toArray⟩ X kk wr (HT.out.below rfl HB.out))
      go_wp2_with fail
      refine HSM.out.mono ?_
      rintro e w2 ⟨rfl, hb2⟩
      have dA := HA.out.below hb2
      have dB := HB.out.trans (hb2.mono (by omega))
      obtain ⟨cs, hcs⟩ : ∃ cs, cs = bytesV (sumL X kk (4 :: recEnds X kk D s)) := ⟨_, rfl⟩
      rw [← hcs]
      have hl : cs.length = 32 := by rw [hcs, bytesV_length]; exact sumL_length _ _ _
      have ht : w2.there w.heap.size 0 cs.toArray.size := by
        intro j hj
        rw [List.size_toArray, hl] at hj
        rw [Nat.zero_add, dA.cell j hj]
        exact ⟨rfl, dA.froz j⟩
      have HI3 : Hid ((Tryd.prog.info? 30).map (·.size) = some cs.length) := by rw [hl]; exact Lib.hid (by kernel_rfl)
      have HI' : Hid ((Tryd.prog.info? 30).map (·.size) = some cs.toArray.size) := by rw [List.size_toArray]; exact HI3
      have H1 : Hid (cs.toArray.all (·.oneCell') = true) := by rw [hcs]; exact Lib.hid (bytesV_one _)
      have HCS := Lib.hid hcs
      have HT5 := Lib.hid ht
      have HS := Lib.hid (World.rangeAt_setCells_same w2 w.heap.size 0 cs (by rw [← List.size_toArray]; exact ht))
      have HB5 := Lib.hid dB
      clear ht hcs hl dA dB
      go_wp2_with (with_reducible refine wpList_store_mid rfl _ _ _ rfl w.heap.size 0 cs.toArray rfl rfl HT5.out HI'.out H1.out ?_)
      refine bodyPost_ret (v := .tuple #[.agg cs.toArray, .int .i64 0]) ?_ rfl ⟨by rw [HCS.out, HRL.out], below_setCells (Nat.le_refl _) _ _ _ HB5.out⟩
      exact results_cell_tmp Tryd.results15 _ _ _ w.heap.size cs _ rfl rfl (run_loadVar_mid _ w.heap.size 0 30 cs _ HS.out Tryd.underlying30 rfl HI3.out)
end One
end Go.Proofs.YtbgjoefpnjgdkaaDoor
