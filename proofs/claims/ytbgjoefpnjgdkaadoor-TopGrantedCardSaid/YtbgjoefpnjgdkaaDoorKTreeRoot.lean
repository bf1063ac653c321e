/- tree.Root and tree.Climb. -/
import Derived.Test.YtbgjoefpnjgdkaaDoorKTreeUp
import Derived.Test.YtbgjoefpnjgdkaaDoorKTreeFits
namespace Go.Proofs.YtbgjoefpnjgdkaaDoor
open Go.RowKit
set_option linter.unusedVariables false
set_option linter.unusedSimpArgs false
set_option maxRecDepth 100000
namespace Tree
open Sha
/-- so many levels up -/
def upN (X kk : Nat → Int) : Nat → List (List UInt8) → List (List UInt8)
  | 0, ls => ls
  | k + 1, ls => upN X kk k (upL X kk ls)
theorem upN_length (X kk : Nat → Int) : ∀ (k j : Nat) (ls : List (List UInt8)), ls.length = 2 ^ (k + j) → (upN X kk k ls).length = 2 ^ j
  | 0, j, ls, h => by simpa [upN] using h
  | k + 1, j, ls, h => by
    rw [upN]
    exact upN_length X kk k j _ (upL_length X kk (2 ^ (k + j)) ls (by rw [h, show k + 1 + j = (k + j) + 1 by omega, Nat.pow_succ]; omega))
/-- the root of 2^k sums -/
def rootL (X kk : Nat → Int) (k : Nat) (ls : List (List UInt8)) : List UInt8 := (upN X kk k ls).getD 0 []

/-- a row of sums lies in no block of two other cells -/
theorem HRow.ne {w : World} {b o cap n B : Nat} {x y : Value} {t : TypeId} {ls : List (List UInt8)} (hr : ∀ i (h : i < ls.length), w.rangeAt b (o + 32 * i) (bytesV ls[i])) (hn : 0 < ls.length) (hls : ∀ l ∈ ls, l.length = 32)
    (hB : w.heap[B]? = some (.cells #[x, y] t (0, 0))) (hx : ∀ c : Int, x ≠ .int .u8 c) (hy : ∀ c : Int, y ≠ .int .u8 c) : b ≠ B := by
  rintro rfl
  have hl0 := hls ls[0] (List.getElem_mem hn)
  have hu : (bytesV ls[0])[0]? = some (.int .u8 ((ls[0][0]'(by omega)).toNat : Int)) := by simp [bytesV, hl0]
  have h := hr 0 hn 0 _ hu
  simp only [World.cell?, hB] at h
  rcases ho : o + 32 * 0 + 0 with _ | _ | q
  · rw [ho] at h; simp at h; exact hx _ h
  · rw [ho] at h; simp at h; exact hy _ h
  · rw [ho] at h; simp at h
theorem HRow.turned {w w' : World} {v : Value} {ls : List (List UInt8)} (h : HRow w v ls) (hs : w.heap.size ≤ w'.heap.size) (hb : ∀ b, (∃ o n c, v = .slice (some ⟨b, o, none⟩) n c) → w'.heap[b]? = w.heap[b]?) : HRow w' v ls := by
  obtain ⟨b, o, cap, rfl, hlt, hc, hr⟩ := h
  have hbl := hb b ⟨_, _, _, rfl⟩
  exact ⟨b, o, cap, rfl, Nat.lt_of_lt_of_le hlt hs, hc, fun i hi j u hu => (World.cell?_of_block (a := ⟨b, o + 32 * i + j, none⟩) hbl).trans (hr i hi j u hu)⟩

set_option maxHeartbeats 4000000 in
theorem root_any (X kk : Nat → Int) (v : Value) (ls : List (List UInt8)) (k : Nat) (hk : k ≤ 3) (hl : ls.length = 2 ^ k) (hls : ∀ l ∈ ls, l.length = 32) (w : World) (hv : HRow w v ls) (hT : Tabs w X kk) :
    Calls Tryd.prog 14 #[v] w fun e w' => e = .returned (.tuple #[.agg (bytesV (rootL X kk k ls)).toArray, .int .i64 0]) ∧ Below w.heap.size w w' := by
  have hn8 : ls.length ≤ 8 := by
    rw [hl]
    exact Nat.le_trans (Nat.pow_le_pow_right (by omega) hk) (by decide)
  have hfit : fitsB ls.length = true := by
    rw [hl]
    match k, hk with
    | 0, _ | 1, _ | 2, _ | 3, _ => rfl
  have HF := Lib.hid (fits_any ls.length hn8)
  rw [hfit] at HF
  have HV := Lib.hid hv
  have HT := Lib.hid hT
  have HL := Lib.hid hl
  have HLS := Lib.hid hls
  obtain ⟨b, o, cap, rfl, hb, hcap, -⟩ := hv
  have a0 := ArrB.zeros w 32 _ 30 rfl
  have B0 := (Below.refl w.heap.size w).alloc (Nat.le_refl _) (.cells (Array.replicate 32 (.int .u8 0)) 30)
  have z0 := World.size_alloc w (.cells (Array.replicate 32 (.int .u8 0)) 30)
  clear hl hls hfit hT
  go_enter Tryd.func14, Tryd.ntmps14
  go_wp2_with fail
  change Calls _ _ _ (w.alloc (.cells (Array.replicate 32 (.int .u8 0)) 30)) _
  generalize w.alloc (.cells (Array.replicate 32 (.int .u8 0)) 30) = wa at *
  refine (HF.out wa).mono ?_
  rintro e w1 ⟨rfl, rfl⟩
  go_wp2_with fail
  have q2 := World.alloc_heap_new wa (.cells #[.slice (some ⟨b, o, none⟩) ls.length cap, (.func (.func 47) #[] #[])] 113)
  have a2 := a0.below ((Below.refl _ wa).alloc (Nat.le_refl _) (.cells #[.slice (some ⟨b, o, none⟩) ls.length cap, (.func (.func 47) #[] #[])] 113))
  have B2 := B0.alloc (by omega) (.cells #[.slice (some ⟨b, o, none⟩) ls.length cap, (.func (.func 47) #[] #[])] 113)
  have z2 := World.size_alloc wa (.cells #[.slice (some ⟨b, o, none⟩) ls.length cap, (.func (.func 47) #[] #[])] 113)
  rw [z0] at q2 z2
  generalize wa.alloc (.cells #[.slice (some ⟨b, o, none⟩) ls.length cap, (.func (.func 47) #[] #[])] 113) = wb at *
  have hR0 := HV.out.below B2
  clear a0 B0 z0
  go_loopw [] (fun wr => ∃ (j : Nat) (ls' : List (List UInt8)) (v' : Value), j ≤ k ∧ Hid (ls'.length = 2 ^ j) ∧ Hid (upN X kk j ls' = upN X kk k ls) ∧ Hid (∀ l ∈ ls', l.length = 32) ∧ wr.heap[w.heap.size + 1]? = some (.cells #[v', (.func (.func 47) #[] #[])] 113 (0, 0)) ∧ Hid (HRow wr v' ls') ∧ Hid (ArrB w.heap.size wr (fun _ => 0) 32) ∧ Hid (Below w.heap.size w wr) ∧ w.heap.size + 2 ≤ wr.heap.size)
    (fun wr => match wr.cell? ⟨w.heap.size + 1, 0, none⟩ with | some (.slice _ m _) => m | _ => 0)
  case atStart => exact ⟨k, ls, _, Nat.le_refl _, HL, Lib.hid rfl, HLS, q2, Lib.hid hR0, Lib.hid a2, Lib.hid B2, by omega⟩
  case round =>
    clear q2 a2 B2 z2 hR0
    obtain ⟨j, ls', v', hj, HL', HU, HLS', hq, HR, HA, HB, hws⟩ := hrel
    obtain ⟨b', o', cap', rfl, hb', hcap', -⟩ := HR.out
    have k0 : wr.cell? ⟨w.heap.size + 1, 0, none⟩ = some (.slice (some ⟨b', o', none⟩) ls'.length cap') := by simp [World.cell?, hq]
    have k1 : wr.cell? ⟨w.heap.size + 1, 1, none⟩ = some (.func (.func 47) #[] #[]) := by simp [World.cell?, hq]
    have f0 : wr.frozen? ⟨w.heap.size + 1, 0, none⟩ = false := by simp [World.frozen?, hq]
    have f1 : wr.frozen? ⟨w.heap.size + 1, 1, none⟩ = false := by simp [World.frozen?, hq]
    cases j with
    | succ j =>
      have hlen : 1 < ls'.length := by
        rw [HL'.out, Nat.pow_succ]
        have := Nat.one_le_two_pow (n := j)
        omega
      have hleni : (1 : Int) < (ls'.length : Int) := by omega
      have hm : ls'.length = 2 * 2 ^ j := by rw [HL'.out, Nat.pow_succ]; omega
      have hm1 := Nat.one_le_two_pow (n := j)
      have hm8 : 2 ^ j ≤ 8 := Nat.le_trans (Nat.pow_le_pow_right (by omega) (show j ≤ 3 by omega)) (by decide)
      have HC := Lib.hid (up_any X kk _ ls' (2 ^ j) hm hm1 hm8 HLS'.out wr HR.out (HT.out.below rfl HB.out))
      have HUL := Lib.hid (upL_length X kk (2 ^ j) ls' hm)
      have HUE := Lib.hid (upL_each X kk (2 ^ j) ls' hm)
      clear hm hm1 hm8
      go_wp2_with fail
      refine HC.out.mono ?_
      rintro e w2 ⟨v2, rfl, hR2, hb2⟩
      have hq2 : w2.heap[w.heap.size + 1]? = some (.cells #[.slice (some ⟨b', o', none⟩) ls'.length cap', (.func (.func 47) #[] #[])] 113 (0, 0)) := (hb2.block _ (by omega)).trans hq
      have HR2 := Lib.hid hR2
      have HA2 := Lib.hid (HA.out.below hb2)
      have HB2 := Lib.hid (HB.out.trans (hb2.mono (by omega)))
      have hs2 := hb2.size
      obtain ⟨b2, o2, c2, rfl, hb2', hc2', hr2⟩ := hR2
      have hne2 : b2 ≠ w.heap.size + 1 := HRow.ne (cap := c2) (n := 0) hr2 (by rw [HUL.out]; exact Nat.one_le_two_pow) HUE.out hq2 (by intro c h; cases h) (by intro c h; cases h)
      have hH1 : ((w2.setCell ⟨w.heap.size + 1, 0, none⟩ (.slice (some ⟨b2, o2, none⟩) (upL X kk ls').length c2)).setCell ⟨w.heap.size + 1, 1, none⟩ (.func (.func 47) #[] #[])).heap[w.heap.size + 1]? = some (.cells #[.slice (some ⟨b2, o2, none⟩) (upL X kk ls').length c2, (.func (.func 47) #[] #[])] 113 (0, 0)) := by
        simp only [World.setCell]
        rw [Array.getElem?_modify, if_pos rfl, Array.getElem?_modify, if_pos rfl, hq2]
        rfl
      have hR4 : HRow ((w2.setCell ⟨w.heap.size + 1, 0, none⟩ (.slice (some ⟨b2, o2, none⟩) (upL X kk ls').length c2)).setCell ⟨w.heap.size + 1, 1, none⟩ (.func (.func 47) #[] #[])) (.slice (some ⟨b2, o2, none⟩) (upL X kk ls').length c2) (upL X kk ls') :=
        HR2.out.turned (by simp [World.setCell]) (fun b h => by
          obtain ⟨o, n, c, e⟩ := h
          injection e with e1
          injection e1 with e1
          injection e1 with e1
          subst e1
          exact (Below.heap_setCell _ _ _ _ hne2).trans (Below.heap_setCell _ _ _ _ hne2))
      have HH1 := Lib.hid hH1
      have HR4 := Lib.hid hR4
      have g0 : w2.cell? ⟨w.heap.size + 1, 0, none⟩ = some (.slice (some ⟨b', o', none⟩) ls'.length cap') := by simp [World.cell?, hq2]
      have g1 : w2.cell? ⟨w.heap.size + 1, 1, none⟩ = some (.func (.func 47) #[] #[]) := by simp [World.cell?, hq2]
      have e0 : w2.frozen? ⟨w.heap.size + 1, 0, none⟩ = false := by simp [World.frozen?, hq2]
      have e1 : w2.frozen? ⟨w.heap.size + 1, 1, none⟩ = false := by simp [World.frozen?, hq2]
      clear hH1 hR4 hr2 hq2 hb2
      have hlt2 : (upL X kk ls').length < ls'.length := by rw [HUL.out, HL'.out, Nat.pow_succ]; have := Nat.one_le_two_pow (n := j); omega
      have HLT2 := Lib.hid hlt2
      clear hlt2
      go_wp2_with fail
      go_roundw
      case rel => exact ⟨j, upL X kk ls', _, by omega, HUL, by rw [← HU.out, upN]; exact rfl, HUE, HH1.out, HR4, Lib.hid ((HA2.out.far (by omega) _ _).far (by omega) _ _), Lib.hid ((HB2.out.setCell (p := ⟨w.heap.size + 1, 0, none⟩) (by simp) _).setCell (p := ⟨w.heap.size + 1, 1, none⟩) (by simp) _), by simp [World.setCell]; omega⟩
      case measure =>
        have m0 : ((w2.setCell ⟨w.heap.size + 1, 0, none⟩ (.slice (some ⟨b2, o2, none⟩) (upL X kk ls').length c2)).setCell ⟨w.heap.size + 1, 1, none⟩ (.func (.func 47) #[] #[])).cell? ⟨w.heap.size + 1, 0, none⟩ = some (.slice (some ⟨b2, o2, none⟩) (upL X kk ls').length c2) := by simp [World.cell?, HH1.out]
        rw [m0, k0]
        exact HLT2.out
    | zero =>
      have hl1 : ls'.length = 1 := by rw [HL'.out]
      have h0 : 0 < ls'.length := by omega
      have hroot : rootL X kk k ls = ls'[0] := by
        rw [rootL, ← HU.out, upN, List.getD_eq_getElem?_getD, List.getElem?_eq_getElem h0]; rfl
      have h32 := HLS'.out _ (List.getElem_mem h0)
      have hr0 : wr.rangeAt b' o' (bytesV ls'[0]) := by
        obtain ⟨b3, o3, c3, e3, _, _, hr⟩ := HR.out
        injection e3 with e1 e2
        injection e1 with e1
        injection e1 with e1 e4
        subst e1 e4
        have := hr 0 h0
        rw [Nat.mul_zero, Nat.add_zero] at this
        exact this
      have HROOT := Lib.hid hroot
      obtain ⟨cs, hcs⟩ : ∃ cs, cs = bytesV ls'[0] := ⟨_, rfl⟩
      rw [← hcs] at hr0
      have hl : cs.length = 32 := by rw [hcs, bytesV_length]; exact h32
      have ht : wr.there w.heap.size 0 cs.toArray.size := by
        intro j hj
        rw [List.size_toArray, hl] at hj
        rw [Nat.zero_add, HA.out.cell j hj]
        exact ⟨rfl, HA.out.froz j⟩
      have HI3 : Hid ((Tryd.prog.info? 30).map (·.size) = some cs.length) := by rw [hl]; exact Lib.hid (by kernel_rfl)
      have HI' : Hid ((Tryd.prog.info? 30).map (·.size) = some cs.toArray.size) := by rw [List.size_toArray]; exact HI3
      have H1 : Hid (cs.toArray.all (·.oneCell') = true) := by rw [hcs]; exact Lib.hid (bytesV_one _)
      have HCS := Lib.hid hcs
      have HR0 := Lib.hid hr0
      have HT5 := Lib.hid ht
      have HSS := Lib.hid (World.rangeAt_setCells_same wr w.heap.size 0 cs (by rw [← List.size_toArray]; exact ht))
      have hl1i : ¬ (1 : Int) < (ls'.length : Int) := by omega
      have hl0i : (0 : Int) < (ls'.length : Int) := by omega
      clear ht hcs hl hr0 hroot h32 hl1
      go_wp2_with (first | (with_reducible refine wpList_load_mid rfl 30 _ rfl b' o' rfl cs _ HR0.out Tryd.underlying30 rfl HI3.out ?_) | (with_reducible refine wpList_store_mid rfl 30 _ _ rfl w.heap.size 0 cs.toArray rfl rfl HT5.out HI'.out H1.out ?_))
      refine bodyPost_ret (v := .tuple #[.agg cs.toArray, .int .i64 0]) ?_ rfl ⟨by rw [HCS.out, HROOT.out], below_setCells (Nat.le_refl _) _ _ _ HB.out⟩
      exact One.results_cell_tmp Tryd.results14 _ _ _ w.heap.size cs _ rfl rfl (run_loadVar_mid _ w.heap.size 0 30 cs _ HSS.out Tryd.underlying30 rfl HI3.out)
end Tree
end Go.Proofs.YtbgjoefpnjgdkaaDoor
