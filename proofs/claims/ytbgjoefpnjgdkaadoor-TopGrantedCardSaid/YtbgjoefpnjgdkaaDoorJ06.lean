/- Joined of 2 texts: their lemmas, one behind the other; each says below what it holds. -/
import Derived.Test.YtbgjoefpnjgdkaaDoorJ05
/- sha's Sum and Mid: what they are hangs on the text alone (and on the two tables). -/
namespace Go.Proofs.YtbgjoefpnjgdkaaDoor
open Go.RowKit
set_option linter.unusedVariables false
set_option linter.unusedSimpArgs false
set_option maxRecDepth 100000
namespace Sha
/-- block for block -/
def blocks (kk X : Nat → Int) (l : List UInt8) : Nat → Int :=
  if h : 64 ≤ l.length then blocks kk (addX X kk (l.take 64)) (l.drop 64) else X
termination_by l.length
decreasing_by simp; omega
def restL (l : List UInt8) : List UInt8 := if h : 64 ≤ l.length then restL (l.drop 64) else l
termination_by l.length
decreasing_by simp; omega
theorem blocks_go (kk X : Nat → Int) (l : List UInt8) (h : 64 ≤ l.length) : blocks kk X l = blocks kk (addX X kk (l.take 64)) (l.drop 64) := by
  rw [blocks, dif_pos h]
theorem blocks_end (kk X : Nat → Int) (l : List UInt8) (h : l.length < 64) : blocks kk X l = X := by
  rw [blocks, dif_neg (by omega)]
theorem restL_go (l : List UInt8) (h : 64 ≤ l.length) : restL l = restL (l.drop 64) := by rw [restL, dif_pos h]
theorem restL_end (l : List UInt8) (h : l.length < 64) : restL l = l := by rw [restL, dif_neg (by omega)]
/-- eight times the length, as the model has it -/
def bitsOf (n : Nat) : Int := IntKind.u64.wrap (IntKind.u64.wrap (n : Int) * 8)
def sumX (X kk : Nat → Int) (l : List UInt8) : Nat → Int := blocks kk (blocks kk X l) (fillL (restL l) (bitsOf l.length))
/-- a text's sum, of the two tables -/
def sumL (X kk : Nat → Int) (l : List UInt8) : List UInt8 := dig (sumX X kk l)
theorem sumL_length (X kk : Nat → Int) (l : List UInt8) : (sumL X kk l).length = 32 := dig_length _

theorem Tab.below {n : Nat} {w w' : World} {f : Nat → Int} {N : Nat} (h : Tab n w f N) (hb : Below w.heap.size w w') : Tab n w' f N :=
  ⟨Nat.lt_of_lt_of_le h.size hb.size, fun j hj => by rw [hb.cell (p := ⟨n, j, none⟩) h.size]; exact h.cell j hj⟩

/-- the two tables of sums lie in the world -/
structure Tabs (w : World) (X kk : Nat → Int) : Prop where
  x : Tab 0 w X 8
  k : Tab 3 w kk 64
theorem Tabs.below {w w' : World} {X kk : Nat → Int} {n : Nat} (h : Tabs w X kk) (hn : n = w.heap.size) (hb : Below n w w') : Tabs w' X kk := by
  subst hn
  exact ⟨h.x.below hb, h.k.below hb⟩
theorem Tabs.drew {w : World} {X kk : Nat → Int} (h : Tabs w X kk) : Tabs w.drew X kk := ⟨⟨h.x.size, h.x.cell⟩, ⟨h.k.size, h.k.cell⟩⟩

/-- what add left alone -/
theorem below_grownBy {n B : Nat} {w w' : World} (h : w.grownBy w' (some n)) (hB : B ≤ n) (hs : B ≤ w.heap.size) : Below B w w' :=
  ⟨h.os, h.tape, h.output, h.size, fun k hk => h.block k (by omega) (by intro e; injection e with e; omega)⟩
theorem ArrB.keep {n m : Nat} {w w' : World} {f : Nat → UInt8} {N : Nat} (h : ArrB n w f N) (hne : n ≠ m) (hg : w.grownBy w' (some m)) : ArrB n w' f N := by
  have hbl : w'.heap[n]? = w.heap[n]? := hg.block n h.size (by intro e; injection e with e; exact hne e)
  exact ⟨Nat.lt_of_lt_of_le h.size hg.size, fun j hj => by rw [World.cell?_of_block (a := ⟨n, j, none⟩) hbl]; exact h.cell j hj, fun j => by rw [World.frozen?_of_block (a := ⟨n, j, none⟩) hbl]; exact h.froz j⟩

set_option maxHeartbeats 4000000 in
theorem sum_any (s : ByteArray) (X kk : Nat → Int) (w : World) (hT : Tabs w X kk) :
    Calls Tryd.prog 12 #[.string s] w fun e w' => e = .returned (.agg (bytesV (sumL X kk s.data.toList)).toArray) ∧ Below w.heap.size w w' := by
  have HT := Lib.hid hT
  have g0 := hT.x.cell 0 (by omega)
  have g1 := hT.x.cell 1 (by omega)
  have g2 := hT.x.cell 2 (by omega)
  have g3 := hT.x.cell 3 (by omega)
  have g4 := hT.x.cell 4 (by omega)
  have g5 := hT.x.cell 5 (by omega)
  have g6 := hT.x.cell 6 (by omega)
  have g7 := hT.x.cell 7 (by omega)
  have hgs := hT.x.size
  clear hT
  go_enter Tryd.func12, Tryd.ntmps12
  go_wp2_with fail
  have A2 := ArrB.zeros w 32 _ 30 rfl
  have B3 := (Below.refl w.heap.size w).alloc (Nat.le_refl _) (.cells (Array.replicate 32 (.int .u8 0)) 30)
  have A3 := (Row.eight (w.alloc (.cells (Array.replicate 32 (.int .u8 0)) 30)) X 102).arr
  have B4 := B3.alloc (by simp) (.cells #[.int .u32 (X 0), .int .u32 (X 1), .int .u32 (X 2), .int .u32 (X 3), .int .u32 (X 4), .int .u32 (X 5), .int .u32 (X 6), .int .u32 (X 7)] 102)
  have A2' := A2.below ((Below.refl _ _).alloc (Nat.le_refl _) (.cells #[.int .u32 (X 0), .int .u32 (X 1), .int .u32 (X 2), .int .u32 (X 3), .int .u32 (X 4), .int .u32 (X 5), .int .u32 (X 6), .int .u32 (X 7)] 102))
  rw [World.size_alloc] at A3
  change Code.wp _ _ _ _ ((w.alloc (.cells (Array.replicate 32 (.int .u8 0)) 30)).alloc (.cells #[.int .u32 (X 0), .int .u32 (X 1), .int .u32 (X 2), .int .u32 (X 3), .int .u32 (X 4), .int .u32 (X 5), .int .u32 (X 6), .int .u32 (X 7)] 102))
  generalize (w.alloc (.cells (Array.replicate 32 (.int .u8 0)) 30)).alloc (.cells #[.int .u32 (X 0), .int .u32 (X 1), .int .u32 (X 2), .int .u32 (X 3), .int .u32 (X 4), .int .u32 (X 5), .int .u32 (X 6), .int .u32 (X 7)] 102) = w3 at *
  have hs3 := A3.size
  have A2h := Lib.hid A2'
  have A3h := Lib.hid A3
  have B4h := Lib.hid B4
  clear A2 B3 g0 g1 g2 g3 g4 g5 g6 g7 A2' A3 B4
  go_loopw [0] (fun i wr => ∃ (s' : ByteArray) (Y : Nat → Int), i = .string s' ∧ Hid (blocks kk Y s'.data.toList = blocks kk X s.data.toList) ∧ Hid (restL s'.data.toList = restL s.data.toList) ∧ Hid (Arr (w.heap.size + 1) wr Y 8) ∧ Hid (ArrB w.heap.size wr (fun _ => 0) 32) ∧ Hid (Below w.heap.size w wr) ∧ w.heap.size + 1 < wr.heap.size) (fun i _ => match i with | .string s' => s'.size | _ => 0)
  case atStart => exact ⟨s, X, rfl, rfl, rfl, A3h, A2h, B4h, hs3⟩
  case round =>
    obtain ⟨s', Y, rfl, HBL, HRL, RV, RH, RB, hws⟩ := hrel
    clear A2h A3h B4h hs3
    have hsl : s'.data.toList.length = s'.size := by rw [Array.length_toList]; rfl
    by_cases hlt : 64 ≤ s'.size
    · have hti : (64 : Int) ≤ (s'.size : Int) := by omega
      have hex : (s'.extract 0 64).size = 64 := by simp; omega
      have hel : (s'.extract 0 64).data.toList = s'.data.toList.take 64 := by simp
      have hel2 : (s'.extract 64 s'.size).data.toList = s'.data.toList.drop 64 := by
        simp
        exact List.take_of_length_le (by rw [List.length_drop, hsl]; exact Nat.le_refl _)
      have hex2 : (s'.extract 64 s'.size).size = s'.size - 64 := by simp
      have hcv := bytes_conv (s'.extract 0 64) wr
      have HBT := Lib.hid (bytesW_bts wr (s'.extract 0 64))
      have HBW := Lib.hid (bytesW_below wr (s'.extract 0 64))
      have hbs := bytesW_size wr (s'.extract 0 64)
      generalize bytesW wr (s'.extract 0 64) = wb at *
      generalize bytesCap wr (s'.extract 0 64) = cap at *
      have HEL := Lib.hid hel
      have HEL2 := Lib.hid hel2
      have HSL := Lib.hid hsl
      clear hel hel2 hsl
      have HB2 := Lib.hid (RB.out.trans (HBW.out.mono (by omega)))
      go_wp2_with fail
      refine (add_any (w.heap.size + 1) wr.heap.size 0 cap Y kk (s'.data.toList.take 64) (by rw [List.length_take, HSL.out]; omega) wb (RV.out.below HBW.out) (HT.out.k.below HB2.out) (by omega) (fun j hj => by
        have h := HBT.out
        rw [HEL.out] at h
        rw [Nat.zero_add]
        exact (h.2 j hj).1)).mono ?_
      rintro e w2 ⟨rfl, hA, hG⟩
      have HA := Lib.hid hA
      have HG := Lib.hid hG
      clear hA hG
      go_wp2_with fail
      go_roundw
      case rel => exact ⟨s'.extract 64 s'.size, _, rfl, by rw [HEL2.out, ← HBL.out, blocks_go kk Y _ (by rw [HSL.out]; exact hlt)]; exact rfl, by rw [HEL2.out, ← HRL.out, restL_go s'.data.toList (by rw [HSL.out]; exact hlt)]; exact rfl, HA, Lib.hid ((RH.out.below HBW.out).keep (by omega) HG.out), Lib.hid (HB2.out.trans (below_grownBy HG.out (by omega) (by omega))), by have := HG.out.size; omega⟩
      case measure => simp; omega
    · have hti : (s'.size : Int) < 64 := by omega
      have HRE : Hid (s'.data.toList = restL s.data.toList) := by
        refine Lib.hid ?_
        rw [← HRL.out, restL_end _ (by omega)]
      have HYE : Hid (Y = blocks kk X s.data.toList) := by
        refine Lib.hid ?_
        rw [← HBL.out, blocks_end _ _ _ (by omega)]
      have HQ1 : IntKind.u64.wrap (IntKind.u64.wrap (s.size : Int) * 8) = bitsOf s.size := rfl
      go_wp2_with fail
      refine (fill_any s' (bitsOf s.size) (by omega) (s.size : Int) _ wr rfl rfl).mono ?_
      rintro e w2 ⟨v, rfl, hv, hb⟩
      have hfl := fillL_short s'.data.toList (bitsOf s.size) (by omega)
      have hfm := fillL_length s'.data.toList (bitsOf s.size)
      generalize hF : fillL s'.data.toList (bitsOf s.size) = F at *
      have HF := Lib.hid hF
      have hFp : 0 < F.length := by rw [← hF, fillL, List.length_append, lenL_length]; omega
      clear hF
      obtain ⟨g, c, rfl, hgb, hgs, hgc⟩ := hv.form hFp
      have HCL : Hid (∀ j (h : j < F.length), w2.cell? ⟨g, j, none⟩ = some (.int .u8 (F[j].toNat : Int))) := by
        rcases hv with ⟨h, _⟩ | ⟨g', c', h, _, _, _, h1, _⟩
        · cases h
        · injection h with h2 h3 h4
          injection h2 with h5
          injection h5 with h6
          subst h6
          exact Lib.hid h1
      have HB2 := Lib.hid (RB.out.trans (hb.mono (by omega)))
      have HA2 := Lib.hid (RV.out.below hb)
      have HH2 := Lib.hid (RH.out.below hb)
      have hws2 : w.heap.size + 1 < w2.heap.size := by have := hb.size; omega
      clear hv hb RB RV RH hfl
      go_wp2_with fail
      have HCL2 : Hid (∀ j (h : j < F.length), w2.cell? ⟨g, 0 + j, none⟩ = some (.int .u8 (F[j].toNat : Int))) := Lib.hid (fun j h => by rw [Nat.zero_add]; exact HCL.out j h)
      have hgb2 : w.heap.size + 1 < g := by omega
      clear HCL hgb hti hlt
      go_loopw [5] (fun v wr => ∃ (u m : Nat) (p : Option Addr) (c : Nat) (Z : Nat → Int), v = .slice p m c ∧ Hid (64 * u + m = F.length) ∧ Hid (0 < m → p = some ⟨g, 64 * u, none⟩) ∧ Hid (m ≤ c) ∧ Hid (blocks kk Z (F.drop (64 * u)) = blocks kk Y F) ∧ Hid (Arr (w.heap.size + 1) wr Z 8) ∧ Hid (ArrB w.heap.size wr (fun _ => 0) 32) ∧ Hid (Below w.heap.size w wr) ∧ Hid (∀ j (h : j < F.length), wr.cell? ⟨g, 0 + j, none⟩ = some (.int .u8 (F[j].toNat : Int))) ∧ w.heap.size + 1 < wr.heap.size ∧ g < wr.heap.size) (fun v _ => match v with | .slice _ m _ => m | _ => 0)
      case atStart => exact ⟨0, F.length, _, c, Y, rfl, Lib.hid (by omega), Lib.hid (fun _ => rfl), Lib.hid hgc, Lib.hid (by simp), HA2, HH2, HB2, HCL2, hws2, hgs⟩
      case round =>
        clear HA2 HH2 HB2 HCL2 hws2 hgs hgc
        obtain ⟨u, m, p, c, Z, rfl, HM, HP, HC, HBZ, HA, HH, HB, HCL, hws2, hgs⟩ := hrel
        by_cases hm : 0 < m
        · obtain rfl := HP.out hm
          have hm64 : 64 ≤ m := by have := HM.out; omega
          have hc64 : 64 ≤ c := by have := HC.out; omega
          have hmi : (0 : Int) < (m : Int) := by omega
          have hm64i : (64 : Int) ≤ (m : Int) := by omega
          have hc64i : (64 : Int) ≤ (c : Int) := by omega
          have hmci : (m : Int) ≤ (c : Int) := by have := HC.out; omega
          go_wp2_with fail
          refine (add_any (w.heap.size + 1) g (64 * u) c Z kk ((F.drop (64 * u)).take 64) (by rw [List.length_take, List.length_drop]; have := HM.out; omega) _ HA.out (HT.out.k.below HB.out) hgs (fun j hj => by
            rw [List.length_take, List.length_drop] at hj
            have h := HCL.out (64 * u + j) (by omega)
            rw [Nat.zero_add] at h
            rw [h]
            simp)).mono ?_
          rintro e w4 ⟨rfl, hA, hG⟩
          have HA4 := Lib.hid hA
          have HG4 := Lib.hid hG
          clear hA hG
          go_wp2_with fail
          go_roundw
          case rel => exact ⟨u + 1, m - 64, _, c - 64, _, rfl, Lib.hid (by have := HM.out; omega), Lib.hid (fun h => by rw [if_neg (by have := HC.out; omega)]; exact rfl), Lib.hid (by have := HC.out; omega), Lib.hid (by
              rw [← HBZ.out, blocks_go kk Z (F.drop (64 * u)) (by rw [List.length_drop]; have := HM.out; omega), List.drop_drop]; exact rfl), HA4, Lib.hid (HH.out.keep (by omega) HG4.out), Lib.hid (HB.out.trans (below_grownBy HG4.out (by omega) (by omega))), Lib.hid (fun j hj => by
              rw [← HCL.out j hj]
              exact World.cell?_of_block (HG4.out.block g hgs (by intro e; injection e with e; omega))), by have := HG4.out.size; omega, by have := HG4.out.size; omega⟩
          case measure => simp; omega
        · obtain rfl : m = 0 := by omega
          have HZ : Hid (Z = sumX X kk s.data.toList) := by
            refine Lib.hid ?_
            rw [sumX, ← HYE.out, ← HRE.out, show s.data.toList.length = s.size by rw [Array.length_toList]; rfl, HF.out, ← HBZ.out, blocks_end _ _ _ (by rw [List.length_drop]; have := HM.out; omega)]
          go_wp2_with fail
          refine (bytes_any (w.heap.size + 1) Z wr HA.out).mono ?_
          rintro e w5 ⟨rfl, hb5⟩
          obtain ⟨cs, hcs⟩ : ∃ cs, cs = bytesV (dig Z) := ⟨_, rfl⟩
          rw [← hcs]
          have hl : cs.length = 32 := by rw [hcs, bytesV_length]; exact dig_length Z
          have hH5 := HH.out.below hb5
          have ht : w5.there w.heap.size 0 cs.toArray.size := by
            intro j hj
            rw [List.size_toArray, hl] at hj
            rw [Nat.zero_add, hH5.cell j hj]
            exact ⟨rfl, hH5.froz j⟩
          have hi : (Tryd.prog.info? 30).map (·.size) = some cs.length := by rw [hl]; kernel_rfl
          have hi' : (Tryd.prog.info? 30).map (·.size) = some cs.toArray.size := by rw [List.size_toArray]; exact hi
          have h1 : cs.toArray.all (·.oneCell') = true := by rw [hcs]; exact bytesV_one _
          have HCS := Lib.hid hcs
          have HT5 := Lib.hid ht
          have HI := Lib.hid hi
          have HI' := Lib.hid hi'
          have H1 := Lib.hid h1
          have HB5 := Lib.hid (HB.out.trans (hb5.mono (by omega)))
          have HS := Lib.hid (World.rangeAt_setCells_same w5 w.heap.size 0 cs (by rw [← List.size_toArray]; exact ht))
          clear ht hi hi' h1 hcs hl hb5 hH5
          go_wp2_with (with_reducible refine wpList_store_mid rfl _ _ _ rfl w.heap.size 0 cs.toArray rfl rfl HT5.out HI'.out H1.out ?_)
          refine bodyPost_ret (v := .agg cs.toArray) ?_ rfl ⟨by rw [HCS.out, HZ.out]; rfl, below_setCells (Nat.le_refl _) _ _ _ HB5.out⟩
          exact results_cell Tryd.results12 _ _ _ w.heap.size cs rfl (run_loadVar_mid _ w.heap.size 0 30 cs _ HS.out Tryd.underlying30 rfl HI.out)

/-- a short sum -/
def midL (X kk : Nat → Int) (l : List UInt8) : List UInt8 := (sumL X kk l).take 16
theorem midL_length (X kk : Nat → Int) (l : List UInt8) : (midL X kk l).length = 16 := by rw [midL, List.length_take, sumL_length]; rfl

theorem hash_bts (w : World) (L : List UInt8) (t : TypeId) (n : Nat) : Bts (w.alloc (.cells (bytesV L).toArray t)) w.heap.size (L.take n) := by
  refine ⟨by simp, fun j hj => ⟨?_, (World.frozen?_alloc_mark w _ t 0 0 j).trans (by simp)⟩⟩
  rw [List.length_take] at hj
  have := World.cell?_alloc_mark w (bytesV L).toArray t (0, 0) j
  rw [this]
  simp [bytesV, show j < L.length by omega]

set_option maxHeartbeats 4000000 in
theorem mid_any (s : ByteArray) (X kk : Nat → Int) (w : World) (hT : Tabs w X kk) :
    Calls Tryd.prog 94 #[.string s] w fun e w' => e = .returned (.string ⟨(midL X kk s.data.toList).toArray⟩) ∧ Below w.heap.size w w' := by
  have HT := Lib.hid hT
  clear hT
  go_enter Tryd.func94, Tryd.ntmps94
  go_wp2_with fail
  refine (sum_any s X kk w HT.out).mono ?_
  rintro e w1 ⟨rfl, hb⟩
  have hL := sumL_length X kk s.data.toList
  have HB := Lib.hid hb
  clear hb
  generalize hG : sumL X kk s.data.toList = L at *
  have HG := Lib.hid hG
  clear hG
  have HSZ := Lib.hid (show (bytesV L).toArray.size = 32 by rw [List.size_toArray, bytesV_length, hL])
  have HI := Lib.hid (show (Tryd.prog.info? 30).map (·.size) = some (bytesV L).toArray.size by rw [List.size_toArray, bytesV_length, hL]; kernel_rfl)
  have hcv := (hash_bts w1 L 30 16).conv 32
  rw [show (L.take 16).length = 16 by rw [List.length_take, hL]; rfl] at hcv
  go_wp2_with (refine wpList_store_new (o := ⟨none, .store 30 (.tmp 3) (.tmp 5), _, _, _, _⟩) rfl 30 (.tmp 3) (.tmp 5) rfl _ (bytesV L).toArray ?_ ?_ HI.out ?_ (bytesV_one _) ?_; rfl; rfl; exact (show _ = 32 from rfl).trans HSZ.out.symm)
  go_ret
  refine ⟨by rw [midL, HG.out]; rfl, HB.out.trans ((Below.refl _ _).alloc HB.out.size _)⟩
end Sha
end Go.Proofs.YtbgjoefpnjgdkaaDoor
/- onetime: a text so many steps on; the digits of a text. -/
namespace Go.Proofs.YtbgjoefpnjgdkaaDoor
open Go.RowKit
set_option linter.unusedVariables false
set_option linter.unusedSimpArgs false
set_option maxRecDepth 100000
namespace One
open Sha
/-- so many steps on -/
def onL (X kk : Nat → Int) : Nat → List UInt8 → List UInt8
  | 0, l => l
  | n + 1, l => onL X kk n (midL X kk (2 :: l))
theorem onL_add (X kk : Nat → Int) : ∀ (a b : Nat) (l : List UInt8), onL X kk b (onL X kk a l) = onL X kk (a + b) l
  | 0, b, l => by rw [onL, Nat.zero_add]
  | a + 1, b, l => by rw [onL, onL_add X kk a b, show a + 1 + b = (a + b) + 1 by omega, onL]
theorem onL_length (X kk : Nat → Int) : ∀ (n : Nat) (l : List UInt8), l.length = 16 → (onL X kk n l).length = 16
  | 0, l, h => h
  | n + 1, l, _ => by rw [onL]; exact onL_length X kk n _ (midL_length _ _ _)

theorem cat_toList (a b : List UInt8) : ((⟨a.toArray⟩ : ByteArray) ++ ⟨b.toArray⟩).data.toList = a ++ b := by
  simp [ByteArray.data_append]

set_option maxHeartbeats 1000000 in
theorem on_any (X kk : Nat → Int) (l : List UInt8) (n : Nat) (hn : (n : Int) ≤ 1000) (hl : l.length ≤ 1000) (w : World) (hT : Tabs w X kk) :
    Calls Tryd.prog 45 #[.string ⟨l.toArray⟩, .int .i64 (n : Int)] w fun e w' => e = .returned (.string ⟨(onL X kk n l).toArray⟩) ∧ Below w.heap.size w w' := by
  have HT := Lib.hid hT
  clear hT
  go_enter Tryd.func45, Tryd.ntmps45
  go_wp2_with fail
  go_loopw [0, 6] (fun s i wr => ∃ (k : Nat) (y : List UInt8), k ≤ n ∧ y.length ≤ 1000 ∧ s = .string ⟨y.toArray⟩ ∧ i = .int .i64 (k : Int) ∧ Hid (onL X kk (n - k) y = onL X kk n l) ∧ Below w.heap.size w wr) (fun _ i _ => n - (intOf i).toNat)
  case atStart => exact ⟨0, l, by omega, hl, rfl, rfl, Lib.hid rfl, Below.refl _ _⟩
  case round =>
    obtain ⟨k, y, hk, hyl, rfl, rfl, HO, hb⟩ := hrel
    by_cases hlt : k < n
    · have hki : (k : Int) < (n : Int) := by omega
      have hm := mid_any (⟨#[2]⟩ ++ ⟨y.toArray⟩) X kk wr (HT.out.below rfl hb)
      rw [show (⟨#[2]⟩ ++ ⟨y.toArray⟩ : ByteArray).data.toList = 2 :: y from cat_toList [2] y] at hm
      have HM := Lib.hid hm
      clear hm
      go_wp2_with fail
      refine HM.out.mono ?_
      rintro e w1 ⟨rfl, hb1⟩
      have hb2 := hb.trans (hb1.mono hb.size)
      go_wp2_with fail
      go_roundw
      case rel => exact ⟨k + 1, _, by omega, by rw [midL_length]; omega, rfl, by go_num, Lib.hid (by rw [← HO.out, show n - k = (n - (k + 1)) + 1 by omega, onL]), hb2⟩
      case measure => simp [intOf]; omega
    · obtain rfl : k = n := by omega
      have ho := HO.out
      rw [Nat.sub_self, onL] at ho
      subst ho
      clear hlt hk
      go_wp2_with fail
      go_ret
      exact ⟨by trivial, hb⟩
end One
end Go.Proofs.YtbgjoefpnjgdkaaDoor
