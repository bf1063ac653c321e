/- onetime: the iterator of a seed's chains' starts. -/
import Derived.Test.YtbgjoefpnjgdkaaDoorKOneDigits
import Derived.Test.YtbgjoefpnjgdkaaDoorJ10
namespace Go.Proofs.YtbgjoefpnjgdkaaDoor
open Go.RowKit Go.Shelf
set_option linter.unusedVariables false
set_option linter.unusedSimpArgs false
set_option maxRecDepth 100000
attribute [local go_sem] Oper.semAt_some
namespace One
open Sha
def startL (X kk : Nat → Int) (seed : List UInt8) (j : Nat) : List UInt8 := midL X kk (3 :: UInt8.ofNat j :: seed)
theorem startL_length (X kk : Nat → Int) (seed : List UInt8) (j : Nat) : (startL X kk seed j).length = 16 := midL_length _ _ _
abbrev encSt (X kk : Nat → Int) (seed : List UInt8) (j : Fin 68) : Array Value := #[.int .i64 (j.val : Int), .string ⟨(startL X kk seed j.val).toArray⟩]
/-- the places of a seed's chains -/
def places : List (Fin 68) := List.finRange 68
theorem places_length : places.length = 68 := by simp [places]
theorem places_take (j : Nat) (h : j < 68) : places.take (j + 1) = places.take j ++ [⟨j, h⟩] := by
  rw [List.take_succ_eq_append_getElem (by rw [places_length]; exact h)]
  simp [places]

theorem _root_.Go.Proofs.YtbgjoefpnjgdkaaDoor.Sha.Tab.low {B n : Nat} {w w' : World} {f : Nat → Int} {N : Nat} (h : Tab n w f N) (hn : n < B) (hb : Below B w w') : Tab n w' f N :=
  ⟨Nat.lt_of_lt_of_le h.size hb.size, fun j hj => by rw [hb.cell (p := ⟨n, j, none⟩) hn]; exact h.cell j hj⟩
theorem _root_.Go.Proofs.YtbgjoefpnjgdkaaDoor.Sha.Tabs.low {B : Nat} {w w' : World} {X kk : Nat → Int} (h : Tabs w X kk) (hn : 3 < B) (hn' : 0 < B) (hb : Below B w w') : Tabs w' X kk := ⟨h.x.low hn' hb, h.k.low hn hb⟩

set_option maxHeartbeats 1000000 in
theorem starts_in (F : Fence) (n : Nat) (hF : F.fn 44) (hro : F.round = none) (l : List UInt8) (w : World) :
    CallsIn F n Tryd.prog 44 #[.string ⟨l.toArray⟩] w fun e w' => e = .returned (.func (.func 93) #[] #[.pointer (some ⟨w.heap.size, 0, none⟩)]) ∧ w' = w.alloc (.cells #[.string ⟨l.toArray⟩] 9) := by
  refine callsIn_of_wp Tryd.func44 rfl hF ?_ hro
  simp only [Tryd.ntmps44, List.size_toArray, List.length_cons, List.length_nil, Nat.reduceAdd, Nat.reduceSub, Array.replicate_succ, Array.replicate_zero, List.push_toArray, List.append_toArray, List.nil_append, List.cons_append]
  gi_wp2
  go_ret
  exact ⟨rfl, rfl⟩

/-- what a round must leave as it was: what lay there before the call, and the box -/
def Kept (n0 Bn : Nat) (A B : World) : Prop := B.heap[Bn]? = A.heap[Bn]? ∧ Below n0 A B

set_option maxHeartbeats 2000000 in
theorem starts1_in (X kk : Nat → Int) (n : Nat) (hn : 3 ≤ n) (lp Bn n0 n1 : Nat) (l : List UInt8) (hl : l.length ≤ 100000) (J Jx : List (Fin 68) → World → Prop) (hJ : AbidesFrom n1 J)
    (hk0 : 3 < n0) (hb0 : 0 < n0)
    (hY : ∀ pre x W, J pre W → pre.length < 68 → YieldAt Fence.wide (n - 1) Tryd.prog lp (encSt X kk l x) W fun e W' =>
      (e = .returned (.bool true) ∧ J (pre ++ [x]) W' ∧ Kept n0 Bn W W') ∨ (e = .returned (.bool false) ∧ Jx (pre ++ [x]) W'))
    (W : World) (hBl : Bn < W.heap.size) (hBn : W.cell? ⟨Bn, 0, none⟩ = some (.string ⟨l.toArray⟩)) (hT : Tabs W X kk) (h0 : J [] W) :
    CallsIn Fence.wide n Tryd.prog 93 #[.func (.yield lp) #[] #[], .pointer (some ⟨Bn, 0, none⟩)] W fun e W' => (∃ v, e = .returned v) ∧
      ((∃ ys, ys = places ∧ J ys W') ∨ (∃ pre, pre <+: places ∧ Jx pre W')) := by
  refine callsIn_of_wp Tryd.func93 rfl trivial ?_ rfl
  simp only [Tryd.ntmps93, List.size_toArray, List.length_cons, List.length_nil, Nat.reduceAdd, Nat.reduceSub, Array.replicate_succ, Array.replicate_zero, List.push_toArray, List.append_toArray, List.nil_append, List.cons_append]
  gi_wp2
  gi_loopw [4] (fun a wr => ∃ j : Nat, j ≤ 68 ∧ a = .int .i64 (j : Int) ∧ Bn < wr.heap.size ∧ wr.cell? ⟨Bn, 0, none⟩ = some (.string ⟨l.toArray⟩) ∧ Hid (Tabs wr X kk) ∧ J (places.take j) wr)
    (fun a _ => 68 - (intOf a).toNat)
  case atStart =>
    exact ⟨0, by omega, rfl, hBl, hBn, Lib.hid hT, by simpa using h0⟩
  case round =>
    obtain ⟨j, hj, rfl, hBl, hB, HT, hJ1⟩ := hrel
    by_cases hlt : j < 68
    · have hji : (j : Int) < 68 := by omega
      have hcv : (convert 96 9 (.slice (some ⟨wr.heap.size, 0, none⟩) 1 1)).run Tryd.prog (wr.alloc (.cells #[.int .u8 (j : Int)] 5)) = .ok (.string ⟨#[UInt8.ofNat j]⟩) (wr.alloc (.cells #[.int .u8 (j : Int)] 5)) := by
        have hb : Bts (wr.alloc (.cells #[.int .u8 (j : Int)] 5)) wr.heap.size [UInt8.ofNat j] := by
          refine ⟨by simp, fun i hi => ⟨?_, ?_⟩⟩
          · have hi0 : i = 0 := by simpa using hi
            subst hi0
            rw [World.cell?_alloc_mark wr _ _ (0, 0) 0]
            have hjm : j % 256 = j := by omega
            simp [hjm]
          · exact (World.frozen?_alloc_mark wr _ _ 0 0 i).trans (by simp)
        exact hb.conv 1
      have hli : (l.length : Int) ≤ 100000 := by omega
      have hba := (Below.refl wr.heap.size wr).alloc (Nat.le_refl _) (.cells #[.int .u8 (j : Int)] 5)
      have hm := mid_any (⟨#[3]⟩ ++ ⟨#[UInt8.ofNat j]⟩ ++ ⟨l.toArray⟩) X kk (wr.alloc (.cells #[.int .u8 (j : Int)] 5)) (HT.out.below rfl hba)
      rw [show (⟨#[3]⟩ ++ ⟨#[UInt8.ofNat j]⟩ ++ ⟨l.toArray⟩ : ByteArray).data.toList = 3 :: UInt8.ofNat j :: l by simp [ByteArray.data_append]] at hm
      have HM := Lib.hid hm
      have hBa : (wr.alloc (.cells #[.int .u8 (j : Int)] 5)).cell? ⟨Bn, 0, none⟩ = some (.string ⟨l.toArray⟩) := by rw [hba.cell (p := ⟨Bn, 0, none⟩) hBl]; exact hB
      have HTK := Lib.hid (places_take j hlt)
      clear hm
      gi_wp2_with fail
      refine ⟨trivial, fun _ => by omega, (callsIn_wide.2 HM.out).mono ?_⟩
      rintro e1 w2 ⟨rfl, hb2⟩
      have hb3 : Below wr.heap.size wr w2 := hba.trans (hb2.mono (by simp))
      have hJ2 := hJ _ wr w2 none hJ1 ⟨hb3.os, hb3.tape, hb3.output, hb3.size, fun k hk _ => hb3.block k hk⟩ (fun r e => by cases e)
      obtain ⟨fn, tmps, assign, body, hy, hR⟩ := hY _ ⟨j, hlt⟩ w2 hJ2 (by rw [List.length_take, places_length]; omega)
      dsimp only [encSt] at hy
      have hs2 := hb3.size
      have hB2 : w2.heap[Bn]? = wr.heap[Bn]? := hb3.block Bn hBl
      have HT2 := Lib.hid (HT.out.below rfl hb3)
      clear hba hb2 HM hBa hcv hJ1
      rw [show midL X kk (3 :: UInt8.ofNat j :: l) = startL X kk l j from rfl]
      gi_wp2
      refine ⟨fun _ => by omega, hR.mono ?_⟩
      rintro e W3 (⟨rfl, hJ3, hk3⟩ | ⟨rfl, hJx3⟩)
      · have hB3 : W3.cell? ⟨Bn, 0, none⟩ = some (.string ⟨l.toArray⟩) := (World.cell?_of_block (a := ⟨Bn, 0, none⟩) (hk3.1.trans hB2)).trans hB
        rw [← HTK.out] at hJ3
        have hs3 := hk3.2.size
        have HT3 := Lib.hid (HT2.out.low hk0 hb0 hk3.2)
        gi_wp2
        go_roundw
        case rel => exact ⟨j + 1, by omega, by go_num, by omega, hB3, HT3, hJ3⟩
        case measure => simp [intOf]; omega
      · rw [← HTK.out] at hJx3
        gi_wp2
        refine bodyPost_ret (results_none rfl _ _ _) rfl ?_
        exact ⟨⟨_, rfl⟩, .inr ⟨_, List.take_prefix _ _, hJx3⟩⟩
    · obtain rfl : j = 68 := by omega
      rw [show places.take 68 = places from List.take_of_length_le (by rw [places_length]; omega)] at hJ1
      rw [show ((68 : Nat) : Int) = 68 from rfl]
      clear hlt hj
      gi_wp2
      refine bodyPost_end (results_none rfl _ _ _) rfl ?_
      exact ⟨⟨_, rfl⟩, .inl ⟨_, rfl, hJ1⟩⟩

theorem starts_stops (X kk : Nat → Int) (n : Nat) (hn : 3 ≤ n) (Bn n0 : Nat) (l : List UInt8) (hl : l.length ≤ 100000) (hk0 : 3 < n0) (hb0 : 0 < n0) (w : World) (hB : Bn < w.heap.size) (hn0 : n0 ≤ w.heap.size) (hc1 : w.cell? ⟨Bn, 0, none⟩ = some (.string ⟨l.toArray⟩)) (hT : Tabs w X kk) :
    SeqStopsK Fence.wide n Tryd.prog 93 #[.pointer (some ⟨Bn, 0, none⟩)] (encSt X kk l) (Kept n0 Bn) (fun ys => ys = places) (fun pre => pre <+: places) 68 w := fun lp J Jx W hW hJ _ hY h0 =>
  starts1_in X kk n hn lp Bn n0 _ l hl J Jx hJ hk0 hb0 hY W (Nat.lt_of_lt_of_le hB hW.size) ((hW.cell (p := ⟨Bn, 0, none⟩) hB).trans hc1) (hT.below rfl hW) h0
end One
end Go.Proofs.YtbgjoefpnjgdkaaDoor
