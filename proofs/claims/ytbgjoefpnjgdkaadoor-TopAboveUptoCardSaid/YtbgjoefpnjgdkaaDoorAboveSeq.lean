/- power.changed: the users whose levels are not alike. -/
import Derived.Test.YtbgjoefpnjgdkaaDoorAboveFind
import Derived.RangeFuncNested
import Derived.RangeFuncBound
import Derived.RangeFuncCalls
import Derived.RangeFuncLeaves
import Derived.Shelf.Abstract
import Derived.Shelf.RegionOpen
import Derived.WalkKit
import Derived.OwnWalkIn
import Derived.TacticsInMore
import Derived.LoopNIn
import Derived.LoopIn
import Derived.RangeFuncFrom
import Derived.RangeFuncKeeps
namespace Go.Proofs.YtbgjoefpnjgdkaaDoor
open Go.RowKit Go.Shelf
set_option linter.unusedVariables false
set_option linter.unusedSimpArgs false
set_option maxRecDepth 100000
attribute [local go_sem] Oper.semAt_some
namespace Above
def one1 (ts : List (List UInt8 × Int)) (u : List UInt8 × Int) : List (List UInt8) := if (findL ts u.1).2 = false ∨ (findL ts u.1).1 ≠ u.2 then [u.1] else []
def one2 (us : List (List UInt8 × Int)) (u : List UInt8 × Int) : List (List UInt8) := if (findL us u.1).2 = false then [u.1] else []
def changedL (us ts : List (List UInt8 × Int)) : List (List UInt8) := us.flatMap (one1 ts) ++ ts.flatMap (one2 us)
theorem one1_le (ts : List (List UInt8 × Int)) : ∀ us : List (List UInt8 × Int), (us.flatMap (one1 ts)).length ≤ us.length
  | [] => Nat.le_refl _
  | u :: r => by
    have := one1_le ts r
    rw [List.flatMap_cons, List.length_append, List.length_cons]
    have : (one1 ts u).length ≤ 1 := by unfold one1; split <;> simp
    omega
theorem one2_le (ts : List (List UInt8 × Int)) : ∀ us : List (List UInt8 × Int), (us.flatMap (one2 ts)).length ≤ us.length
  | [] => Nat.le_refl _
  | u :: r => by
    have := one2_le ts r
    rw [List.flatMap_cons, List.length_append, List.length_cons]
    have : (one2 ts u).length ≤ 1 := by unfold one2; split <;> simp
    omega
theorem take_one {f : List UInt8 × Int → List (List UInt8)} (us : List (List UInt8 × Int)) (j : Nat) (hj : j < us.length) : (us.take (j + 1)).flatMap f = (us.take j).flatMap f ++ f us[j] := by
  rw [List.take_succ_eq_append_getElem hj, List.flatMap_append, List.flatMap_singleton]

set_option maxHeartbeats 8000000 in
theorem changed_stops (n : Nat) (hn : 3 ≤ n) (n0 n1 n2 n3 n4 n5 m0 m1 m2 m3 m4 m5 : Int) (pu pt : Option Addr) (cu ct : Nat) (us ts : List (List UInt8 × Int)) (b1 b2 : Nat) (w : World)
    (hA : Blk w b1 [.int .i64 n0, .int .i64 n1, .int .i64 n2, .int .i64 n3, .int .i64 n4, .int .i64 n5, .slice pu us.length cu]) (hB : Blk w b2 [.int .i64 m0, .int .i64 m1, .int .i64 m2, .int .i64 m3, .int .i64 m4, .int .i64 m5, .slice pt ts.length ct]) (hu : LRow w (.slice pu us.length cu) us) (ht : LRow w (.slice pt ts.length ct) ts) (hul : us.length ≤ 1048577) (htl : ts.length ≤ 1048577) :
    SeqStopsK Fence.wide n Tryd.prog 119 #[.pointer (some ⟨b1, 0, none⟩), .pointer (some ⟨b2, 0, none⟩)] (fun x : List UInt8 => #[Value.string ⟨x.toArray⟩]) (Below w.heap.size) (fun xs => xs = changedL us ts) (fun _ => True) (us.length + ts.length) w := by
  intro l J Jx W hW hJ hJx hY h0
  have HF1 := Lib.hid (fun (x : List UInt8) w' (hb : Below w.heap.size w w') => find_any m0 m1 m2 m3 m4 m5 (.slice pt ts.length ct) ts x w' (ht.low hb) htl)
  have HF2 := Lib.hid (fun (x : List UInt8) w' (hb : Below w.heap.size w w') => find_any n0 n1 n2 n3 n4 n5 (.slice pu us.length cu) us x w' (hu.low hb) hul)
  have hJb : ∀ pre A B, J pre A → Below A.heap.size A B → J pre B := fun pre A B h hb => hJ _ A B none h ⟨hb.os, hb.tape, hb.output, hb.size, fun k hk _ => hb.block k hk⟩ (fun r e => by cases e)
  have HA := Lib.hid hA
  have HB := Lib.hid hB
  have HU := Lib.hid hu
  have HT := Lib.hid ht
  have hui : (us.length : Int) ≤ 1048577 := by omega
  have hti : (ts.length : Int) ≤ 1048577 := by omega
  have h6 := (HA.out.low hW).cell 6 rfl
  unfold levV at *
  clear hA hB hu ht
  refine callsIn_of_wp Tryd.func119 rfl trivial ?_ rfl
  simp only [Tryd.ntmps119, List.size_toArray, List.length_cons, List.length_nil, Nat.reduceAdd, Nat.reduceSub, Array.replicate_succ, Array.replicate_zero, List.push_toArray, List.append_toArray, List.nil_append, List.cons_append]
  gi_wp2_with fail
  gi_loopw [15] (fun i wr => ∃ j : Nat, j ≤ us.length ∧ i = .int .i64 (j : Int) ∧ Hid (J ((us.take j).flatMap (one1 ts)) wr) ∧ Hid (Below w.heap.size w wr)) (fun i _ => us.length - (intOf i).toNat)
  case atStart => exact ⟨0, by omega, rfl, Lib.hid (by simpa using h0), Lib.hid hW⟩
  case round =>
    obtain ⟨j, hj, rfl, HJ, HW⟩ := hrel
    by_cases hlt : j < us.length
    · obtain ⟨b, rfl, -, hbl, hc0, hc1⟩ := HU.out.at hlt
      have c0 := (HW.out.cell (p := ⟨b, j * 2, none⟩) hbl).trans hc0
      have c1 := (HW.out.cell (p := ⟨b, j * 2 + 1, none⟩) hbl).trans hc1
      have hji : (j : Int) < (us.length : Int) := by omega
      have HN := Lib.hid (take_one (f := one1 ts) us j hlt)
      clear hc0 hc1 h6
      generalize us[j] = u at *
      obtain ⟨ux, un⟩ := u
      dsimp only at c0 c1
      have hsz := HW.out.size
      have X3 := Blk.new wr #[.string ⟨ux.toArray⟩, .int .i64 un] 76
      have B3 := HW.out.alloc HW.out.size (.cells #[.string ⟨ux.toArray⟩, .int .i64 un] 76)
      have J3 := hJb _ _ _ HJ.out ((Below.refl wr.heap.size wr).alloc (Nat.le_refl _) (.cells #[.string ⟨ux.toArray⟩, .int .i64 un] 76))
      have BB := HB.out.below B3 HB.out.size
      have k0 := BB.cell 0 rfl
      have k1 := BB.cell 1 rfl
      have k2 := BB.cell 2 rfl
      have k3 := BB.cell 3 rfl
      have k4 := BB.cell 4 rfl
      have k5 := BB.cell 5 rfl
      have k6 := BB.cell 6 rfl
      clear BB
      gi_wp2_with fail
      generalize wr.alloc (.cells #[.string ⟨ux.toArray⟩, .int .i64 un] 76) = w4 at *
      refine ⟨trivial, fun _ => by omega, (callsIn_wide.2 (HF1.out ux _ B3)).mono ?_⟩
      rintro e w5 ⟨rfl, hb5⟩
      have X5 := X3.low hb5
      have B5 := B3.trans (hb5.mono B3.size)
      have J5 := hJb _ _ _ J3 hb5
      have e0 := X5.cell 0 rfl
      have e1 := X5.cell 1 rfl
      have HO : Hid (one1 ts (ux, un) = if (findL ts ux).2 = false ∨ (findL ts ux).1 ≠ un then [ux] else []) := Lib.hid rfl
      clear k0 k1 k2 k3 k4 k5 k6 c0 c1 X3 B3 J3 hb5
      generalize one1 ts (ux, un) = o1 at *
      generalize findL ts ux = f at *
      obtain ⟨fm, fb⟩ := f
      dsimp only at HO
      have hlen : ((us.take j).flatMap (one1 ts)).length < us.length + ts.length := by
        have h := one1_le ts (us.take j)
        rw [List.length_take] at h
        omega
      have HJ5 := Lib.hid J5
      clear J5
      cases fb with
      | false =>
        have HP := Lib.hid (show (us.take (j + 1)).flatMap (one1 ts) = (us.take j).flatMap (one1 ts) ++ [ux] by rw [HN.out, HO.out, if_pos (.inl rfl)])
        clear HN HO
        obtain ⟨fy, ty, ay, cy, hy, hR⟩ := hY _ ux w5 HJ5.out hlen
        try dsimp only at hy
        gi_wp2_with fail
        refine ⟨fun _ => by omega, hR.mono ?_⟩
        rintro e W3 (⟨rfl, hJ3, hk3⟩ | ⟨rfl, hJx3⟩)
        · gi_wp2
          go_roundw
          case rel => exact ⟨j + 1, by omega, by go_num, Lib.hid (by rw [HP.out]; exact hJ3), Lib.hid (B5.trans hk3)⟩
          case measure => simp [intOf]; omega
        · gi_wp2
          refine bodyPost_ret (results_none rfl _ _ _) rfl ?_
          exact ⟨⟨_, rfl⟩, .inr ⟨_, trivial, hJx3⟩⟩
      | true =>
        by_cases hm : fm = un
        · have HP := Lib.hid (show (us.take (j + 1)).flatMap (one1 ts) = (us.take j).flatMap (one1 ts) by rw [HN.out, HO.out, if_neg (by rintro (h | h) <;> simp_all), List.append_nil])
          clear HN HO
          subst hm
          gi_wp2
          refine ⟨(fun f e => by cases e), ?_⟩
          gi_wp2
          go_roundw
          case rel => exact ⟨j + 1, by omega, by go_num, Lib.hid (by rw [HP.out]; exact HJ5.out), Lib.hid B5⟩
          case measure => simp [intOf]; omega
        · have HP := Lib.hid (show (us.take (j + 1)).flatMap (one1 ts) = (us.take j).flatMap (one1 ts) ++ [ux] by rw [HN.out, HO.out, if_pos (.inr hm)])
          have hmd : (fm == un) = false := by simpa using hm
          clear HN HO
          obtain ⟨fy, ty, ay, cy, hy, hR⟩ := hY _ ux w5 HJ5.out hlen
          try dsimp only at hy
          gi_wp2_with fail
          refine ⟨fun _ => by omega, hR.mono ?_⟩
          rintro e W3 (⟨rfl, hJ3, hk3⟩ | ⟨rfl, hJx3⟩)
          · gi_wp2
            go_roundw
            case rel => exact ⟨j + 1, by omega, by go_num, Lib.hid (by rw [HP.out]; exact hJ3), Lib.hid (B5.trans hk3)⟩
            case measure => simp [intOf]; omega
          · gi_wp2
            refine bodyPost_ret (results_none rfl _ _ _) rfl ?_
            exact ⟨⟨_, rfl⟩, .inr ⟨_, trivial, hJx3⟩⟩
    · obtain rfl : j = us.length := by omega
      rw [List.take_length] at HJ
      have g6 := (HB.out.below HW.out HB.out.size).cell 6 rfl
      clear hlt hj h6
      gi_wp2_with fail
      gi_loopw [45] (fun i wr => ∃ j : Nat, j ≤ ts.length ∧ i = .int .i64 (j : Int) ∧ Hid (J (us.flatMap (one1 ts) ++ (ts.take j).flatMap (one2 us)) wr) ∧ Hid (Below w.heap.size w wr)) (fun i _ => ts.length - (intOf i).toNat)
      case atStart => exact ⟨0, by omega, rfl, Lib.hid (by simpa using HJ.out), HW⟩
      case round =>
        clear HJ HW
        obtain ⟨j, hj, rfl, HJ, HW⟩ := hrel
        by_cases hlt : j < ts.length
        · obtain ⟨b, rfl, -, hbl, hc0, hc1⟩ := HT.out.at hlt
          have c0 := (HW.out.cell (p := ⟨b, j * 2, none⟩) hbl).trans hc0
          have c1 := (HW.out.cell (p := ⟨b, j * 2 + 1, none⟩) hbl).trans hc1
          have hji : (j : Int) < (ts.length : Int) := by omega
          have HN := Lib.hid (take_one (f := one2 us) ts j hlt)
          clear hc0 hc1 g6
          generalize ts[j] = u at *
          obtain ⟨ux, un⟩ := u
          dsimp only at c0 c1
          have hsz := HW.out.size
          have X3 := Blk.new wr #[.string ⟨ux.toArray⟩, .int .i64 un] 76
          have B3 := HW.out.alloc HW.out.size (.cells #[.string ⟨ux.toArray⟩, .int .i64 un] 76)
          have J3 := hJb _ _ _ HJ.out ((Below.refl wr.heap.size wr).alloc (Nat.le_refl _) (.cells #[.string ⟨ux.toArray⟩, .int .i64 un] 76))
          have BB := HA.out.below B3 HA.out.size
          have k0 := BB.cell 0 rfl
          have k1 := BB.cell 1 rfl
          have k2 := BB.cell 2 rfl
          have k3 := BB.cell 3 rfl
          have k4 := BB.cell 4 rfl
          have k5 := BB.cell 5 rfl
          have k6 := BB.cell 6 rfl
          clear BB
          gi_wp2_with fail
          generalize wr.alloc (.cells #[.string ⟨ux.toArray⟩, .int .i64 un] 76) = w4 at *
          refine ⟨trivial, fun _ => by omega, (callsIn_wide.2 (HF2.out ux _ B3)).mono ?_⟩
          rintro e w5 ⟨rfl, hb5⟩
          have X5 := X3.low hb5
          have B5 := B3.trans (hb5.mono B3.size)
          have J5 := hJb _ _ _ J3 hb5
          have e0 := X5.cell 0 rfl
          have e1 := X5.cell 1 rfl
          have HO : Hid (one2 us (ux, un) = if (findL us ux).2 = false then [ux] else []) := Lib.hid rfl
          clear k0 k1 k2 k3 k4 k5 k6 c0 c1 X3 B3 J3 hb5
          generalize one2 us (ux, un) = o1 at *
          generalize findL us ux = f at *
          obtain ⟨fm, fb⟩ := f
          dsimp only at HO
          have hlen : (us.flatMap (one1 ts) ++ (ts.take j).flatMap (one2 us)).length < us.length + ts.length := by
            have h := one2_le us (ts.take j)
            have h1 := one1_le ts us
            rw [List.length_take] at h
            rw [List.length_append]
            omega
          have HJ5 := Lib.hid J5
          clear J5
          cases fb with
          | false =>
            have HP := Lib.hid (show (ts.take (j + 1)).flatMap (one2 us) = (ts.take j).flatMap (one2 us) ++ [ux] by rw [HN.out, HO.out, if_pos rfl])
            clear HN HO
            obtain ⟨fy, ty, ay, cy, hy, hR⟩ := hY _ ux w5 HJ5.out hlen
            try dsimp only at hy
            gi_wp2_with fail
            refine ⟨fun _ => by omega, hR.mono ?_⟩
            rintro e W3 (⟨rfl, hJ3, hk3⟩ | ⟨rfl, hJx3⟩)
            · gi_wp2
              go_roundw
              case rel => exact ⟨j + 1, by omega, by go_num, Lib.hid (by rw [HP.out, ← List.append_assoc]; exact hJ3), Lib.hid (B5.trans hk3)⟩
              case measure => simp [intOf]; omega
            · gi_wp2
              refine bodyPost_ret (results_none rfl _ _ _) rfl ?_
              exact ⟨⟨_, rfl⟩, .inr ⟨_, trivial, hJx3⟩⟩
          | true =>
            have HP := Lib.hid (show (ts.take (j + 1)).flatMap (one2 us) = (ts.take j).flatMap (one2 us) by rw [HN.out, HO.out, if_neg (by decide), List.append_nil])
            clear HN HO
            gi_wp2
            refine ⟨(fun f e => by cases e), ?_⟩
            gi_wp2
            go_roundw
            case rel => exact ⟨j + 1, by omega, by go_num, Lib.hid (by rw [HP.out]; exact HJ5.out), Lib.hid B5⟩
            case measure => simp [intOf]; omega
        · obtain rfl : j = ts.length := by omega
          clear hlt hj
          gi_wp2
          refine bodyPost_end (results_none rfl _ _ _) rfl ?_
          have h := HJ.out
          rw [List.take_length] at h
          exact ⟨⟨_, rfl⟩, .inl ⟨_, rfl, h⟩⟩
end Above
end Go.Proofs.YtbgjoefpnjgdkaaDoor
