/- key.sums: the sums that bytes have. -/
import Derived.Test.YtbgjoefpnjgdkaaDoorKKSign
import Derived.Lib.LazyBuf
import Derived.Lib.SlBuf
namespace Go.Proofs.YtbgjoefpnjgdkaaDoor
open Go.RowKit
set_option linter.unusedVariables false
set_option linter.unusedSimpArgs false
set_option maxRecDepth 100000
namespace Key
open Sha Tree Go.Proofs.YtbgjoefpnjgdkaaDoor.One
theorem run_copy_head (w : World) (ty : TypeId) (b cap : Nat) (cs : List Value) (hb : Blk w b cs) (hcs : cs.length = 32) (x r : List UInt8) (hx : x.length = 32) :
    (Builtin.copy_ #[96, 9] ty #[.slice (some ⟨b, 0, none⟩) 32 cap, .string ⟨(x ++ r).toArray⟩]).run Tryd.prog w = .ok (.int .i64 32) (w.setCells b 0 (bytesV x)) := by
  have hsz : (ByteArray.mk (x ++ r).toArray).size = 32 + r.length := by simp [ByteArray.size, hx]
  have hmin : Nat.min (32 + r.length) 32 = 32 := Nat.min_eq_right (by omega)
  have hbl : (bytesV x).length = 32 := by rw [bytesV_length, hx]
  have hst := run_storeCells_cells (P := Tryd.prog) b 0 (bytesV x) 0 w (by rw [hbl]; intro j hj; have := (hb.there j (by omega)).1; simpa using this) (by rw [hbl]; intro j hj; have := (hb.there j (by omega)).2; simpa using this) (bytesV_cell x)
  have hcv : ((((ByteArray.mk (x ++ r).toArray).data.toList.map fun b => Value.int .u8 (b.toNat : Int))).take 32) = bytesV x := by
    rw [← List.map_take]
    simp [bytesV, hx]
  generalize ByteArray.mk (x ++ r).toArray = t at *
  simp [Builtin.copy_, run_underlying Tryd.underlying96, Builtin.lenOf, Builtin.firstCells, size_u8, hsz, hmin, hcv]
  simp only [Nat.add_zero] at hst
  rw [hst]; rfl

set_option maxHeartbeats 4000000 in
theorem sums_any (PL : List (List UInt8)) (he : ∀ l ∈ PL, l.length = 32) (hk : PL.length ≤ 3) (w : World) :
    Calls Tryd.prog 109 #[.string ⟨PL.flatten.toArray⟩] w fun e w' => ∃ v, e = .returned v ∧ OwnH w.heap.size w' v PL ∧ (PL = [] → v = .slice none 0 0) ∧ Below w.heap.size w w' := by
  obtain ⟨i0, hin, hz0, hz1, hz2⟩ := info_parts info_hash
  have HE := Lib.hid he
  have HK := Lib.hid hk
  obtain ⟨t0, ht0⟩ : ∃ t0 : ByteArray, t0 = ⟨PL.flatten.toArray⟩ := ⟨_, rfl⟩
  rw [← ht0]
  have HT0 := Lib.hid ht0
  clear he hk ht0
  go_enter Tryd.func109, Tryd.ntmps109
  go_wp2_with fail
  go_loopw [0, 3] (fun s v wr => ∃ (j : Nat) (t : ByteArray), j ≤ PL.length ∧ s = .string t ∧ Hid (t = ⟨((PL.drop j).flatten).toArray⟩) ∧ Hid (OwnH w.heap.size wr v (PL.take j)) ∧ Hid (j = 0 → v = .slice none 0 0) ∧ Hid (Below w.heap.size w wr)) (fun s _ _ => match s with | .string t => t.size | _ => 0)
  case atStart => exact ⟨0, t0, by omega, rfl, by rw [List.drop_zero]; exact HT0, Lib.hid (OwnH.nil _ _), Lib.hid (fun _ => rfl), Lib.hid (Below.refl _ _)⟩
  case round =>
    obtain ⟨j, t, hj, rfl, HTT, HO, HN, HB⟩ := hrel
    obtain ⟨v, hv⟩ : ∃ v, v = u3 := ⟨_, rfl⟩
    subst hv
    have hk3 := HK.out
    by_cases hlt : j < PL.length
    · have hdr : PL.drop j = PL[j] :: PL.drop (j + 1) := List.drop_eq_getElem_cons hlt
      have hx32 := HE.out _ (List.getElem_mem hlt)
      have HTK : Hid (PL.take (j + 1) = PL.take j ++ [PL[j]]) := Lib.hid (List.take_succ_eq_append_getElem hlt)
      have hpl : (PL.take j).length = j := by rw [List.length_take]; omega
      rw [hdr, List.flatten_cons] at HTT
      clear hdr
      have hrl : ((PL.drop (j + 1)).flatten).length ≤ 96 := by
        rw [flat_len _ (fun l h => HE.out l (List.mem_of_mem_drop h)), List.length_drop]
        omega
      generalize PL[j] = x at *
      obtain ⟨r, hr⟩ : ∃ r, r = (PL.drop (j + 1)).flatten := ⟨_, rfl⟩
      have HRR := Lib.hid hr
      rw [← hr] at HTT hrl
      clear hr
      have hsz : t.size = 32 + r.length := by rw [HTT.out]; simp [ByteArray.size, hx32]
      have hext : t.extract 32 (32 + r.length) = ⟨r.toArray⟩ := by
        rw [HTT.out]
        apply ByteArray.ext
        simp [ByteArray.data_extract, hx32]
      have hbl : (bytesV x).length = 32 := by rw [bytesV_length, hx32]
      have hws := HB.out.size
      have b1 := Blk.made wr (bytesV (List.replicate 32 0)) 30
      have b2 := Blk.tail (a := []) (b := bytesV (List.replicate 32 0)) b1 (bytesV x) (by rw [hbl]; rfl)
      have HCP : Hid (∀ ty, (Builtin.copy_ #[96, 9] ty #[.slice (some ⟨wr.heap.size, 0, none⟩) 32 32, .string t]).run Tryd.prog (wr.alloc (.cells (bytesV (List.replicate 32 0)).toArray 30)) = .ok (.int .i64 32) ((wr.alloc (.cells (bytesV (List.replicate 32 0)).toArray 30)).setCells wr.heap.size 0 (bytesV x))) := by
        rw [HTT.out]
        exact Lib.hid (fun ty => run_copy_head _ ty _ 32 _ b1 rfl x r hx32)
      have B2 := Sha.below_setCells (b := wr.heap.size) hws (bytesV x) 0 _ (HB.out.alloc hws (.cells (bytesV (List.replicate 32 0)).toArray 30))
      have o2 : OwnH w.heap.size ((wr.alloc (.cells (bytesV (List.replicate 32 0)).toArray 30)).setCells wr.heap.size 0 (bytesV x)) v (PL.take j) :=
        Top.ownH_low HO.out (Sha.below_setCells (b := wr.heap.size) (Nat.le_refl _) (bytesV x) 0 _ ((Below.refl _ wr).alloc (Nat.le_refl _) _))
      have hs2 : ((wr.alloc (.cells (bytesV (List.replicate 32 0)).toArray 30)).setCells wr.heap.size 0 (bytesV x)).heap.size = wr.heap.size + 1 := by rw [Tree.size_sets]; simp
      have HX2 := Lib.hid b2.at_
      change Hid (((wr.alloc (.cells #[.int .u8 0, .int .u8 0, .int .u8 0, .int .u8 0, .int .u8 0, .int .u8 0, .int .u8 0, .int .u8 0, .int .u8 0, .int .u8 0, .int .u8 0, .int .u8 0, .int .u8 0, .int .u8 0, .int .u8 0, .int .u8 0, .int .u8 0, .int .u8 0, .int .u8 0, .int .u8 0, .int .u8 0, .int .u8 0, .int .u8 0, .int .u8 0, .int .u8 0, .int .u8 0, .int .u8 0, .int .u8 0, .int .u8 0, .int .u8 0, .int .u8 0, .int .u8 0] 30)).setCells wr.heap.size 0 (bytesV x)).rangeAt wr.heap.size 0 (bytesV x)) at HX2
      change Hid (∀ ty, (Builtin.copy_ #[96, 9] ty #[.slice (some ⟨wr.heap.size, 0, none⟩) 32 32, .string t]).run Tryd.prog (wr.alloc (.cells #[.int .u8 0, .int .u8 0, .int .u8 0, .int .u8 0, .int .u8 0, .int .u8 0, .int .u8 0, .int .u8 0, .int .u8 0, .int .u8 0, .int .u8 0, .int .u8 0, .int .u8 0, .int .u8 0, .int .u8 0, .int .u8 0, .int .u8 0, .int .u8 0, .int .u8 0, .int .u8 0, .int .u8 0, .int .u8 0, .int .u8 0, .int .u8 0, .int .u8 0, .int .u8 0, .int .u8 0, .int .u8 0, .int .u8 0, .int .u8 0, .int .u8 0, .int .u8 0] 30)) = .ok (.int .i64 32) ((wr.alloc (.cells #[.int .u8 0, .int .u8 0, .int .u8 0, .int .u8 0, .int .u8 0, .int .u8 0, .int .u8 0, .int .u8 0, .int .u8 0, .int .u8 0, .int .u8 0, .int .u8 0, .int .u8 0, .int .u8 0, .int .u8 0, .int .u8 0, .int .u8 0, .int .u8 0, .int .u8 0, .int .u8 0, .int .u8 0, .int .u8 0, .int .u8 0, .int .u8 0, .int .u8 0, .int .u8 0, .int .u8 0, .int .u8 0, .int .u8 0, .int .u8 0, .int .u8 0, .int .u8 0] 30)).setCells wr.heap.size 0 (bytesV x))) at HCP
      change Below w.heap.size w ((wr.alloc (.cells #[.int .u8 0, .int .u8 0, .int .u8 0, .int .u8 0, .int .u8 0, .int .u8 0, .int .u8 0, .int .u8 0, .int .u8 0, .int .u8 0, .int .u8 0, .int .u8 0, .int .u8 0, .int .u8 0, .int .u8 0, .int .u8 0, .int .u8 0, .int .u8 0, .int .u8 0, .int .u8 0, .int .u8 0, .int .u8 0, .int .u8 0, .int .u8 0, .int .u8 0, .int .u8 0, .int .u8 0, .int .u8 0, .int .u8 0, .int .u8 0, .int .u8 0, .int .u8 0] 30)).setCells wr.heap.size 0 (bytesV x)) at B2
      change OwnH w.heap.size ((wr.alloc (.cells #[.int .u8 0, .int .u8 0, .int .u8 0, .int .u8 0, .int .u8 0, .int .u8 0, .int .u8 0, .int .u8 0, .int .u8 0, .int .u8 0, .int .u8 0, .int .u8 0, .int .u8 0, .int .u8 0, .int .u8 0, .int .u8 0, .int .u8 0, .int .u8 0, .int .u8 0, .int .u8 0, .int .u8 0, .int .u8 0, .int .u8 0, .int .u8 0, .int .u8 0, .int .u8 0, .int .u8 0, .int .u8 0, .int .u8 0, .int .u8 0, .int .u8 0, .int .u8 0] 30)).setCells wr.heap.size 0 (bytesV x)) v (PL.take j) at o2
      change ((wr.alloc (.cells #[.int .u8 0, .int .u8 0, .int .u8 0, .int .u8 0, .int .u8 0, .int .u8 0, .int .u8 0, .int .u8 0, .int .u8 0, .int .u8 0, .int .u8 0, .int .u8 0, .int .u8 0, .int .u8 0, .int .u8 0, .int .u8 0, .int .u8 0, .int .u8 0, .int .u8 0, .int .u8 0, .int .u8 0, .int .u8 0, .int .u8 0, .int .u8 0, .int .u8 0, .int .u8 0, .int .u8 0, .int .u8 0, .int .u8 0, .int .u8 0, .int .u8 0, .int .u8 0] 30)).setCells wr.heap.size 0 (bytesV x)).heap.size = wr.heap.size + 1 at hs2
      have HIR : Hid ((Tryd.prog.info? 30).map (·.size) = some (bytesV x).length) := by rw [hbl]; exact Lib.hid (by kernel_rfl)
      clear b1 b2
      have hOA : (((wr.alloc (.cells #[.int .u8 0, .int .u8 0, .int .u8 0, .int .u8 0, .int .u8 0, .int .u8 0, .int .u8 0, .int .u8 0, .int .u8 0, .int .u8 0, .int .u8 0, .int .u8 0, .int .u8 0, .int .u8 0, .int .u8 0, .int .u8 0, .int .u8 0, .int .u8 0, .int .u8 0, .int .u8 0, .int .u8 0, .int .u8 0, .int .u8 0, .int .u8 0, .int .u8 0, .int .u8 0, .int .u8 0, .int .u8 0, .int .u8 0, .int .u8 0, .int .u8 0, .int .u8 0] 30)).setCells wr.heap.size 0 (bytesV x)).alloc (.cells (bytesV x).toArray 30)).ownsRow w.heap.size 30 32 v j ((PL.take j).flatMap bytesV) := by
        have h := o2
        rw [OwnH, hpl] at h
        exact h.alloc _
      have hnb : (((wr.alloc (.cells #[.int .u8 0, .int .u8 0, .int .u8 0, .int .u8 0, .int .u8 0, .int .u8 0, .int .u8 0, .int .u8 0, .int .u8 0, .int .u8 0, .int .u8 0, .int .u8 0, .int .u8 0, .int .u8 0, .int .u8 0, .int .u8 0, .int .u8 0, .int .u8 0, .int .u8 0, .int .u8 0, .int .u8 0, .int .u8 0, .int .u8 0, .int .u8 0, .int .u8 0, .int .u8 0, .int .u8 0, .int .u8 0, .int .u8 0, .int .u8 0, .int .u8 0, .int .u8 0] 30)).setCells wr.heap.size 0 (bytesV x)).alloc (.cells (bytesV x).toArray 30)).heap[((wr.alloc (.cells #[.int .u8 0, .int .u8 0, .int .u8 0, .int .u8 0, .int .u8 0, .int .u8 0, .int .u8 0, .int .u8 0, .int .u8 0, .int .u8 0, .int .u8 0, .int .u8 0, .int .u8 0, .int .u8 0, .int .u8 0, .int .u8 0, .int .u8 0, .int .u8 0, .int .u8 0, .int .u8 0, .int .u8 0, .int .u8 0, .int .u8 0, .int .u8 0, .int .u8 0, .int .u8 0, .int .u8 0, .int .u8 0, .int .u8 0, .int .u8 0, .int .u8 0, .int .u8 0] 30)).setCells wr.heap.size 0 (bytesV x)).heap.size]? = some (.cells (bytesV x).toArray 30) := World.alloc_heap_new _ _
      rw [hs2] at hnb
      have HNB := Lib.hid (World.news_of_block hnb)
      have B3 := B2.alloc (by rw [hs2]; omega) (.cells (bytesV x).toArray 30)
      have hs3 : (((wr.alloc (.cells #[.int .u8 0, .int .u8 0, .int .u8 0, .int .u8 0, .int .u8 0, .int .u8 0, .int .u8 0, .int .u8 0, .int .u8 0, .int .u8 0, .int .u8 0, .int .u8 0, .int .u8 0, .int .u8 0, .int .u8 0, .int .u8 0, .int .u8 0, .int .u8 0, .int .u8 0, .int .u8 0, .int .u8 0, .int .u8 0, .int .u8 0, .int .u8 0, .int .u8 0, .int .u8 0, .int .u8 0, .int .u8 0, .int .u8 0, .int .u8 0, .int .u8 0, .int .u8 0] 30)).setCells wr.heap.size 0 (bytesV x)).alloc (.cells (bytesV x).toArray 30)).heap.size = wr.heap.size + 2 := by rw [World.size_alloc, hs2]
      have hfold : (bytesV x).zipIdx.foldl (fun cs x => cs.setIfInBounds x.snd x.fst) #[.int .u8 0, .int .u8 0, .int .u8 0, .int .u8 0, .int .u8 0, .int .u8 0, .int .u8 0, .int .u8 0, .int .u8 0, .int .u8 0, .int .u8 0, .int .u8 0, .int .u8 0, .int .u8 0, .int .u8 0, .int .u8 0, .int .u8 0, .int .u8 0, .int .u8 0, .int .u8 0, .int .u8 0, .int .u8 0, .int .u8 0, .int .u8 0, .int .u8 0, .int .u8 0, .int .u8 0, .int .u8 0, .int .u8 0, .int .u8 0, .int .u8 0, .int .u8 0] = (bytesV x).toArray := Tree.fold_all _ _ (by rw [bytesV_length, hx32]; rfl)
      have HOA := Lib.hid hOA
      have HB3 := Lib.hid B3
      have HS3 := Lib.hid hs3
      clear o2 B2 hOA hnb B3 hs3
      go_wp2_with (first | (refine Lib.wpList_copy_run (o := ⟨some 11, _, _, _, _, _⟩) _ rfl (.tmp 9) (.tmp 10) 96 9 rfl _ _ rfl rfl (HCP.out _) ?_) | (with_reducible refine wpList_load_mid rfl 30 _ rfl wr.heap.size 0 rfl (bytesV x) _ HX2.out Tryd.underlying30 rfl HIR.out ?_) | (at_builtin; go_must (refine wpList_append_own _ rfl _ _ _ rfl w.heap.size 30 i0 (.agg (Array.replicate 32 (.int .u8 0))) 32 32 Tryd.underlying33 hin hz0 hz1 hz2 (by simp [Value.cells]) (by decide) _ j _ rfl HOA.out ⟨wr.heap.size + 1, 0, none⟩ 1 1 (bytesV x) rfl (by rw [hbl]) HNB.out (bytesV_cell x) (by unfold maxLen; omega) (by omega) (by rw [HS3.out]; omega) ?_; intro v' w3 hown' hgrow _)))
      have B4 := HB3.out.grown hgrow (by rw [HS3.out]; omega) (fun k e => (World.ownsRow.lt HOA.out k e).1)
      have o4 : OwnH w.heap.size w3 v' (PL.take (j + 1)) := by
        rw [HTK.out, OwnH, List.length_append, hpl, List.flatMap_append, List.flatMap_singleton]
        exact hown'
      have hrz : (ByteArray.mk r.toArray).size < t.size := by rw [hsz]; simp [ByteArray.size]
      exact ⟨⟨j + 1, ⟨r.toArray⟩, by omega, rfl, by rw [HRR.out]; exact Lib.hid rfl, Lib.hid o4, Lib.hid (fun h => by omega), Lib.hid B4⟩, hrz⟩
    · obtain rfl : j = PL.length := by omega
      rw [List.drop_length] at HTT
      rw [List.take_length] at HO
      have hsz : t.size = 0 := by rw [HTT.out]; rfl
      clear hlt hj
      go_wp2_with fail
      go_ret
      exact ⟨_, rfl, HO.out, fun h => HN.out (by rw [h]; rfl), HB.out⟩
end Key
end Go.Proofs.YtbgjoefpnjgdkaaDoor
