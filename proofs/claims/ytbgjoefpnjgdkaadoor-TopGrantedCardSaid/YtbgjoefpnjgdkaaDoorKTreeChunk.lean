/- slices.Chunk over sums, two by two: the iterator. -/
import Derived.Test.YtbgjoefpnjgdkaaDoorJ15
import Derived.Test.YtbgjoefpnjgdkaaDoorJ10
import Derived.Shelf.RegionOpen
namespace Go.Proofs.YtbgjoefpnjgdkaaDoor
open Go.RowKit Go.Shelf
set_option linter.unusedVariables false
set_option linter.unusedSimpArgs false
set_option maxRecDepth 100000
attribute [local go_sem] Oper.semAt_some
namespace Tree
set_option maxHeartbeats 1000000 in
theorem chunk_in (F : Fence) (n : Nat) (hF : F.fn 96) (hro : F.round = none) (v : Value) (hv : ∃ p m c, v = .slice p m c) (w : World) :
    CallsIn F n Tryd.prog 96 #[v, .int .i64 2] w fun e w' => e = .returned (.func (.func 135) #[] #[.pointer (some ⟨w.heap.size, 0, none⟩), .pointer (some ⟨w.heap.size + 1, 0, none⟩)]) ∧
      w' = (w.alloc (.cells #[v] 33)).alloc (.cells #[.int .i64 2] 3) := by
  obtain ⟨p, m, c, rfl⟩ := hv
  refine callsIn_of_wp Tryd.func96 rfl hF ?_ hro
  simp only [Tryd.ntmps96, List.size_toArray, List.length_cons, List.length_nil, Nat.reduceAdd, Nat.reduceSub, Array.replicate_succ, Array.replicate_zero, List.push_toArray, List.append_toArray, List.nil_append, List.cons_append]
  gi_wp2
  go_ret
  exact ⟨rfl, rfl⟩

def pairV (b o : Nat) (i : Nat) : Array Value := #[.slice (some ⟨b, o + 64 * i, none⟩) 2 2]
def KeptS (Bs Bn : Nat) (A B : World) : Prop := A.heap.size ≤ B.heap.size ∧ B.heap[Bs]? = A.heap[Bs]? ∧ B.heap[Bn]? = A.heap[Bn]?

set_option maxHeartbeats 4000000 in
theorem chunk_told (n : Nat) (hn : 3 ≤ n) (Bs Bn b o m cap : Nat) (hm : m ≤ 8) (hcap : 2 * m ≤ cap) (w : World) (hBs : Bs < w.heap.size) (hBn : Bn < w.heap.size)
    (hs : w.cell? ⟨Bs, 0, none⟩ = some (.slice (some ⟨b, o, none⟩) (2 * m) cap)) (h2 : w.cell? ⟨Bn, 0, none⟩ = some (.int .i64 2)) :
    Told Fence.wide n Tryd.prog 135 #[.pointer (some ⟨Bs, 0, none⟩), .pointer (some ⟨Bn, 0, none⟩)] (pairV b o) (KeptS Bs Bn) (fun pre x _ => x = pre.length ∧ x < m) (fun xs => xs = List.range m) w := by
  intro lp J W hW hJ hY h0
  have hs1 := (hW.cell (p := ⟨Bs, 0, none⟩) hBs).trans hs
  have hn1 := (hW.cell (p := ⟨Bn, 0, none⟩) hBn).trans h2
  have hls := Nat.lt_of_lt_of_le hBs hW.size
  have hln := Nat.lt_of_lt_of_le hBn hW.size
  clear hs h2 hBs hBn hW
  refine callsIn_of_wp Tryd.func135 rfl trivial ?_ rfl
  simp only [Tryd.ntmps135, List.size_toArray, List.length_cons, List.length_nil, Nat.reduceAdd, Nat.reduceSub, Array.replicate_succ, Array.replicate_zero, List.push_toArray, List.append_toArray, List.nil_append, List.cons_append]
  gi_wp2
  gi_loopw [4] (fun a wr => ∃ j : Nat, j ≤ m ∧ a = .int .i64 (2 * (j : Int)) ∧ Bs < wr.heap.size ∧ Bn < wr.heap.size ∧ wr.cell? ⟨Bs, 0, none⟩ = some (.slice (some ⟨b, o, none⟩) (2 * m) cap) ∧ wr.cell? ⟨Bn, 0, none⟩ = some (.int .i64 2) ∧ J (List.range j) wr)
    (fun a _ => 2 * m - (intOf a).toNat)
  case atStart =>
    exact ⟨0, by omega, rfl, hls, hln, hs1, hn1, by simpa using h0⟩
  case round =>
    obtain ⟨j, hj, rfl, hls, hln, hs1, hn1, hJ1⟩ := hrel
    by_cases hlt : j < m
    · have hji : 2 * (j : Int) < 2 * (m : Int) := by omega
      have hj0 : (0 : Int) ≤ 2 * (j : Int) := by omega
      have hmi : (m : Int) ≤ 8 := by omega
      have hmo : Tryd.prog.follows .mixedOrders = true := by kernel_rfl
      gi_wp2_with fail
      gi_region_o
      have hJ2 := hJ _ wr wr.drew none hJ1 ⟨rfl, rfl, rfl, Nat.le_refl _, fun k hk _ => rfl⟩ (fun r e => by cases e)
      have hlen : (List.range j).length = j := List.length_range
      obtain ⟨fn, tmps, assign, body, hy, hR⟩ := hY _ j wr.drew hJ2 ⟨hlen.symm, hlt⟩
      dsimp only [pairV] at hy
      rw [show o + 64 * j = o + 2 * j * 32 by omega] at hy
      gi_wp2
      refine ⟨fun _ => by omega, hR.mono ?_⟩
      rintro e W3 ⟨rfl, hJ3, hk3⟩
      have hs3 : W3.cell? ⟨Bs, 0, none⟩ = some (.slice (some ⟨b, o, none⟩) (2 * m) cap) := (World.cell?_of_block (a := ⟨Bs, 0, none⟩) (w := wr.drew) hk3.2.1).trans hs1
      have hn3 : W3.cell? ⟨Bn, 0, none⟩ = some (.int .i64 2) := (World.cell?_of_block (a := ⟨Bn, 0, none⟩) (w := wr.drew) hk3.2.2).trans hn1
      have hz3 : wr.heap.size ≤ W3.heap.size := hk3.1
      rw [← List.range_succ] at hJ3
      gi_wp2
      go_roundw
      case rel => exact ⟨j + 1, by omega, by go_num, by omega, by omega, hs3, hn3, hJ3⟩
      case measure => simp [intOf]; omega
    · obtain rfl : j = m := by omega
      clear hlt hj
      gi_wp2
      refine bodyPost_end (results_none rfl _ _ _) rfl ?_
      exact ⟨⟨_, rfl⟩, _, rfl, hJ1⟩
end Tree
end Go.Proofs.YtbgjoefpnjgdkaaDoor
