/- The walk of the law DiskKept, by the contracts of what it calls. -/
import Derived.Test.YtjfibmlpjcncmaaDiskFailsWalk
import Derived.Lib.Strings
import Derived.BigQuiet
namespace Go.Proofs.Ytjfibmlpjcncmaa
open Go.RowKit
set_option linter.unusedVariables false
namespace Disk

/-- a call that the law is handed -/
structure ActD where
  kind : Int
  text : ByteArray
  n : Int
  bits : UInt8

/-- the calls lie in a block that came in -/
structure Acts (w : World) (b off : Nat) (L : List ActD) : Prop where
  lt : L ≠ [] → b < w.heap.size
  c0 : ∀ (i : Nat) (a : ActD), L[i]? = some a → w.cell? ⟨b, off + i * 4, none⟩ = some (.int .i64 a.kind)
  c1 : ∀ (i : Nat) (a : ActD), L[i]? = some a → w.cell? ⟨b, off + i * 4 + 1, none⟩ = some (.string a.text)
  c2 : ∀ (i : Nat) (a : ActD), L[i]? = some a → w.cell? ⟨b, off + i * 4 + 2, none⟩ = some (.int .i64 a.n)
  c3 : ∀ (i : Nat) (a : ActD), L[i]? = some a → w.cell? ⟨b, off + i * 4 + 3, none⟩ = some (.int .u8 (a.bits.toNat : Int))

theorem One.far {n m : Nat} {w : World} {a b c : Value} (h : One n w a b c) (hne : m ≠ n) (i : Nat) (u : Value) : One n (w.setCell ⟨m, i, none⟩ u) a b c := by
  have k : ∀ j, (w.setCell ⟨m, i, none⟩ u).cell? ⟨n, j, none⟩ = w.cell? ⟨n, j, none⟩ := fun j => World.cell?_setCell_other _ _ _ _ (by intro e; injection e with e1; exact hne e1)
  exact ⟨by simpa [World.setCell] using h.size, (k 0).trans h.a0, (k 1).trans h.a1, (k 2).trans h.a2, by rw [World.frozen?_setCell]; exact h.f0, by rw [World.frozen?_setCell]; exact h.f1, by rw [World.frozen?_setCell]; exact h.f2⟩

theorem One.drewN {n : Nat} {w : World} {a b c : Value} (h : One n w a b c) (k : Nat) : One n (w.drewN k) a b c := ⟨h.size, h.a0, h.a1, h.a2, h.f0, h.f1, h.f2⟩

/-- behind a call of a round: the disk's block, the new disk's, and the call's text -/
theorem after {wr w4 : World} {n5 : Nat} {a b c d e f k0 k1 k2 k3 : Value} {t4 t3 : TypeId} (T : One n5 wr a b c)
    (hb : Below ((wr.alloc (.cells #[k0, k1, k2, k3] t4)).alloc (.cells #[d, e, f] t3)).heap.size ((wr.alloc (.cells #[k0, k1, k2, k3] t4)).alloc (.cells #[d, e, f] t3)) w4) :
    One n5 w4 a b c ∧ One (wr.heap.size + 1) w4 d e f ∧ w4.cell? ⟨wr.heap.size, 1, none⟩ = some k1 ∧ Below wr.heap.size wr w4 ∧ wr.heap.size + 1 < w4.heap.size := by
  have h1 : Below wr.heap.size wr ((wr.alloc (.cells #[k0, k1, k2, k3] t4)).alloc (.cells #[d, e, f] t3)) := (((Below.refl _ _).alloc (Nat.le_refl _) _).alloc (by simp) _)
  have h2 : Below wr.heap.size wr w4 := h1.trans (hb.mono (by simp; omega))
  have h3 := (One.made (wr.alloc (.cells #[k0, k1, k2, k3] t4)) d e f t3).below (by simp) hb
  rw [World.size_alloc] at h3
  refine ⟨T.below T.size h2, h3, ?_, h2, h3.size⟩
  rw [hb.cell (p := ⟨wr.heap.size, 1, none⟩) (by simp; omega), World.cell?_alloc_lt _ _ _ (by simp)]
  exact World.cell?_alloc_mark wr #[k0, k1, k2, k3] t4 (0, 0) 1

/-- what holds at each round's head: the disk's cells, what is kept, and all -/
structure Kept (room : Int) (n5 : Nat) (w wr : World) (k a : Value) (A K : ByteArray) : Prop where
  one : One n5 wr (.string A) (.int .i64 (K.size : Int)) (.int .i64 room)
  all : a = .string A
  kept : k = .string K
  le : K.size ≤ A.size
  pre : ((A.extract 0 K.size).toList == K.toList) = true
  fits : (A.size : Int) ≤ room
  low : Below w.heap.size w wr
  new : w.heap.size ≤ n5

theorem pre_append (A K t : ByteArray) (hle : K.size ≤ A.size) (h : ((A.extract 0 K.size).toList == K.toList) = true) : (((A ++ t).extract 0 K.size).toList == K.toList) = true := by
  rw [beq_iff_eq, Lib.extract_toList] at h ⊢
  rw [← h]
  simp [ByteArray.data_append]
  rw [List.take_append_of_le_length (by simpa using hle)]

theorem pre_all (A : ByteArray) : ((A.extract 0 A.size).toList == A.toList) = true := by
  rw [beq_iff_eq, Lib.extract_toList, ByteArray.toList_eq, List.drop_zero, Nat.sub_zero]
  exact List.take_of_length_le (by simp)

theorem pre_take (A : ByteArray) (p : Nat) (h : p ≤ A.size) (F : ByteArray) (hF : F.data.toList = A.data.toList.take p) : F.size = p := by
  have : F.size = F.data.toList.length := by simp
  rw [this, hF]; simp; omega
theorem size_last (A : ByteArray) (q : Nat) (b : UInt8) (h : q ≤ A.size) (F : ByteArray) (hF : F.data.toList = lastXor (A.data.toList.take q) b) : F.size = q := by
  have : F.size = F.data.toList.length := by simp
  rw [this, hF, lastXor_length]; simp; omega
theorem last_head (T : ByteArray) (q : Nat) (b : UInt8) (h : q ≤ T.size) (F : ByteArray) (hF : F.data.toList = lastXor (T.data.toList.take q) b) : ((F.extract 0 (q - 1)).toList == (T.extract 0 (q - 1)).toList) = true := by
  have hl : (T.data.toList.take q).length = q := by simp; omega
  rw [beq_iff_eq, Lib.extract_toList, Lib.extract_toList, hF]
  unfold lastXor
  rw [hl]
  simp only [List.drop_zero, Nat.sub_zero]
  rw [List.take_set_of_le (by omega), List.take_take]
  congr 1
  omega

theorem fail_kept (A K : ByteArray) (room n : Int) (b : UInt8) (h : Right A (K.size : Int) room) : ∃ F : ByteArray, K.size ≤ F.size ∧ F.size ≤ A.size ∧ (K.size < F.size → ((F.extract 0 (F.size - 1)).toList == (A.extract 0 (F.size - 1)).toList) = true) ∧
    ∀ w, Calls Try.prog 42 #[.agg #[.string A, .int .i64 (K.size : Int), .int .i64 room], .int .i64 n, .int .u8 (b.toNat : Int)] w fun e w' => e = .returned (.tuple #[.agg #[.string F, .int .i64 (F.size : Int), .int .i64 room], .int .i64 0]) ∧ Below w.heap.size w w' := by
  have hst : (stays A K.size n : Int) = min (max n 0) ((A.size : Int) - K.size) := by have := h.2.1; unfold stays; omega
  have h2 := h.2.1
  by_cases hs : stays A K.size n = 0
  · have hF := pre_take A K.size (by omega) ⟨(A.data.toList.take K.size).toArray⟩ rfl
    refine ⟨⟨(A.data.toList.take K.size).toArray⟩, by omega, by omega, by intro hh; omega, fun w => ?_⟩
    refine (fail_none A K.size room n b h w (fun W => by rw [run_max_int2]; congr 2; split <;> omega) (fun W => by rw [run_min_int2]; congr 2; split <;> omega)).mono fun e w' hh => ⟨?_, hh.2⟩
    rw [hh.1, hF]
  · generalize stays A K.size n = q at *
    have hF := size_last A (K.size + q) b (by omega) ⟨(lastXor (A.data.toList.take (K.size + q)) b).toArray⟩ rfl
    refine ⟨⟨(lastXor (A.data.toList.take (K.size + q)) b).toArray⟩, by omega, by omega, ?_, fun w => ?_⟩
    · intro _
      rw [hF]
      exact last_head A (K.size + q) b (by omega) _ rfl
    · refine (fail_some A K.size q room n b h (by omega) (by omega) w (fun W => by rw [run_max_int2]; congr 2; split <;> omega) (fun W => by rw [run_min_int2]; congr 2; split <;> omega)).mono fun e w' hh => ⟨?_, hh.2⟩
      rw [hh.1, hF]
      have : ((K.size + q : Nat) : Int) = (K.size : Int) + (q : Int) := by omega
      rw [this]

end Disk
end Go.Proofs.Ytjfibmlpjcncmaa
