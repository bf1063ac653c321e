/- Bytes in memory that a call made itself: made by make, turned, read back as a string. -/
import Derived.Test.YtbgjoefpnjgdkaaDoorBase
import Derived.Laws.IdiomStrings
import Derived.Laws.BytesArg
namespace Go.Proofs.YtbgjoefpnjgdkaaDoor
open Go.RowKit
set_option linter.unusedVariables false

def zrow (n : Nat) : Array Value := madeCells (Value.int .u8 0).cells n
theorem zrow_at (n j : Nat) (h : j < n) : (zrow n)[j]? = some (.int .u8 0) := by
  simp [zrow, madeCells, Value.cells, h, Nat.mod_one]

theorem info_u8 : (Tryd.prog.info? 5).map (fun i => (i.zero, i.size, i.bytes)) = some (some (.int .u8 0), 1, 1) := by kernel_rfl

theorem make_bytes (n : Nat) (h : n ≤ 281474976710656) (W : World) : (Instr.makeSlice 96 (.int .i64 (n : Int)) (.int .i64 (n : Int))).run Tryd.prog W = .ok (.slice (some ⟨W.heap.size, 0, none⟩) n n) (W.alloc (.cells (zrow n) 5)) := by
  obtain ⟨i0, hi, hz0, hz1, hz2⟩ := info_parts info_u8
  have hr := run_make (P := Tryd.prog) W 96 5 i0 (.int .u8 0) Tryd.underlying96 hi hz0 .i64 .i64 n n (by omega) (by omega) (by rw [hz2]; omega) (by omega)
  rw [hz1, Nat.mul_one] at hr
  unfold zrow
  simpa only [Int.toNat_natCast] using hr

/-- block g begins with these bytes, and they may be written -/
def Bts (w : World) (g : Nat) (l : List UInt8) : Prop := g < w.heap.size ∧ ∀ j (hj : j < l.length), w.cell? ⟨g, j, none⟩ = some (.int .u8 (l[j].toNat : Int)) ∧ w.frozen? ⟨g, j, none⟩ = false

theorem Bts.byte {w : World} {g : Nat} {l : List UInt8} (h : Bts w g l) (j : Nat) (hj : j < l.length) : ∃ c, l[j]? = some c ∧ w.cell? ⟨g, j, none⟩ = some (.int .u8 (c.toNat : Int)) ∧ w.frozen? ⟨g, j, none⟩ = false :=
  ⟨l[j], List.getElem?_eq_getElem hj, h.2 j hj⟩
theorem Bts.drew {w : World} {g : Nat} {l : List UInt8} (h : Bts w g l) : Bts w.drew g l := h
theorem Bts.below {w w' : World} {g : Nat} {l : List UInt8} (h : Bts w g l) (hb : Below w.heap.size w w') : Bts w' g l :=
  ⟨Nat.lt_of_lt_of_le h.1 hb.size, fun j hj => ⟨(hb.cell (p := ⟨g, j, none⟩) h.1).trans (h.2 j hj).1, (hb.frozen (p := ⟨g, j, none⟩) h.1).trans (h.2 j hj).2⟩⟩
theorem Bts.alloc {w : World} {g : Nat} {l : List UInt8} (h : Bts w g l) (o : Obj) : Bts (w.alloc o) g l := h.below ((Below.refl _ _).alloc (Nat.le_refl _) o)
theorem Bts.set {w : World} {g : Nat} {l : List UInt8} (h : Bts w g l) (k : Nat) (c : UInt8) (hk : k < l.length) : Bts (w.setCell ⟨g, k, none⟩ (.int .u8 (c.toNat : Int))) g (l.set k c) := by
  refine ⟨by simpa [World.setCell] using h.1, fun j hj => ⟨?_, ?_⟩⟩
  · have hj2 : j < l.length := by rw [List.length_set] at hj; exact hj
    by_cases hjk : j = k
    · subst hjk
      rw [World.cell?_setCell_same' _ _ _ (by rw [(h.2 j hj2).1]; rfl)]
      simp
    · rw [World.cell?_setCell_other _ _ _ _ (by intro e; injection e with _ e2; exact hjk e2.symm)]
      rw [List.getElem_set_ne (by omega)]
      exact (h.2 j hj2).1
  · have hj2 : j < l.length := by rw [List.length_set] at hj; exact hj
    rw [World.frozen?_setCell]
    exact (h.2 j hj2).2
theorem Bts.conv {w : World} {g : Nat} {l : List UInt8} (h : Bts w g l) (cap : Nat) : (convert 96 9 (.slice (some ⟨g, 0, none⟩) l.length cap)).run Tryd.prog w = .ok (.string ⟨l.toArray⟩) w := by
  refine run_convert_bytes_back (P := Tryd.prog) w 96 9 5 ⟨g, 0, none⟩ cap l Tryd.underlying96 Tryd.underlying5 Tryd.underlying9 fun j hj => ?_
  have : (⟨g, 0, none⟩ : Addr).add j = ⟨g, j, none⟩ := by
    unfold Addr.add
    split
    · rename_i h0; rw [h0]
    · simp
  rw [this]
  exact (h.2 j hj).1
theorem Bts.made (w : World) (n : Nat) : Bts (w.alloc (.cells (zrow n) 5)) w.heap.size (List.replicate n 0) := by
  refine ⟨by simp, fun j hj => ⟨?_, ?_⟩⟩
  · rw [World.cell?_alloc_mark, zrow_at n j (by simpa using hj)]; simp
  · rw [World.frozen?_alloc_mark]; simp


/-- the world behind a conversion of a string to bytes, and the capacity that the tape gave -/
def bytesW (W : World) (s : ByteArray) : World := W.drew.alloc (.cells (bytesRow s (grownCap W s.size 0 5)) 5 ((bytesRow s (grownCap W s.size 0 5)).size, (bytesRow s (grownCap W s.size 0 5)).size + 1))
def bytesCap (W : World) (s : ByteArray) : Nat := grownCap W s.size 0 5

theorem bytes_conv (s : ByteArray) (W : World) : (convert 9 96 (.string s)).run Tryd.prog W = .ok (.slice (some ⟨W.heap.size, 0, none⟩) s.size (bytesCap W s)) (bytesW W s) :=
  run_bytes_of_string W 9 96 5 s Tryd.underlying9 Tryd.underlying96 Tryd.underlying5

theorem bytesW_below (W : World) (s : ByteArray) : Below W.heap.size W (bytesW W s) := ((Below.refl _ W).drew).alloc (Nat.le_refl _) _
theorem bytesW_size (W : World) (s : ByteArray) : (bytesW W s).heap.size = W.heap.size + 1 := by simp [bytesW]
theorem bytesW_bts (W : World) (s : ByteArray) : Bts (bytesW W s) W.heap.size s.data.toList := by
  refine ⟨by simp [bytesW], fun j hj => ⟨?_, ?_⟩⟩
  · have h := World.cell?_alloc_mark W.drew (bytesRow s (grownCap W s.size 0 5)) 5 ((bytesRow s (grownCap W s.size 0 5)).size, (bytesRow s (grownCap W s.size 0 5)).size + 1) j
    refine Eq.trans h ?_
    rw [bytesRow_at s _ j (by simpa using hj)]
    rfl
  · have h := World.frozen?_alloc_mark W.drew (bytesRow s (grownCap W s.size 0 5)) 5 (bytesRow s (grownCap W s.size 0 5)).size ((bytesRow s (grownCap W s.size 0 5)).size + 1) j
    refine Eq.trans h ?_
    have hs : s.data.toList.length ≤ (bytesRow s (grownCap W s.size 0 5)).size := by unfold bytesRow; simp
    simp only [Bool.and_eq_false_iff, decide_eq_false_iff_not]
    left; omega
end Go.Proofs.YtbgjoefpnjgdkaaDoor
