/- Joined of 2 texts: their lemmas, one behind the other; each says below what it holds. -/
import Derived.Test.YtbgjoefpnjgdkaaDoorKKeyParts
import Derived.Test.YtbgjoefpnjgdkaaDoorJ08
/- key: a place's seed. -/
namespace Go.Proofs.YtbgjoefpnjgdkaaDoor
open Go.RowKit
set_option linter.unusedVariables false
set_option linter.unusedSimpArgs false
set_option maxRecDepth 100000
namespace Key
open Sha Oct
/-- a place's seed -/
def seedL (X kk : Nat → Int) (s : List UInt8) (i : Nat) : List UInt8 := midL X kk (5 :: UInt8.ofNat i :: s)

set_option maxHeartbeats 1000000 in
theorem seed_any (X kk : Nat → Int) (s : List UInt8) (high next : Int) (i : Nat) (hi : i ≤ 8) (hs : s.length ≤ 64) (w : World) (hT : Tabs w X kk) :
    Calls Tryd.prog 100 #[keyV s high next, .int .i64 (i : Int)] w fun e w' => e = .returned (.string ⟨(seedL X kk s i).toArray⟩) ∧ Below w.heap.size w w' := by
  unfold keyV
  have hb := (Below.refl w.heap.size w).alloc (Nat.le_refl _) (.cells #[.string ⟨s.toArray⟩, .int .i64 high, .int .i64 next] 43)
  have hs1 : (w.alloc (.cells #[.string ⟨s.toArray⟩, .int .i64 high, .int .i64 next] 43)).heap.size = w.heap.size + 1 := by simp
  have hc := conv_one (w.alloc (.cells #[.string ⟨s.toArray⟩, .int .i64 high, .int .i64 next] 43)) (i : Int) (UInt8.ofNat i) (by rw [UInt8.toNat_ofNat']; omega)
  rw [hs1] at hc
  have hb2 := hb.alloc (by omega) (.cells #[.int .u8 (i : Int)] 5)
  have HM := Lib.hid (mid_any ⟨(5 :: UInt8.ofNat i :: s).toArray⟩ X kk _ (hT.below rfl hb2))
  have HB := Lib.hid hb2
  clear hb hb2 hT
  have hi2 : (i : Int) ≤ 8 := by omega
  have happ : (ByteArray.mk #[5]) ++ (ByteArray.mk #[UInt8.ofNat i]) ++ (ByteArray.mk s.toArray) = ⟨(5 :: UInt8.ofNat i :: s).toArray⟩ := ByteArray.ext (by simp)
  have hz1 : (ByteArray.mk s.toArray).size = s.length := by simp [ByteArray.size]
  have hz2 : ((ByteArray.mk #[5]) ++ (ByteArray.mk #[UInt8.ofNat i])).size = 2 := by simp [ByteArray.size]
  have hs' : (s.length : Int) ≤ 64 := by omega
  have hml : 2 + s.length ≤ maxLen := by unfold maxLen; omega
  have HML : Hid (2 + s.length ≤ maxLen) := Lib.hid hml
  have hd : decide (2 + s.length ≤ maxLen) = true := decide_eq_true hml
  go_enter Tryd.func100, Tryd.ntmps100
  go_wp2_with fail
  refine HM.out.mono ?_
  rintro e w2 ⟨rfl, hb3⟩
  have hB := HB.out.trans (hb3.mono HB.out.size)
  go_wp2_with fail
  go_ret
  exact ⟨rfl, hB⟩
end Key
end Go.Proofs.YtbgjoefpnjgdkaaDoor
/- book.right: whether a grant is right. -/
namespace Go.Proofs.YtbgjoefpnjgdkaaDoor
open Go.RowKit
set_option linter.unusedVariables false
set_option linter.unusedSimpArgs false
set_option maxRecDepth 100000
namespace Book
/-- a grant -/
def grantV (sv fr to hi : Int) (root : Array Value) : Value := .agg (#[.int .i64 sv, .int .i64 fr, .int .i64 to, .int .i64 hi] ++ root)
def rightP (sv fr to hi : Int) : Prop := 0 ≤ sv ∧ sv ≤ 63 ∧ 0 ≤ hi ∧ hi ≤ 7 ∧ 0 ≤ fr ∧ fr ≤ to ∧ to ≤ 1099511627776
instance (sv fr to hi : Int) : Decidable (rightP sv fr to hi) := by unfold rightP; infer_instance

set_option maxHeartbeats 1000000 in
theorem right_any (sv fr to hi : Int) (root : Array Value) (hr : root.size = 32) (w : World) : Calls Tryd.prog 55 #[grantV sv fr to hi root] w fun e w' => e = .returned (.bool (decide (rightP sv fr to hi))) ∧ Below w.heap.size w w' := by
  unfold grantV
  have hb := (Below.refl w.heap.size w).alloc (Nat.le_refl _) (.cells (#[.int .i64 sv, .int .i64 fr, .int .i64 to, .int .i64 hi] ++ root) 51)
  have hq := World.alloc_heap_new w (.cells (#[.int .i64 sv, .int .i64 fr, .int .i64 to, .int .i64 hi] ++ root) 51)
  go_enter Tryd.func55, Tryd.ntmps55
  go_wp2_with fail
  all_goals go_ret
  all_goals refine ⟨congrArg (fun b => Ending.returned (Value.bool b)) ?_, hb⟩
  all_goals refine Bool.eq_iff_iff.2 ⟨fun hh => ?_, fun hh => ?_⟩
  all_goals try (replace hh := of_decide_eq_true hh)
  all_goals try (refine decide_eq_true ?_)
  all_goals try (simp only [Bool.false_eq_true] at hh)
  all_goals unfold rightP at *
  all_goals try (simp only [Bool.false_eq_true])
  all_goals omega
end Book
end Go.Proofs.YtbgjoefpnjgdkaaDoor
