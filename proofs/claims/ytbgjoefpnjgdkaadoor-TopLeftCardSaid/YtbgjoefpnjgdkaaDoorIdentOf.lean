/- ident.of, User, Room. -/
import Derived.Test.YtbgjoefpnjgdkaaDoorIdentParse
namespace Go.Proofs.YtbgjoefpnjgdkaaDoor
open Go.RowKit
set_option linter.unusedVariables false
set_option linter.unusedSimpArgs false
set_option maxRecDepth 100000
namespace Named
theorem of_in (t nm : List UInt8) (k k' sv er : Nat) (w : World)
    (HC : Hid (Calls Tryd.prog 25 #[.string ⟨t.toArray⟩] w fun e w' => e = .returned (.tuple #[identV k' nm (sv : Int), .int .i64 (er : Int)]) ∧ Below w.heap.size w w'))
    (res : Value) (HR : Hid ((if er = 0 ∧ k' = k then Value.tuple #[.int .i64 (sv : Int), .bool true] else .tuple #[.int .i64 0, .bool false]) = res)) :
    Calls Tryd.prog 72 #[.string ⟨t.toArray⟩, .int .u8 (k : Int)] w fun e w' => e = .returned res ∧ Below w.heap.size w w' := by
  unfold identV at *
  go_enter Tryd.func72, Tryd.ntmps72
  go_wp2_with fail
  refine HC.out.mono ?_
  rintro e w1 ⟨rfl, hb⟩
  clear HC
  have A1 := Blk.new w1 #[.int .u8 (k' : Int), .string ⟨nm.toArray⟩, .int .i64 (sv : Int)] 62
  have B1 := hb.alloc hb.size (.cells #[.int .u8 (k' : Int), .string ⟨nm.toArray⟩, .int .i64 (sv : Int)] 62)
  by_cases her : er = 0
  · subst her
    by_cases hkk : k' = k
    · subst hkk
      go_wp2_with fail
      go_ret2
      exact ⟨by rw [← HR.out, if_pos (by simp)]; rfl, B1⟩
    · have HK := Lib.hid hkk
      have hk1 : ¬ ((k' : Int) = (k : Int)) := by omega
      have hk2 : ((k' : Int) == (k : Int)) = false := by simpa using hk1
      clear hkk
      go_wp2_with fail
      go_ret2
      exact ⟨by rw [← HR.out, if_neg (fun h => HK.out h.2)]; rfl, B1⟩
  · have HE := Lib.hid her
    have he1 : ¬ ((er : Int) = 0) := by omega
    have he2 : ((er : Int) == 0) = false := by simpa using he1
    clear her
    go_wp2_with fail
    go_ret2
    exact ⟨by rw [← HR.out, if_neg (fun h => HE.out h.1)]; rfl, B1⟩

theorem of_any (t : List UInt8) (k : Nat) (ht : t.length ≤ 281474976710656) (w : World) (hV : Vars w) :
    Calls Tryd.prog 72 #[.string ⟨t.toArray⟩, .int .u8 (k : Int)] w fun e w' => e = .returned (.tuple #[.int .i64 ((ofI t k).1 : Int), .bool (ofI t k).2]) ∧ Below w.heap.size w w' := by
  refine of_in t _ k _ _ _ w (Lib.hid (parse_any t ht w hV)) _ (Lib.hid ?_)
  rw [ofI]
  split <;> rfl

theorem user_any (t : List UInt8) (ht : t.length ≤ 281474976710656) (w : World) (hV : Vars w) :
    Calls Tryd.prog 27 #[.string ⟨t.toArray⟩] w fun e w' => e = .returned (.tuple #[.int .i64 ((ofI t 1).1 : Int), .bool (ofI t 1).2]) ∧ Below w.heap.size w w' := by
  have HC := Lib.hid (of_any t 1 ht w hV)
  clear ht hV
  generalize ofI t 1 = o at *
  go_enter Tryd.func27, Tryd.ntmps27
  go_wp2_with fail
  refine HC.out.mono ?_
  rintro e w1 ⟨rfl, hb⟩
  go_wp2_with fail
  go_ret2
  exact ⟨rfl, hb⟩

theorem room_any (t : List UInt8) (ht : t.length ≤ 281474976710656) (w : World) (hV : Vars w) :
    Calls Tryd.prog 64 #[.string ⟨t.toArray⟩] w fun e w' => e = .returned (.tuple #[.int .i64 ((ofI t 2).1 : Int), .bool (ofI t 2).2]) ∧ Below w.heap.size w w' := by
  have HC := Lib.hid (of_any t 2 ht w hV)
  clear ht hV
  generalize ofI t 2 = o at *
  go_enter Tryd.func64, Tryd.ntmps64
  go_wp2_with fail
  refine HC.out.mono ?_
  rintro e w1 ⟨rfl, hb⟩
  go_wp2_with fail
  go_ret2
  exact ⟨rfl, hb⟩
end Named
end Go.Proofs.YtbgjoefpnjgdkaaDoor
