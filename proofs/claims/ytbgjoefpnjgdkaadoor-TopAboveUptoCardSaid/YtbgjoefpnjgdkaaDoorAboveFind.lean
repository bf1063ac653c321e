/- power.level, of, find, Of. -/
import Derived.Test.YtbgjoefpnjgdkaaDoorBlk
import Derived.Lib.SlBuf
namespace Go.Proofs.YtbgjoefpnjgdkaaDoor
open Go.RowKit
set_option linter.unusedVariables false
set_option linter.unusedSimpArgs false
set_option maxRecDepth 100000
namespace Above
/-- a row of users with their levels -/
def LRow (w : World) (v : Value) (us : List (List UInt8 × Int)) : Prop :=
  (∃ p cap, v = .slice p 0 cap ∧ us = []) ∨ ∃ b cap, v = .slice (some ⟨b, 0, none⟩) us.length cap ∧ b < w.heap.size ∧
    ∀ (j : Nat) (hj : j < us.length), w.cell? ⟨b, j * 2, none⟩ = some (.string ⟨(us[j]).1.toArray⟩) ∧ w.cell? ⟨b, j * 2 + 1, none⟩ = some (.int .i64 (us[j]).2)
theorem LRow.low {w w' : World} {v : Value} {us : List (List UInt8 × Int)} (h : LRow w v us) (hb : Below w.heap.size w w') : LRow w' v us := by
  rcases h with h | ⟨b, cap, h1, h2, h3⟩
  · exact .inl h
  · exact .inr ⟨b, cap, h1, Nat.lt_of_lt_of_le h2 hb.size, fun j hj => ⟨(hb.cell (p := ⟨b, j * 2, none⟩) h2).trans (h3 j hj).1, (hb.cell (p := ⟨b, j * 2 + 1, none⟩) h2).trans (h3 j hj).2⟩⟩
theorem LRow.form {w : World} {v : Value} {us : List (List UInt8 × Int)} (h : LRow w v us) : ∃ p cap, v = .slice p us.length cap := by
  rcases h with ⟨p, cap, rfl, rfl⟩ | ⟨b, cap, rfl, -, -⟩
  · exact ⟨_, _, rfl⟩
  · exact ⟨_, _, rfl⟩
theorem LRow.at {w : World} {p : Option Addr} {n cap : Nat} {us : List (List UInt8 × Int)} (h : LRow w (.slice p n cap) us) {j : Nat} (hj : j < us.length) :
    ∃ b, p = some ⟨b, 0, none⟩ ∧ n = us.length ∧ b < w.heap.size ∧ w.cell? ⟨b, j * 2, none⟩ = some (.string ⟨(us[j]).1.toArray⟩) ∧ w.cell? ⟨b, j * 2 + 1, none⟩ = some (.int .i64 (us[j]).2) := by
  rcases h with ⟨p', cap', h1, rfl⟩ | ⟨b, cap', h1, h2, h3⟩
  · exact absurd hj (Nat.not_lt_zero _)
  · injection h1 with e1 e2 e3
    subst e1 e2 e3
    exact ⟨b, rfl, rfl, h2, h3 j hj⟩

/-- a user's own level -/
def findL : List (List UInt8 × Int) → List UInt8 → Int × Bool
  | [], _ => (0, false)
  | u :: r, x => if u.1 = x then (u.2, true) else findL r x
def ofL (n0 : Int) (us : List (List UInt8 × Int)) (x : List UInt8) : Int := if (findL us x).2 = true then (findL us x).1 else n0
def levV (n0 n1 n2 n3 n4 n5 : Int) (v : Value) : Value := .agg #[.int .i64 n0, .int .i64 n1, .int .i64 n2, .int .i64 n3, .int .i64 n4, .int .i64 n5, v]

set_option maxHeartbeats 1000000 in
theorem find_any (n0 n1 n2 n3 n4 n5 : Int) (v : Value) (us : List (List UInt8 × Int)) (x : List UInt8) (w : World) (hr : LRow w v us) (hl : us.length ≤ 1048577) :
    Calls Tryd.prog 79 #[levV n0 n1 n2 n3 n4 n5 v, .string ⟨x.toArray⟩] w fun e w' => e = .returned (.tuple #[.int .i64 (findL us x).1, .bool (findL us x).2]) ∧ Below w.heap.size w w' := by
  obtain ⟨p, cap, rfl⟩ := hr.form
  have HR := Lib.hid hr
  have hli : (us.length : Int) ≤ 1048577 := by omega
  unfold levV
  have B0 := (Below.refl w.heap.size w).alloc (Nat.le_refl _) (.cells #[.int .i64 n0, .int .i64 n1, .int .i64 n2, .int .i64 n3, .int .i64 n4, .int .i64 n5, .slice p us.length cap] 72)
  clear hr
  go_enter Tryd.func79, Tryd.ntmps79
  go_wp2_with fail
  generalize w.alloc (.cells #[.int .i64 n0, .int .i64 n1, .int .i64 n2, .int .i64 n3, .int .i64 n4, .int .i64 n5, .slice p us.length cap] 72) = w1 at *
  go_loopw [11] (fun i wr => ∃ j : Nat, j ≤ us.length ∧ i = .int .i64 (j : Int) ∧ Hid (Below w.heap.size w wr) ∧ Hid (findL (us.drop j) x = findL us x)) (fun i _ => us.length - (intOf i).toNat)
  case atStart => exact ⟨0, by omega, rfl, Lib.hid B0, Lib.hid (by simp)⟩
  case round =>
    obtain ⟨j, hj, rfl, HB, HF⟩ := hrel
    by_cases hlt : j < us.length
    · obtain ⟨b, rfl, -, hbl, hc0, hc1⟩ := HR.out.at hlt
      have c0 := (HB.out.cell (p := ⟨b, j * 2, none⟩) hbl).trans hc0
      have c1 := (HB.out.cell (p := ⟨b, j * 2 + 1, none⟩) hbl).trans hc1
      have hji : (j : Int) < (us.length : Int) := by omega
      clear hc0 hc1
      have hF : findL (us.drop j) x = if (us[j]).1 = x then ((us[j]).2, true) else findL (us.drop (j + 1)) x := by
        rw [List.drop_eq_getElem_cons hlt, findL]
      have HF2 := Lib.hid hF
      clear hF
      generalize us[j] = u at *
      obtain ⟨ux, un⟩ := u
      dsimp only at c0 c1 HF2
      have hsz := HB.out.size
      by_cases hx : ux = x
      · subst hx
        have HRR := Lib.hid (show findL us ux = (un, true) by rw [← HF.out, HF2.out, if_pos rfl])
        go_wp2_with fail
        go_ret2
        exact ⟨by rw [HRR.out]; rfl, (HB.out.alloc HB.out.size (.cells #[.string ⟨ux.toArray⟩, .int .i64 un] 76))⟩
      · have HN := Lib.hid (show findL (us.drop (j + 1)) x = findL us x by rw [← HF.out, HF2.out, if_neg hx])
        have hd : (ux == x) = false := by simpa using hx
        clear HF2 hx
        go_wp2_with fail
        go_roundw
        case rel => exact ⟨j + 1, by omega, by go_num, Lib.hid (HB.out.alloc HB.out.size (.cells #[.string ⟨ux.toArray⟩, .int .i64 un] 76)), HN⟩
        case measure => simp [intOf]; omega
    · obtain rfl : j = us.length := by omega
      have HRR := Lib.hid (show findL us x = (0, false) by rw [← HF.out, List.drop_length]; rfl)
      clear hlt
      go_wp2_with fail
      go_ret2
      exact ⟨by rw [HRR.out]; rfl, HB.out⟩
end Above
end Go.Proofs.YtbgjoefpnjgdkaaDoor
