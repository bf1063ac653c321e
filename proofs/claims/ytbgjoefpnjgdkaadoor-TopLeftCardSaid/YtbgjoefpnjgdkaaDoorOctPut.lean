/- The walks of octet.put and octet.Num: a number's bytes. -/
import Derived.Test.YtbgjoefpnjgdkaaDoorBytes
import Derived.Maps.AppendAt
import Derived.Lib.Hide
namespace Go.Proofs.YtbgjoefpnjgdkaaDoor
open Go.RowKit
set_option linter.unusedVariables false

/-- bytes as cells -/
def bytesV (l : List UInt8) : List Value := l.map fun b => .int .u8 (b.toNat : Int)
theorem bytesV_length (l : List UInt8) : (bytesV l).length = l.length := by simp [bytesV]
theorem bytesV_append (l m : List UInt8) : bytesV (l ++ m) = bytesV l ++ bytesV m := by simp [bytesV]

/-- v owns these bytes, in blocks from base on -/
def Own (base : Nat) (w : World) (v : Value) (l : List UInt8) : Prop := w.ownsRow base 5 1 v l.length (bytesV l)

theorem Own.nil (base : Nat) (w : World) : Own base w (.slice none 0 0) [] := World.ownsRow_nil w base _ 1

/-- what is owned reads back as a string -/
theorem Own.conv {base : Nat} {w : World} {v : Value} {l : List UInt8} (h : Own base w v l) : (convert 96 9 v).run Tryd.prog w = .ok (.string ⟨l.toArray⟩) w := by
  have h0 := h
  rcases h.2 with ⟨rfl, hl⟩ | ⟨g, cap, cur, rfl, hg, hh, hn, hc, hs, ht⟩
  · have : l = [] := List.length_eq_zero_iff.1 hl
    subst this
    exact run_convert_bytes_nil (P := Tryd.prog) w 96 5 Tryd.underlying96 Tryd.underlying5 0 0 9 Tryd.underlying9
  · refine run_convert_bytes_back (P := Tryd.prog) w 96 9 5 ⟨g, 0, none⟩ cap l Tryd.underlying96 Tryd.underlying5 Tryd.underlying9 fun j hj => ?_
    exact h0.cells (g := g) rfl j _ (by simp [bytesV, hj])

namespace Oct

/-- a number's bytes, with so much fuel -/
def putF : Nat → Nat → List UInt8
  | 0, n => [UInt8.ofNat n]
  | f + 1, n => if 127 < n then UInt8.ofNat (n % 128 + 128) :: putF f (n / 128) else [UInt8.ofNat n]
def putL (n : Nat) : List UInt8 := putF 10 n

theorem putF_length (f : Nat) : ∀ n, (putF f n).length ≤ f + 1 := by
  induction f with
  | zero => intro n; simp [putF]
  | succ f ih =>
    intro n
    rw [putF]
    split
    · have := ih (n / 128); simp; omega
    · simp

theorem putL_length (n : Nat) : (putL n).length ≤ 11 := putF_length 10 n

theorem or128 (m : Nat) : bits .or .u8 ((m : Int) % 256) 128 = ((UInt8.ofNat (m % 128 + 128)).toNat : Int) := by
  rw [show ((m : Int) % 256) = ((m % 256 : Nat) : Int) by omega, show (128 : Int) = ((128 : Nat) : Int) from rfl, u8_or_nat _ _ (by omega) (by omega), UInt8.toNat_ofNat', Nat.mod_eq_of_lt (show m % 128 + 128 < 2 ^ 8 by omega)]
  congr 1
  have h : ∀ a : Fin 256, a.val ||| 128 = a.val % 128 + 128 := by decide +kernel
  have := h ⟨m % 256, by omega⟩
  simp only at this
  omega

theorem low8 (m : Nat) : ((m : Int) % 256) = ((UInt8.ofNat m).toNat : Int) := by
  rw [UInt8.toNat_ofNat']; omega

def Puts (base : Nat) (w : World) (l : List UInt8) (e : Ending) (w' : World) : Prop := ∃ v, e = .returned v ∧ Own base w' v l ∧ Below base w w'

set_option maxHeartbeats 1000000 in
set_option maxRecDepth 4000 in
theorem put_any (base : Nat) (v0 : Value) (xs : List UInt8) (n : Nat) (hn : n < 18446744073709551616) (w : World) (hv : Own base w v0 xs) (hb : base ≤ w.heap.size) (hl : xs.length ≤ 1000000000) :
    Calls Tryd.prog 39 #[v0, .int .u64 (n : Int)] w (Puts base w (xs ++ putL n)) := by
  obtain ⟨i0, hi, hz0, hz1, hz2⟩ := info_parts info_u8
  have hn2 : n < 128 ^ 11 := by omega
  have HN := Lib.hid hn2
  have HV := Lib.hid hv
  clear hn2 hv
  go_enter Tryd.func39, Tryd.ntmps39
  go_wp2
  go_loopw [0, 1] (fun b i wr => ∃ (f m : Nat) (ys : List UInt8), f ≤ 10 ∧ i = .int .u64 (m : Int) ∧ m < 18446744073709551616 ∧ Hid (m < 128 ^ (f + 1)) ∧ Hid (Own base wr b ys) ∧ Below base w wr ∧ base ≤ wr.heap.size ∧ ys.length + f = xs.length + 10 ∧ Hid (ys ++ putF f m = xs ++ putL n))
    (fun _ i _ => (intOf i).toNat)
  case atStart => exact ⟨10, n, xs, by omega, rfl, hn, HN, HV, Below.refl _ _, hb, rfl, rfl⟩
  case round =>
    obtain ⟨f, m, ys, hf, rfl, hm, HM, HO, hbw, hbs, hlen, HE⟩ := hrel
    clear HN HV hb hn
    by_cases hlt : 127 < m
    · have hlti : (127 : Int) < (m : Int) := by omega
      have hown := HO.out
      unfold Own at hown
      have hyl : ys.length ≤ 1000000010 := by omega
      go_wp2_with (at_builtin; refine wpList_append_own _ rfl (.tmp 7) (.tmp 11) _ rfl base 5 i0 (.int .u8 0) 1 1 Tryd.underlying96 hi hz0 hz1 hz2 rfl (by decide) _ _ _ rfl (hown.alloc _) ⟨wr.heap.size, 0, none⟩ 1 1 [.int .u8 (bits .or .u8 ((m : Int) % 256) 128)] rfl rfl (cell_one_new _ _ _) (by simp [Value.oneCell']) (by unfold maxLen; omega) (by omega) (by simp; omega) ?_; intro v' w1 hown' hgrow _)
      have hb1 : Below base w w1 := (hbw.alloc hbs _).grown hgrow (by simp; omega) (fun k hk => (hown.lt k hk).1)
      have hO1 : Own base w1 v' (ys ++ [UInt8.ofNat (m % 128 + 128)]) := by
        unfold Own
        rw [bytesV_append, List.length_append]
        rw [or128] at hown'
        exact hown'
      have hf1 : 1 ≤ f := by
        rcases Nat.eq_zero_or_pos f with h0 | h0
        · subst h0; have := HM.out; simp at this; omega
        · exact h0
      obtain ⟨f', hf'⟩ : ∃ f', f = f' + 1 := ⟨f - 1, by omega⟩
      have hM1 : m / 128 < 128 ^ (f' + 1) := by
        have h := HM.out
        rw [hf', Nat.pow_succ] at h
        exact Nat.div_lt_of_lt_mul (by rw [Nat.mul_comm]; exact h)
      have hE1 : (ys ++ [UInt8.ofNat (m % 128 + 128)]) ++ putF f' (m / 128) = xs ++ putL n := by
        have h := HE.out
        rw [hf', putF, if_pos hlt] at h
        rw [← h]; simp
      go_roundw
      case rel => exact ⟨f', m / 128, ys ++ [UInt8.ofNat (m % 128 + 128)], by omega, by go_num, by omega, hM1, hO1, hb1, by have := hb1.size; have := hgrow.size; simp at this; omega, by simp; omega, hE1⟩
      case measure => simp [intOf]; omega
    · have hlti : (m : Int) ≤ 127 := by omega
      clear hm
      have hown := HO.out
      unfold Own at hown
      have hyl : ys.length ≤ 1000000010 := by omega
      go_wp2_with (at_builtin; refine wpList_append_own _ rfl (.tmp 15) (.tmp 18) _ rfl base 5 i0 (.int .u8 0) 1 1 Tryd.underlying96 hi hz0 hz1 hz2 rfl (by decide) _ _ _ rfl (hown.alloc _) ⟨wr.heap.size, 0, none⟩ 1 1 [.int .u8 ((m : Int))] rfl rfl (cell_one_new _ _ _) (by simp [Value.oneCell']) (by unfold maxLen; omega) (by omega) (by simp; omega) ?_; intro v' w1 hown' hgrow _)
      go_ret
      have hb1 : Below base w w1 := (hbw.alloc hbs _).grown hgrow (by simp; omega) (fun k hk => (hown.lt k hk).1)
      refine ⟨v', rfl, ?_, hb1⟩
      have hE : xs ++ putL n = ys ++ [UInt8.ofNat m] := by
        rw [← HE.out]
        cases f with
        | zero => rfl
        | succ f => rw [putF, if_neg (by omega)]
      unfold Own
      rw [hE, bytesV_append, List.length_append]
      have hlow : (m : Int) = ((UInt8.ofNat m).toNat : Int) := by rw [← low8]; omega
      rw [hlow] at hown'
      exact hown'

/-- what Num gives: the bytes, or none -/
theorem num_ok (n : Nat) (hn : n ≤ 281474976710656) (w : World) :
    Calls Tryd.prog 38 #[.int .u64 (n : Int)] w fun e w' => e = .returned (.tuple #[.string ⟨(putL n).toArray⟩, .int .i64 0]) ∧ Below w.heap.size w w' := by
  go_enter Tryd.func38, Tryd.ntmps38
  go_wp2_with fail
  refine (put_any w.heap.size _ [] n (by omega) _ (Own.nil _ _) (Nat.le_refl _) (by simp)).mono ?_
  rintro e w1 ⟨v, rfl, hv, hb⟩
  rw [List.nil_append] at hv
  have hc := hv.conv
  go_wp2_with fail
  go_ret2
  exact ⟨rfl, hb⟩

theorem num_bad (n : Nat) (hn : 281474976710656 < n) (w : World) :
    Calls Tryd.prog 38 #[.int .u64 (n : Int)] w fun e w' => e = .returned (.tuple #[.string ⟨#[]⟩, .int .i64 1]) ∧ w = w' := by
  go_enter Tryd.func38, Tryd.ntmps38
  go_wp2_with fail
  go_ret2
  exact ⟨rfl, rfl⟩
end Oct
end Go.Proofs.YtbgjoefpnjgdkaaDoor
