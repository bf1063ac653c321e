/- Plain facts: bits that are turned within 32 bits in a row give another sum, or the same bytes. No program in sight. -/
import Derived.Test.YtobdllfddmeicaaCrcPlain
namespace Go.Proofs.Ytobdllfddmeicaa.Crc

theorem bits8_at : ∀ (c : UInt8) (q : Nat), q < 8 → (bits8 c)[q]? = some (c.toNat.testBit (7 - q)) := by
  intro c q hq
  match q, hq with
  | 0, _ => rfl
  | 1, _ => rfl
  | 2, _ => rfl
  | 3, _ => rfl
  | 4, _ => rfl
  | 5, _ => rfl
  | 6, _ => rfl
  | 7, _ => rfl

theorem bitsL_at (l : List UInt8) : ∀ p : Nat, (bitsL l)[p]? = (l[p / 8]?).map fun c => c.toNat.testBit (7 - p % 8) := by
  induction l with
  | nil => intro p; simp [bitsL_nil]
  | cons c l ih =>
    intro p
    rw [bitsL_cons]
    by_cases hp : p < 8
    · rw [List.getElem?_append_left (by rw [bits8_length]; exact hp), bits8_at c p hp]
      have h1 : p / 8 = 0 := by omega
      have h2 : p % 8 = p := by omega
      rw [h1, h2]; rfl
    · rw [List.getElem?_append_right (by rw [bits8_length]; omega), bits8_length, ih]
      have h1 : p / 8 = (p - 8) / 8 + 1 := by omega
      have h2 : p % 8 = (p - 8) % 8 := by omega
      rw [h1, h2]; rfl

/-- one bit is turned -/
def turn1 (l : List UInt8) (p : Nat) : List UInt8 := l.set (p / 8) ((l.getD (p / 8) 0) ^^^ UInt8.ofNat (128 / 2 ^ (p % 8)))

theorem turn1_length (l : List UInt8) (p : Nat) : (turn1 l p).length = l.length := by simp [turn1]

theorem turn1_other (l : List UInt8) (p q : Nat) (h : q ≠ p) : (bitsL (turn1 l p))[q]? = (bitsL l)[q]? := by
  rw [bitsL_at, bitsL_at]
  by_cases hd : q / 8 = p / 8
  · unfold turn1
    rw [hd, List.getElem?_set_self']
    cases hc : l[p / 8]? with
    | none => rfl
    | some c =>
      have hg : l.getD (p / 8) 0 = c := by simp [List.getD, hc]
      show Option.map _ (Option.map (Function.const _ _) (some c)) = _
      rw [hg]
      simp only [Option.map_some, Function.const, Option.some.injEq]
      rw [UInt8.toNat_xor, Nat.testBit_xor]
      have hm : q % 8 ≠ p % 8 := by omega
      have ht : (UInt8.ofNat (128 / 2 ^ (p % 8))).toNat.testBit (7 - q % 8) = false := by
        have : ∀ a b : Fin 8, b ≠ a → (UInt8.ofNat (128 / 2 ^ a.val)).toNat.testBit (7 - b.val) = false := by decide
        exact this ⟨p % 8, by omega⟩ ⟨q % 8, by omega⟩ (by intro e; injection e with e; exact hm e)
      rw [ht, Bool.xor_false]
  · unfold turn1
    rw [List.getElem?_set_ne (by omega)]

def turnedL (l : List UInt8) (bit n : Nat) : Nat → List UInt8
  | 0 => l
  | i + 1 => if n.testBit i = true ∧ bit + i < 8 * l.length then turn1 (turnedL l bit n i) (bit + i) else turnedL l bit n i

theorem turnedL_length (l : List UInt8) (bit n : Nat) : ∀ i, (turnedL l bit n i).length = l.length := by
  intro i
  induction i with
  | zero => rfl
  | succ i ih =>
    rw [turnedL]
    split
    · rw [turn1_length, ih]
    · exact ih

theorem turnedL_out (l : List UInt8) (bit n : Nat) : ∀ i q, (q < bit ∨ bit + i ≤ q) → (bitsL (turnedL l bit n i))[q]? = (bitsL l)[q]? := by
  intro i
  induction i with
  | zero => intro q _; rfl
  | succ i ih =>
    intro q hq
    rw [turnedL]
    split
    · rw [turn1_other _ _ _ (by omega), ih q (by omega)]
    · exact ih q (by omega)

/-- a list of bits that is false outside of 32 in a row -/
theorem window (d : List Bool) (bit : Nat) (h : ∀ q : Nat, (q < bit ∨ bit + 32 ≤ q) → ∀ b, d[q]? = some b → b = false) :
    d = List.replicate (min bit d.length) false ++ (d.drop bit).take 32 ++ List.replicate (d.length - (bit + 32)) false := by
  have e1 : d.take bit = List.replicate (min bit d.length) false := by
    rw [List.eq_replicate_iff]
    refine ⟨by simp, fun b hb => ?_⟩
    obtain ⟨q, hq⟩ := List.getElem?_of_mem hb
    rw [List.getElem?_take] at hq
    split at hq
    · rename_i hlt; exact h q (.inl hlt) b hq
    · cases hq
  have e2 : d.drop (bit + 32) = List.replicate (d.length - (bit + 32)) false := by
    rw [List.eq_replicate_iff]
    refine ⟨by simp, fun b hb => ?_⟩
    obtain ⟨q, hq⟩ := List.getElem?_of_mem hb
    rw [List.getElem?_drop] at hq
    exact h _ (.inr (by omega)) b hq
  rw [← e1, ← e2, List.append_assoc]
  have e3 : d.drop (bit + 32) = (d.drop bit).drop 32 := by rw [List.drop_drop]
  rw [e3, List.take_append_drop, List.take_append_drop]

theorem zip_eq (a b : List Bool) (h : a.length = b.length) : (∀ x ∈ List.zipWith (· ^^ ·) a b, x = false) ↔ a = b := by
  induction a generalizing b with
  | nil => cases b with
    | nil => simp
    | cons y b => simp at h
  | cons x a ih => cases b with
    | nil => simp at h
    | cons y b =>
      rw [List.zipWith_cons_cons]
      have := ih b (by simpa using h)
      constructor
      · intro hh
        have h1 := hh (x ^^ y) (List.mem_cons_self ..)
        have h2 := this.1 fun z hz => hh z (List.mem_cons_of_mem _ hz)
        rw [h2]
        have : x = y := by cases x <;> cases y <;> simp_all
        rw [this]
      · intro hh
        injection hh with h1 h2
        intro z hz
        rcases List.mem_cons.1 hz with rfl | hz
        · rw [h1]; simp
        · exact this.2 h2 z hz

/-- WHAT IS TURNED WITHIN 32 BITS IN A ROW IS FOUND -/
theorem found (l : List UInt8) (bit n : Nat) : crc (turnedL l bit n 32) = crc l ↔ turnedL l bit n 32 = l := by
  have hlen := turnedL_length l bit n 32
  have hx := crc_xor (turnedL l bit n 32) l hlen
  have hbl : (bitsL (turnedL l bit n 32)).length = (bitsL l).length := by rw [bitsL_length, bitsL_length, hlen]
  constructor
  · intro h
    rw [h, BitVec.xor_self] at hx
    have hw := window (List.zipWith (· ^^ ·) (bitsL (turnedL l bit n 32)) (bitsL l)) bit (by
      intro q hq b hb
      rw [List.getElem?_zipWith, turnedL_out l bit n 32 q hq] at hb
      cases hc : (bitsL l)[q]? with
      | none => rw [hc] at hb; simp at hb
      | some c => rw [hc] at hb; simp at hb; rw [← hb])
    rw [hw] at hx
    have hf := (run_burst _ _ _ (by simp; omega)).1 hx.symm
    have hz : ∀ x ∈ List.zipWith (· ^^ ·) (bitsL (turnedL l bit n 32)) (bitsL l), x = false := by
      rw [hw]
      intro x hxm
      simp only [List.mem_append, List.mem_replicate] at hxm
      rcases hxm with (⟨_, h0⟩ | h0) | ⟨_, h0⟩
      · exact h0
      · exact hf x h0
      · exact h0
    exact bitsL_inj _ _ ((zip_eq _ _ hbl).1 hz)
  · intro h; rw [h]
end Go.Proofs.Ytobdllfddmeicaa.Crc
