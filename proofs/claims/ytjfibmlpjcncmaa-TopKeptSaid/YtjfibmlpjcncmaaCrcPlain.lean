/- Plain facts on a check sum of 32 bits, over bit vectors: no program in sight. It holds: the step is linear and one to one; four bytes behind a sum give 0 just if they are the sum's; a difference within 32 bits in a row is found. -/
namespace Go.Proofs.Ytjfibmlpjcncmaa.Crc

def poly : BitVec 32 := 79764919#32
def stp (x : BitVec 32) : BitVec 32 := (x <<< 1) ^^^ (if x.msb then poly else 0#32)

theorem xor4 (a b c d : BitVec 32) : (a ^^^ b) ^^^ (c ^^^ d) = (a ^^^ c) ^^^ (b ^^^ d) := by
  ext i hi; simp; cases a[i] <;> cases b[i] <;> cases c[i] <;> cases d[i] <;> rfl

theorem stp_xor (a b : BitVec 32) : stp (a ^^^ b) = stp a ^^^ stp b := by
  unfold stp
  rw [BitVec.shiftLeft_xor_distrib, xor4, BitVec.msb_xor]
  cases a.msb <;> cases b.msb <;> simp

theorem stp_zero : stp 0#32 = 0#32 := by decide

theorem shl1_zero (x : BitVec 32) (hm : x.msb = false) (h : x <<< 1 = 0#32) : x = 0#32 := by
  apply BitVec.eq_of_toNat_eq
  have h2 := congrArg BitVec.toNat h
  have h3 : x.toNat < 2147483648 := by
    have := BitVec.msb_eq_decide x
    rw [hm] at this
    simp at this
    omega
  simp [BitVec.toNat_shiftLeft, Nat.shiftLeft_eq] at h2 ⊢
  omega

theorem stp_inj0 (x : BitVec 32) (h : stp x = 0#32) : x = 0#32 := by
  unfold stp at h
  cases hm : x.msb with
  | false => rw [hm] at h; exact shl1_zero x hm (by simpa using h)
  | true =>
    rw [hm] at h
    exfalso
    have h2 := congrArg (fun y : BitVec 32 => y.getLsbD 0) h
    simp [poly] at h2

def its : Nat → BitVec 32 → BitVec 32
  | 0, x => x
  | k + 1, x => its k (stp x)

theorem its_xor (k : Nat) : ∀ a b : BitVec 32, its k (a ^^^ b) = its k a ^^^ its k b := by
  induction k with
  | zero => intro a b; rfl
  | succ k ih => intro a b; rw [its, stp_xor, ih]; rfl

theorem its_zero (k : Nat) : its k 0#32 = 0#32 := by
  induction k with
  | zero => rfl
  | succ k ih => rw [its, stp_zero, ih]

theorem its_inj0 (k : Nat) : ∀ x : BitVec 32, its k x = 0#32 → x = 0#32 := by
  induction k with
  | zero => intro x h; exact h
  | succ k ih => intro x h; exact stp_inj0 x (ih _ h)

theorem its_add (m k : Nat) : ∀ x : BitVec 32, its (m + k) x = its k (its m x) := by
  induction m with
  | zero => intro x; rw [Nat.zero_add]; rfl
  | succ m ih => intro x; rw [Nat.succ_add, its, ih]; rfl

theorem its_succ' (k : Nat) (x : BitVec 32) : its (k + 1) x = stp (its k x) := by
  rw [its_add k 1]; rfl

/-- one bit goes in, the highest one first -/
def fb (x : BitVec 32) (b : Bool) : BitVec 32 := stp (x ^^^ (if b then 0x80000000#32 else 0#32))
def run (x : BitVec 32) (l : List Bool) : BitVec 32 := l.foldl fb x

theorem run_nil (x : BitVec 32) : run x [] = x := rfl
theorem run_cons (x : BitVec 32) (b : Bool) (l : List Bool) : run x (b :: l) = run (fb x b) l := rfl
theorem run_append (x : BitVec 32) (l m : List Bool) : run x (l ++ m) = run (run x l) m := List.foldl_append ..

theorem fb_xor (x y : BitVec 32) (b c : Bool) : fb (x ^^^ y) (b ^^ c) = fb x b ^^^ fb y c := by
  unfold fb
  rw [← stp_xor, xor4]
  cases b <;> cases c <;> simp

theorem run_xor (l : List Bool) : ∀ (m : List Bool) (x y : BitVec 32), l.length = m.length → run (x ^^^ y) (List.zipWith (· ^^ ·) l m) = run x l ^^^ run y m := by
  induction l with
  | nil => intro m x y h; cases m with
    | nil => rfl
    | cons _ _ => simp at h
  | cons b l ih => intro m x y h; cases m with
    | nil => simp at h
    | cons c m =>
      rw [List.zipWith_cons_cons, run_cons, run_cons, run_cons, fb_xor]
      exact ih m _ _ (by simpa using h)

/-- the bits as a word's highest ones -/
def pack : List Bool → BitVec 32
  | [] => 0#32
  | b :: l => (if b then 0x80000000#32 else 0#32) ^^^ (pack l >>> 1)

theorem pack_low (l : List Bool) : l.length ≤ 32 → ∀ i, i + l.length < 32 → (pack l).getLsbD i = false := by
  induction l with
  | nil => intro _ i _; simp [pack]
  | cons b l ih =>
    intro hl i hi
    simp only [List.length_cons] at hl hi
    rw [pack, BitVec.getLsbD_xor, BitVec.getLsbD_ushiftRight, ih (by omega) (1 + i) (by omega)]
    have h31 : i ≠ 31 := by omega
    cases b
    · simp
    · have h32 : i < 32 := by omega
      have : (0x80000000#32).getLsbD i = false := by
        have : ∀ j : Fin 32, j.val ≠ 31 → (0x80000000#32).getLsbD j.val = false := by decide
        exact this ⟨i, h32⟩ h31
      simp only [if_true, this, Bool.xor_false]

theorem stp_shr (x : BitVec 32) (h : x.getLsbD 0 = false) : stp (x >>> 1) = x := by
  have hm : (x >>> 1).msb = false := by simp [BitVec.msb_ushiftRight]
  unfold stp
  rw [hm]
  simp only [Bool.false_eq_true, if_false, BitVec.xor_zero]
  apply BitVec.eq_of_toNat_eq
  have h2 : x.toNat % 2 = 0 := by
    have : x.getLsbD 0 = decide (x.toNat % 2 = 1) := by simp [BitVec.getLsbD, Nat.testBit_zero]
    rw [this] at h
    simp at h
    omega
  simp [BitVec.toNat_shiftLeft, BitVec.toNat_ushiftRight, Nat.shiftLeft_eq, Nat.shiftRight_eq_div_pow]
  have := x.isLt
  omega

theorem run_pack (l : List Bool) : ∀ x : BitVec 32, l.length ≤ 32 → run x l = its l.length (x ^^^ pack l) := by
  induction l with
  | nil => intro x _; simp [run_nil, pack, its]
  | cons b l ih =>
    intro x hl
    simp only [List.length_cons] at hl
    rw [run_cons, ih _ (by omega), List.length_cons, its, pack, ← BitVec.xor_assoc, stp_xor, stp_shr _ (pack_low l (by omega) 0 (by omega))]
    rfl

theorem pack_zero (l : List Bool) : l.length ≤ 32 → pack l = 0#32 → ∀ b ∈ l, b = false := by
  induction l with
  | nil => intro _ _ b hb; cases hb
  | cons c l ih =>
    intro hl h
    simp only [List.length_cons] at hl
    rw [pack] at h
    have hm : (pack l >>> 1).msb = false := by simp [BitVec.msb_ushiftRight]
    have hc : c = false := by
      cases c with
      | false => rfl
      | true =>
        exfalso
        have := congrArg BitVec.msb h
        rw [BitVec.msb_xor, hm] at this
        revert this; decide
    subst hc
    have h0 : pack l >>> 1 = 0#32 := by simpa using h
    have h1 : pack l = 0#32 := by
      have := stp_shr (pack l) (pack_low l (by omega) 0 (by omega))
      rw [h0, stp_zero] at this
      exact this.symm
    intro b hb
    rcases List.mem_cons.1 hb with rfl | hb
    · rfl
    · exact ih (by omega) h1 b hb

theorem run_false (m : Nat) : ∀ x : BitVec 32, run x (List.replicate m false) = its m x := by
  induction m with
  | zero => intro x; rfl
  | succ m ih => intro x; rw [List.replicate_succ, run_cons, ih, its]; simp [fb]

/-- WHAT IS TURNED WITHIN 32 BITS IN A ROW IS FOUND -/
theorem run_burst (a : Nat) (w : List Bool) (z : Nat) (hw : w.length ≤ 32) : run 0#32 (List.replicate a false ++ w ++ List.replicate z false) = 0#32 ↔ ∀ b ∈ w, b = false := by
  rw [run_append, run_append, run_false, run_false, its_zero, run_pack _ _ hw]
  constructor
  · intro h
    have h2 := its_inj0 _ _ (its_inj0 _ _ h)
    exact pack_zero w hw (by simpa using h2)
  · intro h
    have : w = List.replicate w.length false := List.eq_replicate_iff.2 ⟨rfl, h⟩
    have hp : pack w = 0#32 := by
      have h2 : its w.length (0#32 ^^^ pack w) = 0#32 := by
        rw [← run_pack _ _ hw, this, run_false, its_zero]
      simpa using its_inj0 _ _ h2
    rw [hp]; simp [its_zero]

/-- a byte's bits, the highest one first -/
def bits8 (c : UInt8) : List Bool := [c.toNat.testBit 7, c.toNat.testBit 6, c.toNat.testBit 5, c.toNat.testBit 4, c.toNat.testBit 3, c.toNat.testBit 2, c.toNat.testBit 1, c.toNat.testBit 0]
def bitsL (l : List UInt8) : List Bool := l.flatMap bits8

theorem bits8_length (c : UInt8) : (bits8 c).length = 8 := rfl
theorem bitsL_nil : bitsL [] = [] := rfl
theorem bitsL_cons (c : UInt8) (l : List UInt8) : bitsL (c :: l) = bits8 c ++ bitsL l := rfl
theorem bitsL_append (l m : List UInt8) : bitsL (l ++ m) = bitsL l ++ bitsL m := by simp [bitsL]
theorem bitsL_length (l : List UInt8) : (bitsL l).length = 8 * l.length := by
  induction l with
  | nil => rfl
  | cons c l ih => rw [bitsL_cons, List.length_append, ih, bits8_length, List.length_cons]; omega

theorem bits8_inj : ∀ c d : UInt8, bits8 c = bits8 d → c = d := by
  intro c d h
  apply UInt8.toNat_inj.1
  apply Nat.eq_of_testBit_eq
  intro i
  simp only [bits8, List.cons.injEq] at h
  obtain ⟨h7, h6, h5, h4, h3, h2, h1, h0, _⟩ := h
  by_cases hi : i < 8
  · match i, hi with
    | 0, _ => exact h0
    | 1, _ => exact h1
    | 2, _ => exact h2
    | 3, _ => exact h3
    | 4, _ => exact h4
    | 5, _ => exact h5
    | 6, _ => exact h6
    | 7, _ => exact h7
  · have hp : 2 ^ 8 ≤ 2 ^ i := Nat.pow_le_pow_right (by omega) (by omega)
    have hc := c.toNat_lt
    have hd := d.toNat_lt
    rw [Nat.testBit_lt_two_pow (by omega), Nat.testBit_lt_two_pow (by omega)]

theorem bitsL_inj : ∀ l m : List UInt8, bitsL l = bitsL m → l = m := by
  intro l
  induction l with
  | nil => intro m h; cases m with
    | nil => rfl
    | cons c m => have := congrArg List.length h; rw [bitsL_length, bitsL_length] at this; simp at this
  | cons c l ih => intro m h; cases m with
    | nil => have := congrArg List.length h; rw [bitsL_length, bitsL_length] at this; simp at this
    | cons d m =>
      rw [bitsL_cons, bitsL_cons] at h
      obtain ⟨h1, h2⟩ := List.append_inj h (by rw [bits8_length, bits8_length])
      rw [bits8_inj c d h1, ih m h2]

/-- the next sum -/
def nx (x : BitVec 32) (c : UInt8) : BitVec 32 := its 8 (x ^^^ (BitVec.ofNat 32 c.toNat <<< 24))
def crcF (x : BitVec 32) (l : List UInt8) : BitVec 32 := l.foldl nx x
def crc (l : List UInt8) : BitVec 32 := crcF 0xffffffff#32 l

theorem pack_bits8 : ∀ c : UInt8, pack (bits8 c) = BitVec.ofNat 32 c.toNat <<< 24 := by
  have h : ∀ c : Fin 256, pack [c.val.testBit 7, c.val.testBit 6, c.val.testBit 5, c.val.testBit 4, c.val.testBit 3, c.val.testBit 2, c.val.testBit 1, c.val.testBit 0] = BitVec.ofNat 32 c.val <<< 24 := by decide +kernel
  intro c
  exact h ⟨c.toNat, c.toNat_lt⟩

theorem nx_run (x : BitVec 32) (c : UInt8) : nx x c = run x (bits8 c) := by
  rw [run_pack _ _ (by rw [bits8_length]; omega), pack_bits8]; rfl

theorem crcF_run (l : List UInt8) : ∀ x : BitVec 32, crcF x l = run x (bitsL l) := by
  induction l with
  | nil => intro x; rfl
  | cons c l ih => intro x; rw [bitsL_cons, run_append, ← nx_run]; exact ih _

theorem crcF_append (x : BitVec 32) (l m : List UInt8) : crcF x (l ++ m) = crcF (crcF x l) m := List.foldl_append ..

/-- TOGETHER: the sums of two texts that are as long, and of both put together -/
theorem crc_xor (l m : List UInt8) (h : l.length = m.length) : crc l ^^^ crc m = run 0#32 (List.zipWith (· ^^ ·) (bitsL l) (bitsL m)) := by
  unfold crc
  rw [crcF_run, crcF_run, ← run_xor _ _ _ _ (by rw [bitsL_length, bitsL_length, h])]
  rfl

theorem bits8_xor : ∀ c d : UInt8, bits8 (c ^^^ d) = List.zipWith (· ^^ ·) (bits8 c) (bits8 d) := by
  intro c d
  simp only [bits8, UInt8.toNat_xor, Nat.testBit_xor, List.zipWith_cons_cons, List.zipWith_nil_left]

theorem bitsL_xor : ∀ l m : List UInt8, l.length = m.length → bitsL (List.zipWith (· ^^^ ·) l m) = List.zipWith (· ^^ ·) (bitsL l) (bitsL m) := by
  intro l
  induction l with
  | nil => intro m h; cases m <;> simp_all [bitsL_nil]
  | cons c l ih => intro m h; cases m with
    | nil => simp at h
    | cons d m =>
      rw [List.zipWith_cons_cons, bitsL_cons, bitsL_cons, bitsL_cons, List.zipWith_append (by rw [bits8_length, bits8_length]), bits8_xor, ih m (by simpa using h)]

theorem bitsL_zeros (n : Nat) : bitsL (List.replicate n 0) = List.replicate (8 * n) false := by
  induction n with
  | zero => rfl
  | succ n ih =>
    rw [List.replicate_succ, bitsL_cons, ih, show 8 * (n + 1) = 8 + 8 * n by omega, ← List.replicate_append_replicate]
    congr 1

theorem zip_false (l : List Bool) : List.zipWith (· ^^ ·) l (List.replicate l.length false) = l := by
  induction l with
  | nil => rfl
  | cons b l ih => rw [List.length_cons, List.replicate_succ, List.zipWith_cons_cons, ih]; simp

theorem crc_together (l m : List UInt8) (h : l.length = m.length) :
    crc l ^^^ crc m = crc (List.zipWith (· ^^^ ·) l m) ^^^ crc (List.replicate l.length 0) := by
  have hz : (List.zipWith (· ^^^ ·) l m).length = l.length := by simp [h]
  rw [crc_xor l m h, crc_xor _ _ (by rw [hz]; simp), bitsL_xor l m h, bitsL_zeros]
  have hl : (List.zipWith (· ^^ ·) (bitsL l) (bitsL m)).length = 8 * l.length := by simp [bitsL_length, h]
  rw [← hl, zip_false]

/-- FOUR BYTES BEHIND: the sum is 0 just if they are the sum's -/
def top4 (x : BitVec 32) : List UInt8 := [UInt8.ofNat (x.toNat / 16777216), UInt8.ofNat (x.toNat / 65536), UInt8.ofNat (x.toNat / 256), UInt8.ofNat x.toNat]

def word (a b c d : UInt8) : BitVec 32 := BitVec.ofNat 32 (a.toNat * 16777216 + b.toNat * 65536 + c.toNat * 256 + d.toNat)

theorem its_shl (k : Nat) : ∀ x : BitVec 32, k ≤ 32 → x.toNat * 2 ^ k < 4294967296 → its k x = x <<< k := by
  induction k with
  | zero => intro x _ _; simp [its]
  | succ k ih =>
    intro x hk hx
    rw [Nat.pow_succ] at hx
    have hp : 0 < 2 ^ k := Nat.two_pow_pos k
    have h2 : x.toNat * 2 < 4294967296 := by
      have : x.toNat * 2 ≤ x.toNat * (2 ^ k * 2) := Nat.mul_le_mul_left _ (by omega)
      omega
    have hm : x.msb = false := by rw [BitVec.msb_eq_decide]; simp; omega
    have hs : stp x = x <<< 1 := by unfold stp; rw [hm]; simp
    rw [its, hs, ih _ (by omega) ?_, ← BitVec.shiftLeft_add, Nat.add_comm]
    rw [BitVec.toNat_shiftLeft, Nat.shiftLeft_eq, Nat.mod_eq_of_lt (by omega)]
    rw [Nat.mul_assoc, Nat.mul_comm 2]; simpa using hx

theorem nx4 (x : BitVec 32) (a b c d : UInt8) : nx (nx (nx (nx x a) b) c) d = its 32 (x ^^^ word a b c d) := by
  have e : ∀ (m : Nat) (y : BitVec 32) (n : Nat) (h : n < 256), m + 8 ≤ 32 → its 8 (its m y ^^^ (BitVec.ofNat 32 n <<< 24)) = its (m + 8) (y ^^^ BitVec.ofNat 32 (n * 2 ^ (24 - m))) := by
    intro m y n h hm
    have hp : n * 2 ^ (24 - m) < 2 ^ 32 := by
      have h1 : 2 ^ (24 - m) ≤ 2 ^ 24 := Nat.pow_le_pow_right (by omega) (by omega)
      have h2 : n * 2 ^ (24 - m) ≤ 255 * 2 ^ 24 := Nat.mul_le_mul (by omega) h1
      omega
    have hq : n * 2 ^ (24 - m) * 2 ^ m = n * 2 ^ 24 := by
      rw [Nat.mul_assoc, ← Nat.pow_add, Nat.sub_add_cancel (by omega)]
    have h3 : its m (BitVec.ofNat 32 (n * 2 ^ (24 - m))) = BitVec.ofNat 32 n <<< 24 := by
      rw [its_shl m _ (by omega) ?_]
      · apply BitVec.eq_of_toNat_eq
        rw [BitVec.toNat_shiftLeft, BitVec.toNat_shiftLeft, Nat.shiftLeft_eq, Nat.shiftLeft_eq, BitVec.toNat_ofNat, BitVec.toNat_ofNat, Nat.mod_eq_of_lt hp, hq, Nat.mod_eq_of_lt (show n < 2 ^ 32 by omega)]
      · rw [BitVec.toNat_ofNat, Nat.mod_eq_of_lt hp, hq]; omega
    rw [its_add, its_xor m, h3]
  unfold nx word
  have h0 := e 0 x a.toNat a.toNat_lt (by omega)
  have ha := a.toNat_lt
  have hb := b.toNat_lt
  have hc := c.toNat_lt
  have hd := d.toNat_lt
  have e1 : its 8 (x ^^^ BitVec.ofNat 32 a.toNat <<< 24) = its 8 (x ^^^ BitVec.ofNat 32 (a.toNat * 2 ^ 24)) := h0
  rw [e1, e 8 _ b.toNat hb (by omega), e 16 _ c.toNat hc (by omega), e 24 _ d.toNat hd (by omega)]
  congr 1
  rw [BitVec.xor_assoc, BitVec.xor_assoc, BitVec.xor_assoc]
  congr 1
  apply BitVec.eq_of_toNat_eq
  have o : ∀ p q k : Nat, q < 2 ^ k → (p * 2 ^ k) ^^^ q = p * 2 ^ k + q := by
    intro p q k hq
    rw [Nat.mul_comm, Nat.two_pow_add_eq_or_of_lt hq]
    apply Nat.eq_of_testBit_eq
    intro i
    rw [Nat.testBit_xor, Nat.testBit_or, Nat.testBit_two_pow_mul]
    by_cases hik : k ≤ i
    · have : q.testBit i = false := Nat.testBit_lt_two_pow (Nat.lt_of_lt_of_le hq (Nat.pow_le_pow_right (by omega) hik))
      simp [this]
    · simp [hik]
  simp only [BitVec.toNat_xor, BitVec.toNat_ofNat, Nat.reducePow, Nat.reduceSub, Nat.mul_one]
  rw [Nat.mod_eq_of_lt (show a.toNat * 16777216 < 4294967296 by omega), Nat.mod_eq_of_lt (show b.toNat * 65536 < 4294967296 by omega), Nat.mod_eq_of_lt (show c.toNat * 256 < 4294967296 by omega), Nat.mod_eq_of_lt (show d.toNat < 4294967296 by omega)]
  rw [o c.toNat d.toNat 8 (by omega), o b.toNat _ 16 (by omega), o a.toNat _ 24 (by omega)]
  rw [Nat.mod_eq_of_lt (by omega)]
  omega

theorem nx4_zero (x : BitVec 32) (a b c d : UInt8) : nx (nx (nx (nx x a) b) c) d = 0#32 ↔ [a, b, c, d] = top4 x := by
  rw [nx4]
  have ha := a.toNat_lt
  have hb := b.toNat_lt
  have hc := c.toNat_lt
  have hd := d.toNat_lt
  have hx := x.isLt
  constructor
  · intro h
    have h2 := its_inj0 _ _ h
    have h3 : x = word a b c d := by
      have : x ^^^ word a b c d ^^^ word a b c d = 0#32 ^^^ word a b c d := by rw [h2]
      simpa [BitVec.xor_assoc] using this
    have h4 : x.toNat = a.toNat * 16777216 + b.toNat * 65536 + c.toNat * 256 + d.toNat := by
      rw [h3, word, BitVec.toNat_ofNat]; omega
    unfold top4
    rw [h4]
    simp only [List.cons.injEq, and_true]
    refine ⟨?_, ?_, ?_, ?_⟩ <;> apply UInt8.toNat_inj.1 <;> rw [UInt8.toNat_ofNat'] <;> omega
  · intro h
    unfold top4 at h
    simp only [List.cons.injEq, and_true] at h
    obtain ⟨h1, h2, h3, h4⟩ := h
    have e : x = word a b c d := by
      apply BitVec.eq_of_toNat_eq
      rw [word, BitVec.toNat_ofNat, h1, h2, h3, h4]
      simp only [UInt8.toNat_ofNat']
      omega
    rw [← e, BitVec.xor_self, its_zero]

theorem list4 (t : List UInt8) (h : t.length = 4) : ∃ a b c d, t = [a, b, c, d] := by
  match t, h with
  | [a, b, c, d], _ => exact ⟨a, b, c, d, rfl⟩

theorem crc_zero (p t : List UInt8) (h : t.length = 4) : crc (p ++ t) = 0#32 ↔ t = top4 (crc p) := by
  obtain ⟨a, b, c, d, rfl⟩ := list4 t h
  unfold crc
  rw [crcF_append, ← nx4_zero]
  rfl

/-- A LAST BYTE THAT IS TURNED -/
theorem nx_inj (x : BitVec 32) (c d : UInt8) (h : nx x c = nx x d) : c = d := by
  unfold nx at h
  have h2 : its 8 ((x ^^^ (BitVec.ofNat 32 c.toNat <<< 24)) ^^^ (x ^^^ (BitVec.ofNat 32 d.toNat <<< 24))) = 0#32 := by
    rw [its_xor, h, BitVec.xor_self]
  have h3 := its_inj0 _ _ h2
  rw [xor4, BitVec.xor_self, BitVec.zero_xor] at h3
  have h4 : BitVec.ofNat 32 c.toNat <<< 24 = BitVec.ofNat 32 d.toNat <<< 24 := by
    have : (BitVec.ofNat 32 c.toNat <<< 24 ^^^ BitVec.ofNat 32 d.toNat <<< 24) ^^^ BitVec.ofNat 32 d.toNat <<< 24 = 0#32 ^^^ BitVec.ofNat 32 d.toNat <<< 24 := by rw [h3]
    simpa [BitVec.xor_assoc] using this
  have h5 := congrArg BitVec.toNat h4
  simp [BitVec.toNat_shiftLeft, Nat.shiftLeft_eq] at h5
  have hc := c.toNat_lt
  have hd := d.toNat_lt
  apply UInt8.toNat_inj.1
  omega

theorem crc_last (p : List UInt8) (c d : UInt8) : crc (p ++ [c]) = crc (p ++ [d]) ↔ c = d := by
  constructor
  · intro h
    unfold crc at h
    rw [crcF_append, crcF_append] at h
    exact nx_inj _ _ _ h
  · intro h; rw [h]

end Go.Proofs.Ytjfibmlpjcncmaa.Crc
