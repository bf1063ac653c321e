/- Identifiers and events as plain functions on bytes, and their laws: an identifier that is read has the text that was read; an event that is read is right, and its bytes with another number are others. -/
import Derived.Test.YtbgjoefpnjgdkaaDoorOctPlain
import Derived.Test.YtbgjoefpnjgdkaaDoorOctAll
import Derived.Lib.ParseIntB
import Derived.Lib.ItoaNum
import Derived.Lib.Bytealg
namespace Go.Proofs.YtbgjoefpnjgdkaaDoor
set_option linter.unusedVariables false
set_option linter.unusedSimpArgs false
namespace Named
open Oct
/-- whether a byte may be in a name -/
def letterP (c : UInt8) : Prop := (97 ≤ c.toNat ∧ c.toNat ≤ 122) ∨ (48 ≤ c.toNat ∧ c.toNat ≤ 57) ∨ c.toNat = 95 ∨ c.toNat = 45
instance letterD (c : UInt8) : Decidable (letterP c) := by unfold letterP; infer_instance
/-- whether a text is a name -/
def nameB (s : List UInt8) : Bool := s.all (fun c => decide (letterP c)) && decide (s ≠ []) && decide (s.length ≤ 16)
def signL (k : Nat) : List UInt8 := if k = 1 then [64] else if k = 2 then [33] else []
def kindL (l : List UInt8) : Nat := if l.head? = some 64 then 1 else if l.head? = some 33 then 2 else 0
/-- what ParseUint makes of a text: the number, and whether there is no error -/
def uintV (B : Nat) (l : List UInt8) : Nat × Bool := match Lib.parseUintB B l with
  | .ok n => (n, true)
  | .range => (2 ^ B - 1, false)
  | _ => (0, false)
/-- a text before and behind its first colon -/
def cutL (s : List UInt8) : List UInt8 × List UInt8 := if 0 ≤ Lib.indexByte s 58 then (s.take (Lib.indexByte s 58).toNat, s.drop ((Lib.indexByte s 58).toNat + 1)) else (s, [])
def okI (k : Nat) (nm : List UInt8) (sv : Int) : Prop := (k = 1 ∨ k = 2) ∧ nameB nm = true ∧ 0 ≤ sv ∧ sv ≤ 63
instance okD (k : Nat) (nm : List UInt8) (sv : Int) : Decidable (okI k nm sv) := by unfold okI; infer_instance
/-- an identifier's text -/
def textI (k : Nat) (nm : List UInt8) (sv : Int) : List UInt8 × Nat := if okI k nm sv then (signL k ++ nm ++ [58] ++ Lib.decDigits sv.toNat, 0) else ([], 2)
/-- the identifier of a text -/
def parseI (t : List UInt8) : (Nat × List UInt8 × Nat) × Nat :=
  if kindL t = 0 then ((0, [], 0), 6)
  else if (uintV 6 (cutL (t.drop 1)).2).2 = true ∧ textI (kindL t) (cutL (t.drop 1)).1 (uintV 6 (cutL (t.drop 1)).2).1 = (t, 0) then ((kindL t, (cutL (t.drop 1)).1, (uintV 6 (cutL (t.drop 1)).2).1), 0)
  else ((0, [], 0), 6)
/-- the server of a text of a kind -/
def ofI (t : List UInt8) (k : Nat) : Nat × Bool := if (parseI t).2 = 0 ∧ (parseI t).1.1 = k then ((parseI t).1.2.2, true) else (0, false)

theorem parseI_ok {t : List UInt8} (h : (parseI t).2 = 0) : textI (parseI t).1.1 (parseI t).1.2.1 ((parseI t).1.2.2 : Nat) = (t, 0) := by
  revert h
  rw [parseI]
  split
  · intro h; cases h
  · split
    · rename_i h; exact fun _ => h.2
    · intro h; cases h

structure Ev where
  room : List UInt8
  sender : List UInt8
  kind : Nat
  key : List UInt8
  body : List UInt8
  nonce : Int

def wordsL : List (List UInt8) := [[], [99, 114, 101, 97, 116, 101], [109, 101, 109, 98, 101, 114], [112, 111, 119, 101, 114], [114, 117, 108, 101], [110, 97, 109, 101], [109, 101, 115, 115, 97, 103, 101], [114, 101, 100, 97, 99, 116], [104, 97, 110, 100, 111, 118, 101, 114]]
def wordL (k : Nat) : List UInt8 := wordsL.getD k []
def kindFrom (s : List UInt8) : Nat → Nat → Nat
  | 0, _ => 0
  | f + 1, k => if wordL k = s then k else kindFrom s f (k + 1)
def kindW (s : List UInt8) : Nat := kindFrom s 8 1
def keyB (k : Nat) (key : List UInt8) : Bool := if k = 2 then (ofI key 1).2 else decide (key = [])
def formB (e : Ev) : Bool := (ofI e.room 2).2 && (ofI e.sender 1).2 && decide (0 < e.kind ∧ e.kind < 9) && keyB e.kind e.key
def sizeB (e : Ev) : Bool := decide (e.body.length ≤ 512) && decide (0 ≤ e.nonce) && decide (e.nonce ≤ 1099511627776)
/-- why an event is not right -/
def checkE (e : Ev) : Nat := if formB e = true ∧ sizeB e = true then 0 else 2
def textsE (e : Ev) : List (List UInt8) := [e.room, e.sender, wordL e.kind, e.key, e.body, (numR e.nonce.toNat).1]
/-- an event's bytes -/
def bytesE (e : Ev) : List UInt8 × Nat := if checkE e = 0 then listR (textsE e) else ([], 2)
def zeroE : Ev := ⟨[], [], 0, [], [], 0⟩
def madeE (ls : List (List UInt8)) : Ev := ⟨ls.getD 0 [], ls.getD 1 [], kindW (ls.getD 2 []), ls.getD 3 [], ls.getD 4 [], ((getNum (ls.getD 5 [])).1 : Nat)⟩
/-- the event of bytes -/
def parseE (s : List UInt8) : Ev × Nat :=
  if (allR s).2 ≠ 0 ∨ (allR s).1.length ≠ 6 then (zeroE, 6)
  else if (getNum ((allR s).1.getD 5 [])).2.2 ≠ 0 ∨ (getNum ((allR s).1.getD 5 [])).2.1 < ((allR s).1.getD 5 []).length then (zeroE, 6)
  else if checkE (madeE (allR s).1) ≠ 0 then (zeroE, 6)
  else (madeE (allR s).1, 0)

theorem kindFrom_word (s : List UInt8) : ∀ f k, 0 < k → kindFrom s f k ≠ 0 → wordL (kindFrom s f k) = s
  | 0, _, _ => fun h => absurd rfl h
  | f + 1, k, hk => by
    rw [kindFrom]
    split
    · rename_i h; exact fun _ => h
    · exact kindFrom_word s f (k + 1) (by omega)

theorem check_parts {e : Ev} (h : checkE e = 0) : (ofI e.room 2).2 = true ∧ (ofI e.sender 1).2 = true ∧ (0 < e.kind ∧ e.kind < 9) ∧ keyB e.kind e.key = true ∧ e.body.length ≤ 512 ∧ 0 ≤ e.nonce ∧ e.nonce ≤ 1099511627776 := by
  have h2 : formB e = true ∧ sizeB e = true := by
    by_cases h3 : formB e = true ∧ sizeB e = true
    · exact h3
    · rw [checkE, if_neg h3] at h; cases h
  obtain ⟨h3, h4⟩ := h2
  simp only [formB, sizeB, Bool.and_eq_true, decide_eq_true_eq] at h3 h4
  exact ⟨h3.1.1.1, h3.1.1.2, h3.1.2, h3.2, h4.1.1, h4.1.2, h4.2⟩

theorem ofI_ok {t : List UInt8} {k : Nat} (h : (ofI t k).2 = true) : (parseI t).2 = 0 ∧ (parseI t).1.1 = k ∧ (ofI t k).1 = (parseI t).1.2.2 := by
  rw [ofI] at h ⊢
  by_cases h2 : (parseI t).2 = 0 ∧ (parseI t).1.1 = k
  · rw [if_pos h2]; exact ⟨h2.1, h2.2, rfl⟩
  · rw [if_neg h2] at h; cases h

theorem check_zero : checkE zeroE = 2 := by
  have h : (ofI zeroE.room 2).2 = false := by rfl
  rw [checkE, if_neg]
  intro h2
  have h3 := h2.1
  rw [formB, h] at h3
  cases h3

theorem parseE_cases (s : List UInt8) : parseE s = (zeroE, 6) ∨ ((parseE s).2 = 0 ∧ checkE (parseE s).1 = 0 ∧ listR (textsE (parseE s).1) = (s, 0)) := by
  rw [parseE]
  split
  · exact .inl rfl
  · split
    · exact .inl rfl
    · split
      · exact .inl rfl
      · rename_i h1 h2 h3
        refine .inr ⟨rfl, by simpa using h3, ?_⟩
        have hc : checkE (madeE (allR s).1) = 0 := by simpa using h3
        have ha : (allR s).2 = 0 ∧ (allR s).1.length = 6 := ⟨Decidable.byContradiction fun h => h1 (.inl h), Decidable.byContradiction fun h => h1 (.inr h)⟩
        have hl : listR (allR s).1 = (s, 0) := by
          have hall := ha.1
          rw [allR] at hall ⊢
          split at hall
          · rename_i h; exact absurd hall h
          · rename_i hg
            split at hall
            · cases hall
            · rename_i hlen
              rw [if_neg hg, if_neg hlen]
              have hg0 : (getList s).2.2 = 0 := by simpa using hg
              have hp := put_getList s (getList s).1 (getList s).2.1 (by rw [← hg0])
              rw [hp, List.take_of_length_le (by omega)]
        generalize (allR s).1 = ls at *
        obtain ⟨l0, l1, l2, l3, l4, l5, rfl⟩ : ∃ a b c d e f, ls = [a, b, c, d, e, f] := by
          match ls, ha.2 with
          | [a, b, c, d, e, f], _ => exact ⟨a, b, c, d, e, f, rfl⟩
        obtain ⟨-, -, hk, -, -, -, -⟩ := check_parts hc
        have hw : wordL (kindW l2) = l2 := kindFrom_word l2 8 1 (by omega) (by have : 0 < kindW l2 := hk.1; unfold kindW at this; omega)
        have hg : (getNum l5).2.2 = 0 ∧ ¬ (getNum l5).2.1 < l5.length := ⟨Decidable.byContradiction fun h => h2 (.inl h), fun h => h2 (.inr h)⟩
        have hn : (numR (getNum l5).1).1 = l5 := by
          obtain ⟨n, u, e, hgn, h0, -⟩ := getNum_spec l5
          rw [hgn] at hg ⊢
          have he : e = 0 := hg.1
          subst he
          have hp := put_getNum l5 n u hgn
          rw [numR, if_pos (h0 rfl).1]
          show putL n = l5
          rw [hp, List.take_of_length_le (by have h9 : ¬ u < l5.length := hg.2; omega)]
        have : textsE (madeE [l0, l1, l2, l3, l4, l5]) = [l0, l1, l2, l3, l4, l5] := by
          show [l0, l1, wordL (kindW l2), l3, l4, (numR ((getNum l5).1 : Int).toNat).1] = _
          rw [hw, show ((getNum l5).1 : Int).toNat = (getNum l5).1 by omega, hn]
        show listR (textsE (madeE [l0, l1, l2, l3, l4, l5])) = (s, 0)
        rw [this]
        exact hl

theorem listR_inj {A B : List (List UInt8)} {s : List UInt8} (h1 : listR A = (s, 0)) (h2 : listR B = (s, 0)) : A = B := by
  have g1 := getList_put A s [] h1
  have g2 := getList_put B s [] h2
  rw [g1] at g2
  exact (Prod.mk.injEq _ _ _ _ ▸ g2).1

theorem numR_inj {a b : Nat} (ha : a ≤ 281474976710656) (hb : b ≤ 281474976710656) (h : (numR a).1 = (numR b).1) : a = b := by
  rw [numR, if_pos ha, numR, if_pos hb] at h
  have g1 := getNum_put a ha []
  have g2 := getNum_put b hb []
  have h' : putL a = putL b := h
  rw [h', g2] at g1
  exact ((Prod.mk.injEq _ _ _ _ ▸ g1).1).symm

/-- what is read, with another number, has other bytes -/
theorem other_bytes (e : Ev) (s t : List UInt8) (nonce : Int) (he : checkE e = 0) (hs : listR (textsE e) = (s, 0)) (ht : bytesE { e with nonce := nonce } = (t, 0)) : (t = s) ↔ (nonce = e.nonce) := by
  have hc : checkE { e with nonce := nonce } = 0 := by
    by_cases h : checkE { e with nonce := nonce } = 0
    · exact h
    · rw [bytesE, if_neg h] at ht; cases ht
  rw [bytesE, if_pos hc] at ht
  obtain ⟨-, -, -, -, -, a1, a2⟩ := check_parts he
  obtain ⟨-, -, -, -, -, b1, b2⟩ := check_parts hc
  change 0 ≤ nonce at b1
  change nonce ≤ _ at b2
  constructor
  · rintro rfl
    have h := listR_inj ht hs
    simp only [textsE, List.cons.injEq, and_true, true_and] at h
    have := numR_inj (by omega) (by omega) h
    omega
  · rintro rfl
    rw [show ({ e with nonce := e.nonce } : Ev) = e from rfl, hs] at ht
    exact (Prod.mk.injEq _ _ _ _ ▸ ht).1.symm
end Named
end Go.Proofs.YtbgjoefpnjgdkaaDoor
