/- Plain laws for TopKept: what the last entry leaves. -/
import Derived.Test.YtjfibmlpjcncmaaStoKeepPlain
namespace Go.Proofs.Ytjfibmlpjcncmaa
open Go.RowKit
set_option linter.unusedVariables false
namespace Sto
open Oct Crc Disk Jrn

theorem entR_err (t : List UInt8) : (entR t).2 = 0 ∨ (entR t).2 = 7 := by
  unfold entR listR
  split
  · exact .inr rfl
  · split
    · exact .inr rfl
    · exact .inl rfl

/-- an entry is put, or the disk is as it was, for one of two reasons -/
theorem ent_ways (l : List UInt8) (S R : Int) (hr : rightB ⟨l.toArray⟩ S R = true) (t : List UInt8) :
    (EntOk t ∧ (l.length : Int) + ((recB (entR t).1).length : Int) ≤ R ∧ recR ⟨l.toArray⟩ S R (entR t) = ⟨⟨(l ++ recB (entR t).1).toArray⟩, S, R, 0⟩) ∨ recR ⟨l.toArray⟩ S R (entR t) = ⟨⟨l.toArray⟩, S, R, 7⟩ ∨ recR ⟨l.toArray⟩ S R (entR t) = ⟨⟨l.toArray⟩, S, R, 8⟩ := by
  unfold recR
  rcases entR_err t with h2 | h2
  · rw [if_neg (by simpa using h2)]
    by_cases ht : (entR t).1.length ≤ 8192
    · by_cases hl : (l.length : Int) + ((recB (entR t).1).length : Int) ≤ R
      · exact .inl ⟨⟨h2, ht⟩, hl, add_ok l _ S R hr ht hl⟩
      · exact .inr (.inr (by rw [addR, if_pos hr, if_pos ht, writeR, if_pos hr, if_neg (by simp [ByteArray.size]; omega)]))
    · exact .inr (.inl (by rw [addR, if_pos hr, if_neg ht]))
  · rw [if_pos (by omega), h2]
    exact .inr (.inl rfl)

/-- behind a sync the last entry: it is there, or not -/
theorem tail_ways (rs : List (List UInt8)) (r : Nat) (es : List (List UInt8)) (m k c : Nat) (h : Told rs r es m k c) (room : Int) (hf : ((recsB rs).length : Int) ≤ room) (hri : room ≤ 1048576) (t : List UInt8)
    (hR : rightB ⟨(recsB rs).toArray⟩ ((recsB rs).length : Int) room = true) :
    ∃ (rs2 es2 : List (List UInt8)) (er : Int), recR ⟨(recsB rs).toArray⟩ ((recsB rs).length : Int) room (entR t) = ⟨⟨(recsB rs2).toArray⟩, ((recsB (rs2.take rs.length)).length : Int), room, er⟩ ∧
      (er = 0 ∨ er = 7 ∨ er = 8) ∧ Told rs2 rs.length es2 m es.length m ∧ (es2 = es ∨ es2 = es ++ [t]) ∧ ((recsB rs2).length : Int) ≤ room := by
  rcases ent_ways (recsB rs) ((recsB rs).length : Int) room hR t with ⟨h1, h2, h3⟩ | h3 | h3
  · refine ⟨rs ++ [(entR t).1], es ++ [t], 0, ?_, .inl rfl, h.sync.entry t h1, .inr rfl, ?_⟩
    · rw [h3, ← recsB_append, List.take_append_of_le_length (Nat.le_refl _), List.take_length]
    · rw [recsB_append, List.length_append]; omega
  · exact ⟨rs, es, 7, by rw [h3, List.take_length], .inr (.inl rfl), h.sync, .inl rfl, hf⟩
  · exact ⟨rs, es, 8, by rw [h3, List.take_length], .inr (.inr rfl), h.sync, .inl rfl, hf⟩

theorem anewT_length (es : List (List UInt8)) (c : Nat) : ((anewT es c).length : Int) = (es.length : Int) + min (c : Int) 1 := by
  unfold anewT
  by_cases h : 0 < c
  · rw [if_pos h]; simp; omega
  · rw [if_neg h]; simp; omega

/-- what a server starts again with is what was stored, and perhaps the last entry -/
theorem kept_at {es es2 es' : List (List UInt8)} {t : List UInt8} (h2 : es2 = es ∨ es2 = es ++ [t]) (hl : es.length ≤ es'.length) (hu : es'.length ≤ es2.length) (he : es' = es2.take es'.length) :
    es'.length ≤ es.length + 1 ∧ ∀ (i : Nat) (hi : i < es'.length), (∀ (h : i < es.length), es'[i] = es[i]) ∧ (i = es.length → es'[i] = t) := by
  rcases h2 with rfl | rfl
  · have : es'.length = es2.length := by omega
    rw [this, List.take_length] at he
    subst he
    exact ⟨by omega, fun i hi => ⟨fun _ => rfl, fun h => by omega⟩⟩
  · have hu' : es'.length ≤ es.length + 1 := by simpa using hu
    refine ⟨hu', fun i hi => ?_⟩
    have hg : es'[i]? = ((es ++ [t]).take es'.length)[i]? := by rw [← he]
    rw [List.getElem?_take_of_lt hi, List.getElem?_eq_getElem hi] at hg
    refine ⟨fun h => ?_, fun h => ?_⟩
    · rw [List.getElem?_append_left h, List.getElem?_eq_getElem h] at hg
      exact Option.some.inj hg
    · subst h
      rw [List.getElem?_append_right (Nat.le_refl _)] at hg
      simpa using hg
end Sto
end Go.Proofs.Ytjfibmlpjcncmaa
