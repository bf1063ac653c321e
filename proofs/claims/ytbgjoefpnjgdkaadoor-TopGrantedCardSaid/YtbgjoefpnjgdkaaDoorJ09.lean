/- Joined of 2 texts: their lemmas, one behind the other; each says below what it holds. -/
import Derived.Test.YtbgjoefpnjgdkaaDoorJ08
import Derived.Lib.AppendStr
import Derived.Deep.DeepMust
/- The walks of GetText and Text, the program's and the document's. -/
namespace Go.Proofs.YtbgjoefpnjgdkaaDoor
open Go.RowKit
set_option linter.unusedVariables false
set_option linter.unusedSimpArgs false
set_option maxRecDepth 4000
namespace Oct

theorem gn_spec (f : Nat) : ∀ (i acc : Nat) (l : List UInt8), ((gn f i acc l).2.2 = 0 → (gn f i acc l).1 ≤ 281474976710656 ∧ i < (gn f i acc l).2.1 ∧ (gn f i acc l).2.1 ≤ i + f ∧ (gn f i acc l).2.1 ≤ i + l.length) ∧ ((gn f i acc l).2.2 ≠ 0 → (gn f i acc l).1 = 0 ∧ (gn f i acc l).2.1 = 0 ∧ ((gn f i acc l).2.2 = 5 ∨ (gn f i acc l).2.2 = 6)) := by
  induction f with
  | zero => intro i acc l; simp [gn]
  | succ f ih =>
    intro i acc l
    cases l with
    | nil => simp [gn]
    | cons b t =>
      rw [gn]
      split
      · have h := ih (i + 1) (acc + b.toNat % 128 * 128 ^ i) t
        generalize gn f (i + 1) (acc + b.toNat % 128 * 128 ^ i) t = g at h
        refine ⟨fun h0 => ?_, fun h0 => h.2 h0⟩
        have := h.1 h0
        simp; omega
      · split
        · simp
        · simp; omega

theorem getNum_spec (l : List UInt8) : ∃ n u e, getNum l = (n, u, e) ∧ (e = 0 → n ≤ 281474976710656 ∧ 0 < u ∧ u ≤ 7 ∧ u ≤ l.length) ∧ (e ≠ 0 → n = 0 ∧ u = 0 ∧ (e = 5 ∨ e = 6)) := by
  have h := gn_spec 7 0 0 l
  refine ⟨(getNum l).1, (getNum l).2.1, (getNum l).2.2, rfl, fun h0 => ?_, fun h0 => h.2 h0⟩
  have := h.1 h0
  simp only [getNum]
  omega

/-- the text that bytes begin with: the text, how many bytes, and why not -/
def getText (l : List UInt8) : List UInt8 × Nat × Nat :=
  if (getNum l).2.2 ≠ 0 then ([], 0, (getNum l).2.2)
  else if 8192 < (getNum l).1 then ([], 0, 7)
  else if l.length < (getNum l).2.1 + (getNum l).1 then ([], 0, 5)
  else ((l.drop (getNum l).2.1).take (getNum l).1, (getNum l).2.1 + (getNum l).1, 0)

theorem ext_take (l : List UInt8) (u n : Nat) : (⟨l.toArray⟩ : ByteArray).extract u (u + n) = ⟨((l.drop u).take n).toArray⟩ := by
  refine ByteArray.ext ?_
  rw [← Array.toList_inj]
  simp

set_option maxHeartbeats 1000000 in
theorem getText_any (l : List UInt8) (hl : l.length ≤ maxLen) (w : World) :
    Calls Tryd.prog 131 #[.string ⟨l.toArray⟩] w fun e w' => e = .returned (.tuple #[.string ⟨(getText l).1.toArray⟩, .int .i64 ((getText l).2.1 : Int), .int .i64 ((getText l).2.2 : Int)]) ∧ w = w' := by
  obtain ⟨n, u, e, hg, h0, h1⟩ := getNum_spec l
  have HL := Lib.hid hl
  clear hl
  have hc := fun w => getNum_any l w
  rw [hg] at hc
  have HT : Hid (getText l = if e ≠ 0 then ([], 0, e) else if 8192 < n then ([], 0, 7) else if l.length < u + n then ([], 0, 5) else ((l.drop u).take n, u + n, 0)) := by
    refine Lib.hid ?_
    rw [getText, hg]
  go_enter Tryd.func131, Tryd.ntmps131
  go_wp2_with fail
  refine (hc _).mono ?_
  rintro e1 w1 ⟨rfl, rfl⟩
  clear hc hg
  have ht := HT.out
  by_cases he : e = 0
  · subst he
    have h0' := h0 rfl
    have HN : Hid (n ≤ 281474976710656) := Lib.hid h0'.1
    obtain ⟨-, hu0, hu7, hul⟩ := h0'
    clear h0 h1
    rw [if_neg (by simp)] at ht
    by_cases hn : 8192 < n
    · rw [if_pos hn] at ht
      have HT := Lib.hid ht
      clear ht
      have hni : (8192 : Int) < (n : Int) := by omega
      go_wp2
      go_ret3
      rw [HT.out]; exact ⟨rfl, rfl⟩
    · rw [if_neg hn] at ht
      have hni : (n : Int) ≤ 8192 := by omega
      by_cases hs : l.length < u + n
      · rw [if_pos hs] at ht
        have HT := Lib.hid ht
        clear ht
        have hsi : (l.length : Int) - (u : Int) < (n : Int) := by omega
        go_wp2
        go_ret3
        rw [HT.out]; exact ⟨rfl, rfl⟩
      · rw [if_neg hs] at ht
        have HT := Lib.hid ht
        clear ht
        have hsi : decide ((l.length : Int) - (u : Int) < (n : Int)) = false := decide_eq_false (by omega)
        have hs1 : (0 : Int) ≤ (u : Int) := by omega
        have hs2 : (u : Int) ≤ (u : Int) + (n : Int) := by omega
        have hs3 : (u : Int) + (n : Int) ≤ (l.length : Int) := by omega
        obtain ⟨d, hd⟩ : ∃ d, l.length = u + d := ⟨l.length - u, by omega⟩
        have hlm : (l.length : Int) ≤ 9223372036854775807 := by have := HL.out; unfold maxLen at this; omega
        have hw1 : wrap64 ((l.length : Int) - (u : Int)) = (d : Int) := by unfold wrap64; omega
        have hw2 : IntKind.u64.wrap (d : Int) = (d : Int) := by rw [IntKind.wrap_u64]; omega
        have hdn : decide (d < n) = false := decide_eq_false (by omega)
        clear hsi hlm hd
        go_wp2
        go_ret3
        rw [HT.out]; exact ⟨by rw [← ext_take]; rfl, rfl⟩
  · rw [if_pos he] at ht
    have HT := Lib.hid ht
    clear ht
    have hei : ¬ (e : Int) = 0 := by omega
    go_wp2
    go_ret3
    rw [HT.out]; exact ⟨rfl, rfl⟩

/-- a text's bytes -/
def textL (t : List UInt8) : List UInt8 := putL t.length ++ t

theorem strCells_list (t : List UInt8) : Lib.strCells ⟨t.toArray⟩ = bytesV t := by
  simp [Lib.strCells, bytesV]

end Oct
end Go.Proofs.YtbgjoefpnjgdkaaDoor
/- The walks of List, the program's and the document's. -/
namespace Go.Proofs.YtbgjoefpnjgdkaaDoor
open Go.RowKit
set_option linter.unusedVariables false
set_option linter.unusedSimpArgs false
set_option maxRecDepth 4000
namespace Oct

/-- a row of strings that can be read -/
def StrRow (w : World) (v : Value) (ls : List (List UInt8)) : Prop :=
  (∃ p cap, v = .slice p 0 cap ∧ ls = []) ∨ ∃ b o cap, v = .slice (some ⟨b, o, none⟩) ls.length cap ∧ b < w.heap.size ∧ ∀ (j : Nat) (hj : j < ls.length), w.cell? ⟨b, o + j, none⟩ = some (.string ⟨(ls[j]).toArray⟩)

theorem StrRow.below {w w' : World} {v : Value} {ls : List (List UInt8)} {n : Nat} (h : StrRow w v ls) (hn : n = w.heap.size) (hb : Below n w w') : StrRow w' v ls := by
  subst hn
  rcases h with h | ⟨b, o, cap, h1, h2, h3⟩
  · exact .inl h
  · refine .inr ⟨b, o, cap, h1, by have := hb.size; omega, fun j hj => ?_⟩
    rw [← h3 j hj]
    exact hb.cell (p := ⟨b, o + j, none⟩) h2

def listR (ls : List (List UInt8)) : List UInt8 × Nat :=
  if 256 < ls.length then ([], 7) else if ∃ t ∈ ls, 8192 < t.length then ([], 7) else (putL ls.length ++ ls.flatMap textL, 0)

set_option maxHeartbeats 1000000 in
theorem list_some (b o cap : Nat) (ls : List (List UInt8)) (w : World) (hb : b < w.heap.size) (hc : ∀ (j : Nat) (hj : j < ls.length), w.cell? ⟨b, o + j, none⟩ = some (.string ⟨(ls[j]).toArray⟩)) (h256 : ls.length ≤ 256) :
    Calls Tryd.prog 10 #[.slice (some ⟨b, o, none⟩) ls.length cap] w fun e w' => e = .returned (.tuple #[.string ⟨(listR ls).1.toArray⟩, .int .i64 ((listR ls).2 : Int)]) ∧ Below w.heap.size w w' := by
  obtain ⟨i0, hi, hz0, hz1, hz2⟩ := info_parts info_u8
  have h256i : (ls.length : Int) ≤ 256 := by omega
  go_enter Tryd.func10, Tryd.ntmps10
  go_wp2_with fail
  refine (put_any w.heap.size _ [] ls.length (by omega) _ (Own.nil _ _) (Nat.le_refl _) (by simp)).mono ?_
  rintro e w1 ⟨v, rfl, hv, hbw⟩
  rw [List.nil_append] at hv
  have HV := Lib.hid hv
  clear hv
  have hsz1 := hbw.size
  go_wp2
  go_loopw [4, 16] (fun v i wr => ∃ (k : Nat) (ys : List UInt8), k ≤ ls.length ∧ i = .int .i64 (k : Int) ∧ Hid (ys = putL ls.length ++ (ls.take k).flatMap textL) ∧ Hid (∀ t ∈ ls.take k, ¬ 8192 < t.length) ∧ ys.length ≤ 11 + k * 8203 ∧ Hid (Own w.heap.size wr v ys) ∧ Below w.heap.size w wr)
    (fun _ i _ => ls.length - (intOf i).toNat)
  case atStart => exact ⟨0, putL ls.length, by omega, rfl, Lib.hid (by simp), Lib.hid (by simp), by have := putL_length ls.length; omega, HV, hbw⟩
  case round =>
    obtain ⟨k, ys, hk, rfl, HY, HA, hyl, HO, hbr⟩ := hrel
    clear HV hbw hsz1
    have hsz := hbr.size
    by_cases hkl : k < ls.length
    · have hkli : (k : Int) < (ls.length : Int) := by omega
      obtain ⟨t, ht⟩ : ∃ t, ls[k]'hkl = t := ⟨_, rfl⟩
      have hck : wr.cell? ⟨b, o + k, none⟩ = some (.string ⟨t.toArray⟩) := by rw [← ht, ← hc k hkl]; exact hbr.cell (p := ⟨b, o + k, none⟩) hb
      have HT := Lib.hid (show ls.take (k + 1) = ls.take k ++ [t] by rw [← ht]; exact List.take_succ_eq_append_getElem hkl)
      have HM := Lib.hid (show t ∈ ls by rw [← ht]; exact List.getElem_mem hkl)
      by_cases h8 : 8192 < t.length
      · have h8i : (8192 : Int) < (t.length : Int) := by omega
        have HR : Hid (listR ls = ([], 7)) := by
          refine Lib.hid ?_
          rw [listR, if_neg (by omega), if_pos ⟨t, HM.out, h8⟩]
        go_wp2
        go_ret2
        rw [HR.out]
        exact ⟨rfl, hbr⟩
      · have h8i : (t.length : Int) ≤ 8192 := by omega
        go_wp2_with fail
        refine (put_any w.heap.size _ ys t.length (by omega) _ HO.out hsz (by omega)).mono ?_
        rintro e w2 ⟨v2, rfl, hv2, hbw2⟩
        have hown := hv2
        unfold Own at hown
        have hb2 := hbr.trans hbw2
        have hbs := hb2.size
        have hpl := putL_length t.length
        have hlen : (ys ++ putL t.length).length ≤ 22 + k * 8203 := by simp; omega
        have hszt : (⟨t.toArray⟩ : ByteArray).size = t.length := by simp [ByteArray.size]
        go_wp2_with (at_builtin; go_must (refine Lib.wpList_append_own_string _ rfl (.tmp 27) (.tmp 28) _ _ rfl w.heap.size 5 i0 Tryd.underlying96 Tryd.underlying9 hi hz0 hz1 hz2 _ _ _ rfl hown ⟨t.toArray⟩ rfl (by rw [hszt]; unfold maxLen; omega) (by rw [hszt]; omega) hbs ?_; intro v' w3 hown' hgrow _))
        have hO3 : Own w.heap.size w3 v' (ys ++ putL t.length ++ t) := by
          unfold Own
          rw [strCells_list, ← bytesV_append, hszt] at hown'
          rw [List.length_append (bs := t)]
          exact hown'
        go_roundw
        case rel =>
          refine ⟨k + 1, ys ++ putL t.length ++ t, by omega, rfl, Lib.hid ?_, Lib.hid ?_, by simp at hlen ⊢; omega, hO3, hb2.grown hgrow hbs (fun k hk => (hown.lt k hk).1)⟩
          · rw [HT.out, HY.out, List.flatMap_append]
            simp [textL]
          · intro x hx
            rw [HT.out] at hx
            rcases List.mem_append.1 hx with h | h
            · exact HA.out x h
            · rw [List.mem_singleton] at h; rw [h]; exact h8
        case measure => simp [intOf]; omega
    · have hkl' : k = ls.length := by omega
      subst hkl'
      have hcv := HO.out.conv
      have HR : Hid (listR ls = (ys, 0)) := by
        refine Lib.hid ?_
        have hA := HA.out
        rw [List.take_length] at hA
        rw [listR, if_neg (by omega), if_neg (fun ⟨t, h1, h2⟩ => hA t h1 h2), HY.out, List.take_length]
      go_wp2
      go_ret2
      rw [HR.out]
      exact ⟨rfl, hbr⟩

set_option maxHeartbeats 1000000 in
theorem list_none (p : Option Addr) (cap : Nat) (w : World) :
    Calls Tryd.prog 10 #[.slice p 0 cap] w fun e w' => e = .returned (.tuple #[.string ⟨(listR []).1.toArray⟩, .int .i64 ((listR []).2 : Int)]) ∧ Below w.heap.size w w' := by
  have HR : Hid (listR [] = (putL 0, 0)) := by refine Lib.hid ?_; simp [listR]
  go_enter Tryd.func10, Tryd.ntmps10
  go_wp2_with fail
  refine (put_any w.heap.size _ [] 0 (by omega) _ (Own.nil _ _) (Nat.le_refl _) (by simp)).mono ?_
  rintro e w1 ⟨v, rfl, hv, hbw⟩
  rw [List.nil_append] at hv
  have HV := Lib.hid hv
  have hcv := hv.conv
  clear hv
  go_wp2
  go_loop [4, 16] (fun b i => b = v ∧ i = .int .i64 0) (fun _ _ => 0)
  case atStart => exact ⟨rfl, rfl⟩
  case round =>
    obtain ⟨rfl, rfl⟩ := hrel
    go_wp2
    go_ret2
    rw [HR.out]
    exact ⟨rfl, hbw⟩

theorem list_bad (p : Option Addr) (n cap : Nat) (hn : 256 < n) (w : World) :
    Calls Tryd.prog 10 #[.slice p n cap] w fun e w' => e = .returned (.tuple #[.string ⟨#[]⟩, .int .i64 7]) ∧ w = w' := by
  have hni : (256 : Int) < (n : Int) := by omega
  go_enter Tryd.func10, Tryd.ntmps10
  go_wp2_with fail
  go_ret2
  exact ⟨rfl, rfl⟩

theorem list_any (v : Value) (ls : List (List UInt8)) (w : World) (h : StrRow w v ls) :
    Calls Tryd.prog 10 #[v] w fun e w' => e = .returned (.tuple #[.string ⟨(listR ls).1.toArray⟩, .int .i64 ((listR ls).2 : Int)]) ∧ Below w.heap.size w w' := by
  rcases h with ⟨p, cap, rfl, rfl⟩ | ⟨b, o, cap, rfl, h2, h3⟩
  · exact list_none p cap w
  · by_cases h256 : ls.length ≤ 256
    · exact list_some b o cap ls w h2 h3 h256
    · refine (list_bad _ _ _ (by omega) w).mono ?_
      rintro e w' ⟨rfl, rfl⟩
      rw [listR, if_pos (by omega)]
      exact ⟨rfl, Below.refl _ _⟩

end Oct
end Go.Proofs.YtbgjoefpnjgdkaaDoor
