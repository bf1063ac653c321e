/- What ident calls: a byte of a name, a name, a kind's sign, a text cut at its colon, a small number's digits. -/
import Derived.Test.YtbgjoefpnjgdkaaDoorNamedPlain
import Derived.Test.YtbgjoefpnjgdkaaDoorBagMore
import Derived.Shelf.Strings.Search1
namespace Go.Proofs.YtbgjoefpnjgdkaaDoor
open Go.RowKit
set_option linter.unusedVariables false
set_option linter.unusedSimpArgs false
set_option maxRecDepth 100000
namespace Named

theorem letter_any (c : UInt8) (w : World) : Calls Tryd.prog 114 #[.int .u8 (c.toNat : Int)] w fun e w' => e = .returned (.bool (decide (letterP c))) ∧ w = w' := by
  have hc := c.toNat_lt
  have HL : Hid (∀ b : Bool, (b = true ↔ letterP c) → Ending.returned (.bool b) = .returned (.bool (decide (letterP c)))) := Lib.hid fun b h => by
    by_cases hp : letterP c
    · rw [decide_eq_true hp, h.2 hp]
    · rw [decide_eq_false hp]; cases b with
      | false => rfl
      | true => exact absurd (h.1 rfl) hp
  have HP : Hid (letterP c ↔ ((97 ≤ c.toNat ∧ c.toNat ≤ 122) ∨ (48 ≤ c.toNat ∧ c.toNat ≤ 57) ∨ c.toNat = 95 ∨ c.toNat = 45)) := Lib.hid Iff.rfl
  by_cases h1 : 97 ≤ c.toNat
  · by_cases h2 : c.toNat ≤ 122
    · go_enter Tryd.func114, Tryd.ntmps114
      go_wp2
      go_ret
      exact ⟨HL.out true ⟨fun _ => HP.out.2 (by omega), fun _ => rfl⟩, rfl⟩
    · have h4 : ¬ (c.toNat : Int) = 95 := by omega
      have h5 : ¬ (c.toNat : Int) = 45 := by omega
      go_enter Tryd.func114, Tryd.ntmps114
      go_wp2
      go_ret
      exact ⟨HL.out false ⟨(fun h => by cases h), fun h => by have := HP.out.1 h; omega⟩, rfl⟩
  · by_cases h2 : 48 ≤ c.toNat
    · by_cases h3 : c.toNat ≤ 57
      · go_enter Tryd.func114, Tryd.ntmps114
        go_wp2
        go_ret
        exact ⟨HL.out true ⟨fun _ => HP.out.2 (by omega), fun _ => rfl⟩, rfl⟩
      · by_cases h4 : (c.toNat : Int) = 95
        · have h6 : Hid ((c.toNat : Int) = 95) := Lib.hid h4
          go_enter Tryd.func114, Tryd.ntmps114
          go_wp2
          go_ret
          exact ⟨HL.out true ⟨fun _ => HP.out.2 (by have := h6.out; omega), fun _ => rfl⟩, rfl⟩
        · have h5 : ¬ (c.toNat : Int) = 45 := by omega
          go_enter Tryd.func114, Tryd.ntmps114
          go_wp2
          go_ret
          exact ⟨HL.out false ⟨(fun h => by cases h), fun h => by have := HP.out.1 h; omega⟩, rfl⟩
    · by_cases h4 : (c.toNat : Int) = 45
      · have h6 : Hid ((c.toNat : Int) = 45) := Lib.hid h4
        go_enter Tryd.func114, Tryd.ntmps114
        go_wp2
        go_ret
        exact ⟨HL.out true ⟨fun _ => HP.out.2 (by have := h6.out; omega), fun _ => rfl⟩, rfl⟩
      · have h5 : ¬ (c.toNat : Int) = 95 := by omega
        go_enter Tryd.func114, Tryd.ntmps114
        go_wp2
        go_ret
        exact ⟨HL.out false ⟨(fun h => by cases h), fun h => by have := HP.out.1 h; omega⟩, rfl⟩

theorem nameB_drop (s : List UInt8) (k : Nat) (h : k < s.length) (hn : ¬ letterP s[k]) : nameB s = false := by
  rw [nameB]
  have : s.all (fun c => decide (letterP c)) = false := by
    rw [List.all_eq_false]
    exact ⟨s[k], List.getElem_mem h, by simpa using hn⟩
  rw [this]; rfl

theorem nameB_all (s : List UInt8) (h : ∀ j (hj : j < s.length), letterP s[j]) : nameB s = (decide (s ≠ []) && decide (s.length ≤ 16)) := by
  rw [nameB]
  have : s.all (fun c => decide (letterP c)) = true := by
    rw [List.all_eq_true]
    intro c hc
    obtain ⟨j, hj, rfl⟩ := List.getElem_of_mem hc
    simpa using h j hj
  rw [this, Bool.true_and]

theorem name_any (s : List UInt8) (hs : s.length ≤ maxLen) (w : World) : Calls Tryd.prog 70 #[.string ⟨s.toArray⟩] w fun e w' => e = .returned (.bool (nameB s)) ∧ w = w' := by
  have HL := Lib.hid hs
  have hz : (ByteArray.mk s.toArray).size = s.length := by simp [ByteArray.size]
  clear hs
  go_enter Tryd.func70, Tryd.ntmps70
  go_wp2
  go_loop [6] (fun i => ∃ k : Nat, i = .int .i64 (k : Int) ∧ k ≤ s.length ∧ Hid (∀ j (hj : j < s.length), j < k → letterP s[j])) (fun i => s.length - (intOf i).toNat)
  case atStart => exact ⟨0, rfl, by omega, Lib.hid (fun j _ h => absurd h (by omega))⟩
  case round =>
    obtain ⟨k, rfl, hk, HA⟩ := hrel
    by_cases hkl : k < s.length
    · have hki : (k : Int) < (s.length : Int) := by omega
      obtain ⟨c, hc⟩ : ∃ c, s[k]'hkl = c := ⟨_, rfl⟩
      have hck : ∀ h, (⟨s.toArray⟩ : ByteArray)[k]'h = c := fun _ => hc
      have hbig : (k : Int) + 1 ≤ 9223372036854775807 := by have := HL.out; unfold maxLen at this; omega
      by_cases hl : letterP c
      · have hd := decide_eq_true hl
        go_wp2_with (go_at_call 114; refine (letter_any c _).mono ?_; rintro e w' ⟨rfl, rfl⟩; rw [hd])
        refine ⟨⟨k + 1, rfl, by omega, Lib.hid fun j hj hjk => ?_⟩, by simp [intOf]; omega⟩
        by_cases hjk' : j = k
        · subst hjk'; rw [hc]; exact hl
        · exact HA.out j hj (by omega)
      · have hd := decide_eq_false hl
        have HN := Lib.hid (nameB_drop s k hkl (by rw [hc]; exact hl))
        go_wp2_with (go_at_call 114; refine (letter_any c _).mono ?_; rintro e w' ⟨rfl, rfl⟩; rw [hd])
        go_ret
        exact ⟨Eq.trans (b := Ending.returned (.bool false)) rfl (by rw [HN.out]), rfl⟩
    · have hke : k = s.length := by omega
      subst hke
      have HN := Lib.hid (nameB_all s fun j hj => HA.out j hj hj)
      clear HA
      by_cases h0 : s = []
      · subst h0
        go_wp2
        go_ret
        exact ⟨Eq.trans (b := Ending.returned (.bool false)) rfl (by rw [HN.out]; rfl), rfl⟩
      · have he : s.isEmpty = false := by cases s with
          | nil => exact absurd rfl h0
          | cons => rfl
        have h1 : ¬ (ByteArray.mk s.toArray) = ⟨#[]⟩ := fun h => h0 (by
          have := congrArg (fun b : ByteArray => b.data.toList) h
          simpa using this)
        by_cases h16 : s.length ≤ 16
        · have h16i : (s.length : Int) ≤ 16 := by omega
          have HV := Lib.hid (show (decide (s ≠ []) && decide (s.length ≤ 16)) = true by simp [h0, h16])
          go_wp2
          go_ret
          exact ⟨Eq.trans (b := Ending.returned (.bool true)) rfl (by rw [HN.out, HV.out]), rfl⟩
        · have h16i : ¬ (s.length : Int) ≤ 16 := by omega
          have HV := Lib.hid (show (decide (s ≠ []) && decide (s.length ≤ 16)) = false by simp [h16])
          go_wp2
          go_ret
          exact ⟨Eq.trans (b := Ending.returned (.bool false)) rfl (by rw [HN.out, HV.out]), rfl⟩
end Named
end Go.Proofs.YtbgjoefpnjgdkaaDoor
