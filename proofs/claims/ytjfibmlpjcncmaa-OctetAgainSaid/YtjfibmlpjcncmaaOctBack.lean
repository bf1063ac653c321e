/- The walks of chapter 1's laws OctetBack and OctetAgain. -/
import Derived.Test.YtjfibmlpjcncmaaOctLaws
import Derived.Test.YtjfibmlpjcncmaaOctPlain
import Derived.SizedLaws
namespace Go.Proofs.Ytjfibmlpjcncmaa
open Go.RowKit
set_option linter.unusedVariables false
set_option linter.unusedSimpArgs false
set_option maxRecDepth 4000
namespace Oct

theorem back_num (n : Nat) (m : List UInt8) : ∃ a e x i e2, numR n = (a, e) ∧ getNum (a ++ m) = (x, i, e2) ∧ (e = 0 → x = n ∧ i = a.length ∧ e2 = 0) ∧ a.length ≤ 11 := by
  refine ⟨(numR n).1, (numR n).2, (getNum ((numR n).1 ++ m)).1, (getNum ((numR n).1 ++ m)).2.1, (getNum ((numR n).1 ++ m)).2.2, rfl, rfl, ?_, ?_⟩
  · unfold numR
    by_cases h : n ≤ 281474976710656
    · rw [if_pos h]; intro _; dsimp only; rw [getNum_put n h m]; exact ⟨rfl, rfl, rfl⟩
    · rw [if_neg h]; intro h'; exact absurd h' (by simp)
  · unfold numR
    split
    · exact putL_length n
    · simp

theorem back_text (t m : List UInt8) : ∃ a e x i e2, textR t = (a, e) ∧ getText (a ++ m) = (x, i, e2) ∧ (e = 0 → x = t ∧ i = a.length ∧ e2 = 0) ∧ a.length ≤ 8203 := by
  refine ⟨(textR t).1, (textR t).2, (getText ((textR t).1 ++ m)).1, (getText ((textR t).1 ++ m)).2.1, (getText ((textR t).1 ++ m)).2.2, rfl, rfl, ?_, ?_⟩
  · unfold textR
    by_cases h : t.length ≤ 8192
    · rw [if_pos h]; intro _; dsimp only; rw [getText_put t h m]; exact ⟨rfl, rfl, rfl⟩
    · rw [if_neg h]; intro h'; exact absurd h' (by simp)
  · unfold textR
    split
    · have := putL_length t.length
      rw [textL, List.length_append]; omega
    · simp

theorem flat_length (ls : List (List UInt8)) (h : ∀ t ∈ ls, t.length ≤ 8192) : (ls.flatMap textL).length ≤ 8203 * ls.length := by
  induction ls with
  | nil => simp
  | cons t ls ih =>
    have := ih (fun x hx => h x (by simp [hx]))
    have h1 := h t (by simp)
    have := putL_length t.length
    rw [List.flatMap_cons, List.length_append, List.length_cons, textL, List.length_append]
    omega

theorem listR_length (ls : List (List UInt8)) : (listR ls).1.length ≤ 3000000 := by
  unfold listR
  split
  · simp
  · split
    · simp
    · rename_i h1 h2
      have := flat_length ls (fun t ht => Nat.le_of_not_lt fun hl => h2 ⟨t, ht, hl⟩)
      have := putL_length ls.length
      rw [List.length_append]; omega

theorem back_list (ls : List (List UInt8)) (m : List UInt8) : ∃ a e x i e2, listR ls = (a, e) ∧ getList (a ++ m) = (x, i, e2) ∧ (e = 0 → x = ls ∧ i = a.length ∧ e2 = 0) ∧ a.length ≤ 3000000 ∧ x.length ≤ 256 := by
  refine ⟨(listR ls).1, (listR ls).2, (getList ((listR ls).1 ++ m)).1, (getList ((listR ls).1 ++ m)).2.1, (getList ((listR ls).1 ++ m)).2.2, rfl, rfl, ?_, listR_length ls, getList_length _⟩
  intro h
  have hh := getList_put ls (listR ls).1 m (by rw [← h])
  rw [hh]
  exact ⟨rfl, rfl, rfl⟩

set_option maxHeartbeats 4000000 in
theorem back_walk (n : Nat) (t : List UInt8) (v : Value) (ls : List (List UInt8)) (m : List UInt8) (hm : m.length ≤ 140737488351232) (w : World) (hv : StrRow w v ls) :
    Calls Try.prog 6 #[.int .u64 (n : Int), .string ⟨t.toArray⟩, v, .string ⟨m.toArray⟩] w fun e w' => e = .returned (.bool true) ∧ Below w.heap.size w w' := by
  obtain ⟨a1, e1, x1, i1, f1, hn1, hg1, hk1, hl1⟩ := back_num n m
  obtain ⟨a2, e2, x2, i2, f2, hn2, hg2, hk2, hl2⟩ := back_text t m
  obtain ⟨a3, e3, x3, i3, f3, hn3, hg3, hk3, hl3, h256⟩ := back_list ls m
  have c1 := fun w => num_any n w
  rw [hn1] at c1
  have c2 := fun w => getNum_any (a1 ++ m) w
  rw [hg1] at c2
  have c3 := fun w => text_any t w
  rw [hn2] at c3
  have c4 := fun w => getText_any (a2 ++ m) (by rw [List.length_append]; unfold maxLen; omega) w
  rw [hg2] at c4
  have c5 := list_any v ls
  rw [hn3] at c5
  have c6 := fun w => getList_any (a3 ++ m) (by rw [List.length_append]; unfold maxLen; omega) w
  rw [hg3] at c6
  have b1 := ba_app a1 m
  have b2 := ba_app a2 m
  have b3 := ba_app a3 m
  have H256 := Lib.hid h256
  have j1 : (a1.length : Int) ≤ 11 := by omega
  have j2 : (a2.length : Int) ≤ 8203 := by omega
  have j3 : (a3.length : Int) ≤ 3000000 := by omega
  have jm : (m.length : Int) ≤ 140737488351232 := by omega
  clear hn1 hg1 hl1 hn2 hg2 hl2 hn3 hg3 hl3 hm h256
  go_enter Try.func6, Try.ntmps6
  go_wp2_with fail
  refine (oct_lives _).mono ?_
  rintro e w1 ⟨rfl, B⟩
  have R := hv.below rfl B
  clear hv
  go_wp2_with fail
  refine (c1 _).mono ?_
  rintro e w2 ⟨rfl, hb⟩
  replace R := R.below rfl hb
  replace B := B.trans (hb.mono B.size)
  clear hb
  go_wp2_with fail
  refine (c2 _).mono ?_
  rintro e w3 ⟨rfl, rfl⟩
  go_wp2_with fail
  refine (c3 _).mono ?_
  rintro e w4 ⟨rfl, hb⟩
  replace R := R.below rfl hb
  replace B := B.trans (hb.mono B.size)
  clear hb
  go_wp2_with fail
  refine (c4 _).mono ?_
  rintro e w5 ⟨rfl, rfl⟩
  go_wp2_with fail
  refine (c5 _ R).mono ?_
  rintro e w6 ⟨rfl, hb⟩
  replace R := R.below rfl hb
  replace B := B.trans (hb.mono B.size)
  clear hb
  go_wp2_with fail
  refine (c6 _).mono ?_
  rintro e w7 ⟨z, rfl, o, hb⟩
  replace R := R.below rfl hb
  replace B := B.trans (hb.mono B.size)
  have Z := o.row
  clear hb o c1 c2 c3 c4 c5 c6 b1 b2 b3
  have q1 : (e1 = 0 ∧ x1 = n ∧ i1 = a1.length ∧ f1 = 0) ∨ ¬ (e1 : Int) = 0 := by
    by_cases h : e1 = 0
    · exact .inl ⟨h, hk1 h⟩
    · exact .inr (by omega)
  have q2 : (e2 = 0 ∧ x2 = t ∧ i2 = a2.length ∧ f2 = 0) ∨ ¬ (e2 : Int) = 0 := by
    by_cases h : e2 = 0
    · exact .inl ⟨h, hk2 h⟩
    · exact .inr (by omega)
  have q3 : (e3 = 0 ∧ x3 = ls ∧ i3 = a3.length ∧ f3 = 0) ∨ ¬ (e3 : Int) = 0 := by
    by_cases h : e3 = 0
    · exact .inl ⟨h, hk3 h⟩
    · exact .inr (by omega)
  clear hk1 hk2 hk3
  rcases q3 with ⟨rfl, rfl, rfl, rfl⟩ | q3
  · rcases q1 with ⟨rfl, rfl, rfl, rfl⟩ | q1
    all_goals rcases q2 with ⟨rfl, rfl, rfl, rfl⟩ | q2
    all_goals
      go_wp2_with fail
      refine (same_any z v _ _ _ Z R H256.out).mono ?_
      rintro e w8 ⟨rfl, hb⟩
      replace B := B.trans (hb.mono B.size)
      rw [decide_eq_true rfl]
      clear hb R Z
      go_wp2_with fail
      go_ret
      exact ⟨rfl, B⟩
  · rcases q1 with ⟨rfl, rfl, rfl, rfl⟩ | q1
    all_goals rcases q2 with ⟨rfl, rfl, rfl, rfl⟩ | q2
    all_goals
      go_wp2_with fail
      go_ret
      exact ⟨rfl, B⟩

theorem back_top (a : Int) (wa : (Lit.int .u64 a).wf = true) (s : ByteArray) (ws : s.size ≤ maxLen) (ao : Option Addr) (k cap : Nat) (m : ByteArray) (wm : m.data.toList.length ≤ reachBytes) (W : World) {H : Type} {enc : TypeId × Value → H} {fuel : Nat} {x : DataW H × List MemPlace}
    (h : DataW.trod enc Try.prog W 0 (fun _ => true) true fuel 32 [.slice ao k cap] = some x) :
    Calls Try.prog 6 #[.int .u64 a, .string s, .slice ao k cap, .string m] W fun e w' => e = .returned (.bool true) ∧ Below W.heap.size W w' := by
  obtain ⟨n, rfl, -⟩ := u64_of a wa
  obtain ⟨t, rfl, -⟩ := bytes_of s
  obtain ⟨l, rfl, -⟩ := bytes_of m
  obtain ⟨ls, hr, -⟩ := strs_of ao k cap W h
  exact back_walk n t _ ls l (by simpa [reachBytes] using wm) W hr

theorem again_num (l : List UInt8) : ∃ x i e a e2, getNum l = (x, i, e) ∧ numR x = (a, e2) ∧ (e = 0 → a = l.take i ∧ e2 = 0) ∧ i ≤ l.length := by
  obtain ⟨n, u, e, hg, h0, h1⟩ := getNum_spec l
  refine ⟨n, u, e, (numR n).1, (numR n).2, hg, rfl, ?_, ?_⟩
  · rintro rfl
    rw [numR, if_pos (h0 rfl).1]
    exact ⟨put_getNum l n u hg, rfl⟩
  · by_cases he : e = 0
    · exact (h0 he).2.2.2
    · rw [(h1 he).2.1]; omega

theorem again_text (l : List UInt8) : ∃ x i e a e2, getText l = (x, i, e) ∧ textR x = (a, e2) ∧ (e = 0 → a = l.take i ∧ e2 = 0) ∧ i ≤ l.length := by
  obtain ⟨t, u, e, hg, h0, h1, -⟩ := getText_spec l
  refine ⟨t, u, e, (textR t).1, (textR t).2, hg, rfl, ?_, ?_⟩
  · rintro rfl
    have h := put_getText l t u hg
    rw [textR, if_pos h.1]
    exact ⟨h.2, rfl⟩
  · by_cases he : e = 0
    · exact (h0 he).1
    · rw [(h1 he).1]; omega

theorem again_list (l : List UInt8) : ∃ x i e a e2, getList l = (x, i, e) ∧ listR x = (a, e2) ∧ (e = 0 → a = l.take i ∧ e2 = 0) ∧ i ≤ l.length := by
  obtain ⟨ls, u, e, hg, h0, h1, -⟩ := getList_spec l
  refine ⟨ls, u, e, (listR ls).1, (listR ls).2, hg, rfl, ?_, ?_⟩
  · rintro rfl
    have h := put_getList l ls u hg
    rw [h]
    exact ⟨rfl, rfl⟩
  · by_cases he : e = 0
    · exact h0 he
    · rw [(h1 he).2]; omega

set_option maxHeartbeats 4000000 in
theorem again_walk (l : List UInt8) (hl : l.length ≤ maxLen) (w : World) :
    Calls Try.prog 7 #[.string ⟨l.toArray⟩] w fun e w' => e = .returned (.bool true) ∧ Below w.heap.size w w' := by
  obtain ⟨x1, i1, e1, a1, f1, hg1, hn1, hk1, hi1⟩ := again_num l
  obtain ⟨x2, i2, e2, a2, f2, hg2, hn2, hk2, hi2⟩ := again_text l
  obtain ⟨x3, i3, e3, a3, f3, hg3, hn3, hk3, hi3⟩ := again_list l
  have c1 := fun w => getNum_any l w
  rw [hg1] at c1
  have c2 := fun w => num_any x1 w
  rw [hn1] at c2
  have c3 := fun w => getText_any l hl w
  rw [hg2] at c3
  have c4 := fun w => text_any x2 w
  rw [hn2] at c4
  have c5 := fun w => getList_any l hl w
  rw [hg3] at c5
  have c6 := fun v w h => list_any v x3 w h
  rw [hn3] at c6
  have j1 : (i1 : Int) ≤ (l.length : Int) := by omega
  have j2 : (i2 : Int) ≤ (l.length : Int) := by omega
  have j3 : (i3 : Int) ≤ (l.length : Int) := by omega
  have p1 := cmp_take a1 l i1
  have p2 := cmp_take a2 l i2
  have p3 := cmp_take a3 l i3
  clear hn1 hg1 hn2 hg2 hn3 hg3 hi1 hi2 hi3 hl
  go_enter Try.func7, Try.ntmps7
  go_wp2_with fail
  refine (oct_lives _).mono ?_
  rintro e w1 ⟨rfl, B⟩
  go_wp2_with fail
  refine (c1 _).mono ?_
  rintro e w2 ⟨rfl, rfl⟩
  go_wp2_with fail
  refine (c2 _).mono ?_
  rintro e w3 ⟨rfl, hb⟩
  replace B := B.trans (hb.mono B.size)
  clear hb
  go_wp2_with fail
  refine (c3 _).mono ?_
  rintro e w4 ⟨rfl, rfl⟩
  go_wp2_with fail
  refine (c4 _).mono ?_
  rintro e w5 ⟨rfl, hb⟩
  replace B := B.trans (hb.mono B.size)
  clear hb
  go_wp2_with fail
  refine (c5 _).mono ?_
  rintro e w6 ⟨z, rfl, o, hb⟩
  replace B := B.trans (hb.mono B.size)
  have Z := o.row
  clear hb o
  go_wp2_with fail
  refine (c6 _ _ Z).mono ?_
  rintro e w7 ⟨rfl, hb⟩
  replace B := B.trans (hb.mono B.size)
  clear hb Z c1 c2 c3 c4 c5 c6
  have q1 : (e1 = 0 ∧ a1 = l.take i1 ∧ f1 = 0) ∨ ¬ (e1 : Int) = 0 := by
    by_cases h : e1 = 0
    · exact .inl ⟨h, hk1 h⟩
    · exact .inr (by omega)
  have q2 : (e2 = 0 ∧ a2 = l.take i2 ∧ f2 = 0) ∨ ¬ (e2 : Int) = 0 := by
    by_cases h : e2 = 0
    · exact .inl ⟨h, hk2 h⟩
    · exact .inr (by omega)
  have q3 : (e3 = 0 ∧ a3 = l.take i3 ∧ f3 = 0) ∨ ¬ (e3 : Int) = 0 := by
    by_cases h : e3 = 0
    · exact .inl ⟨h, hk3 h⟩
    · exact .inr (by omega)
  clear hk1 hk2 hk3
  rcases q1 with ⟨rfl, r1, rfl⟩ | q1
  all_goals rcases q2 with ⟨rfl, r2, rfl⟩ | q2
  all_goals rcases q3 with ⟨rfl, r3, rfl⟩ | q3
  all_goals (try rw [decide_eq_true r1] at p1)
  all_goals (try rw [decide_eq_true r2] at p2)
  all_goals (try rw [decide_eq_true r3] at p3)
  all_goals (try clear r1)
  all_goals (try clear r2)
  all_goals (try clear r3)
  all_goals
    go_wp2_with fail
    go_ret
    exact ⟨rfl, B⟩

theorem again_top (s : ByteArray) (ws : s.size ≤ maxLen) (w : World) :
    Calls Try.prog 7 #[.string s] w fun e w' => e = .returned (.bool true) ∧ Below w.heap.size w w' := by
  obtain ⟨l, rfl, hl⟩ := bytes_of s
  exact again_walk l (by rw [hl]; exact ws) w
end Oct
end Go.Proofs.Ytjfibmlpjcncmaa
