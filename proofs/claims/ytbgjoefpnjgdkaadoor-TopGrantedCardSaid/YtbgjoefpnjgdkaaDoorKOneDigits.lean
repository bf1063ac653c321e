/- onetime: the digits of a number, and of a text. -/
import Derived.Test.YtbgjoefpnjgdkaaDoorJ06
import Derived.Deep.AppendLies
namespace Go.Proofs.YtbgjoefpnjgdkaaDoor
open Go.RowKit
set_option linter.unusedVariables false
set_option linter.unusedSimpArgs false
set_option maxRecDepth 100000
namespace One
open Sha
def intsV (l : List Nat) : List Value := l.map fun d : Nat => Value.int .i64 (d : Int)
theorem intsV_length (l : List Nat) : (intsV l).length = l.length := by simp [intsV]
theorem intsV_append (l m : List Nat) : intsV (l ++ m) = intsV l ++ intsV m := by simp [intsV]
/-- v owns these numbers, in blocks from base on -/
def OwnI (base : Nat) (w : World) (v : Value) (l : List Nat) : Prop := w.ownsRow base 3 1 v l.length (intsV l)
theorem OwnI.nil (base : Nat) (w : World) : OwnI base w (.slice none 0 0) [] := World.ownsRow_nil w base _ 1
theorem OwnI.below {base : Nat} {w w' : World} {v : Value} {l : List Nat} (h : OwnI base w v l) (hb : Below w.heap.size w w') : OwnI base w' v l :=
  World.ownsRow.kept (row := none) h ⟨hb.os, hb.tape, hb.output, hb.size, fun k hk _ => hb.block k hk⟩ (by cases hv : v.ownBlock <;> simp)
theorem info_int : (Tryd.prog.info? 3).map (fun i => (i.zero, i.size, i.bytes)) = some (some (.int .i64 0), 1, 8) := by kernel_rfl

theorem and3 (n : Nat) (h : n < 256) : bits .and .i64 (n : Int) 3 = ((n % 4 : Nat) : Int) := by
  have h' : ∀ a : Fin 256, bits .and .i64 (a.val : Int) 3 = ((a.val % 4 : Nat) : Int) := by decide +kernel
  exact h' ⟨n, h⟩

/-- so many digits, the lowest first -/
def splitL : Nat → Nat → List Nat
  | 0, _ => []
  | k + 1, n => n % 4 :: splitL k (n / 4)
theorem splitL_length : ∀ (k n : Nat), (splitL k n).length = k
  | 0, _ => rfl
  | k + 1, n => by rw [splitL, List.length_cons, splitL_length k]
theorem splitL_le : ∀ (k n : Nat), ∀ d ∈ splitL k n, d ≤ 3
  | 0, _, d, h => by cases h
  | k + 1, n, d, h => by
    rw [splitL] at h
    rcases List.mem_cons.1 h with h | h
    · omega
    · exact splitL_le k _ d h

set_option maxHeartbeats 1000000 in
theorem split_any (n : Nat) (hn : n < 256) (w : World) :
    Calls Tryd.prog 97 #[.int .i64 (n : Int), .int .i64 4] w fun e w' => ∃ v, e = .returned v ∧ OwnI w.heap.size w' v (splitL 4 n) ∧ Below w.heap.size w w' := by
  obtain ⟨i0, hi, hz0, hz1, hz2⟩ := info_parts info_int
  go_enter Tryd.func97, Tryd.ntmps97
  go_wp2_with fail
  go_loopw [0, 5, 7] (fun x v i wr => ∃ (k m : Nat) (ys : List Nat), k ≤ 4 ∧ m < 256 ∧ x = .int .i64 (m : Int) ∧ i = .int .i64 (k : Int) ∧ ys.length = k ∧ Hid (ys ++ splitL (4 - k) m = splitL 4 n) ∧ Hid (OwnI w.heap.size wr v ys) ∧ Below w.heap.size w wr) (fun _ _ i _ => 4 - (intOf i).toNat)
  case atStart => exact ⟨0, n, [], by omega, hn, rfl, rfl, rfl, Lib.hid rfl, Lib.hid (OwnI.nil _ _), Below.refl _ _⟩
  case round =>
    obtain ⟨k, m, ys, hk, hm, rfl, rfl, hyl, HY, HO, hb⟩ := hrel
    by_cases hlt : k < 4
    · have hki : (k : Int) < 4 := by omega
      have hown := HO.out
      unfold OwnI at hown
      have hbs := hb.size
      have h3 := and3 m hm
      go_wp2_with (at_builtin; refine wpList_append_own _ rfl (.tmp 9) (.tmp 12) _ rfl w.heap.size 3 i0 (.int .i64 0) 1 8 Tryd.underlying115 hi hz0 hz1 hz2 rfl (by decide) _ _ _ rfl (hown.alloc _) ⟨wr.heap.size, 0, none⟩ 1 1 [.int .i64 ((m % 4 : Nat) : Int)] rfl rfl (cell_one_new _ _ _) (by simp [Value.oneCell']) (by unfold maxLen; omega) (by omega) (by simp; omega) ?_; intro v' w1 hown' hgrow _)
      have hb1 : Below w.heap.size w w1 := (hb.alloc hbs _).grown hgrow (by simp; omega) (fun k hk => (hown.lt k hk).1)
      go_roundw
      case rel => exact ⟨k + 1, m / 4, ys ++ [m % 4], by omega, by omega, by go_num, by go_num, by simp; omega, Lib.hid (by rw [← HY.out, show 4 - k = (4 - (k + 1)) + 1 by omega, splitL]; simp), Lib.hid (by unfold OwnI; rw [intsV_append, List.length_append]; exact hown'), hb1⟩
      case measure => simp [intOf]; omega
    · obtain rfl : k = 4 := by omega
      have hy := HY.out
      rw [Nat.sub_self, splitL, List.append_nil] at hy
      rw [hy] at HO
      clear hlt hk hy
      rw [show ((4 : Nat) : Int) = 4 from rfl]
      go_wp2_with fail
      go_ret
      exact ⟨_, rfl, HO.out, hb⟩

def lackN (l : List Nat) : Nat := (l.map (3 - ·)).sum
theorem lackN_append (l m : List Nat) : lackN (l ++ m) = lackN l + lackN m := by simp [lackN]
theorem lackN_le : ∀ (l : List Nat), lackN l ≤ 3 * l.length
  | [] => by simp [lackN]
  | d :: l => by
    have := lackN_le l
    simp [lackN] at this ⊢
    omega
def firstD (M : List UInt8) : List Nat := M.flatMap fun c => splitL 4 c.toNat
/-- a text's digits -/
def digitsM (M : List UInt8) : List Nat := firstD M ++ splitL 4 (lackN (firstD M))
def digitsL (X kk : Nat → Int) (l : List UInt8) : List Nat := digitsM (midL X kk l)
theorem firstD_length : ∀ (M : List UInt8), (firstD M).length = 4 * M.length
  | [] => rfl
  | c :: M => by
    have := firstD_length M
    simp only [firstD, List.flatMap_cons, List.length_append, splitL_length, List.length_cons] at this ⊢
    omega
theorem firstD_le (M : List UInt8) : ∀ d ∈ firstD M, d ≤ 3 := by
  intro d hd
  obtain ⟨c, _, hc⟩ := List.mem_flatMap.1 hd
  exact splitL_le 4 _ d hc
theorem firstD_take (M : List UInt8) (k : Nat) (h : k < M.length) : firstD (M.take (k + 1)) = firstD (M.take k) ++ splitL 4 (M[k]).toNat := by
  rw [List.take_succ_eq_append_getElem h, firstD, firstD, List.flatMap_append]; simp
theorem digitsL_length (X kk : Nat → Int) (l : List UInt8) : (digitsL X kk l).length = 68 := by
  rw [digitsL, digitsM, List.length_append, firstD_length, midL_length, splitL_length]
theorem digitsL_le (X kk : Nat → Int) (l : List UInt8) : ∀ d ∈ digitsL X kk l, d ≤ 3 := by
  intro d hd
  rcases List.mem_append.1 hd with h | h
  · exact firstD_le _ d h
  · exact splitL_le 4 _ d h

theorem OwnI.form {base : Nat} {w : World} {v : Value} {l : List Nat} (h : OwnI base w v l) : ∃ p cap, v = .slice p l.length cap := by
  rcases h.2 with ⟨h1, h2⟩ | ⟨g, cap, cur, h1, _⟩
  · exact ⟨none, 0, by rw [h1, h2]⟩
  · exact ⟨_, cap, h1⟩
theorem OwnI.cell {base g : Nat} {w : World} {v : Value} {l : List Nat} (h : OwnI base w v l) (hg : v.ownBlock = some g) (j : Nat) (hj : j < l.length) : w.cell? ⟨g, j, none⟩ = some (.int .i64 (l[j] : Int)) := by
  have := World.ownsRow.cells h hg j (.int .i64 (l[j] : Int)) (by simp [intsV, hj])
  have e : (⟨g, 0, none⟩ : Addr).add j = ⟨g, j, none⟩ := by unfold Addr.add; split <;> simp_all
  rw [e] at this; exact this

set_option maxHeartbeats 4000000 in
theorem digits_any (X kk : Nat → Int) (s : ByteArray) (w : World) (hT : Tabs w X kk) :
    Calls Tryd.prog 49 #[.string s] w fun e w' => ∃ v, e = .returned v ∧ OwnI w.heap.size w' v (digitsL X kk s.data.toList) ∧ Below w.heap.size w w' := by
  obtain ⟨i0, hi, hz0, hz1, hz2⟩ := info_parts info_int
  have HD := Lib.hid (show digitsL X kk s.data.toList = digitsM (midL X kk s.data.toList) from rfl)
  have hML := midL_length X kk s.data.toList
  go_enter Tryd.func49, Tryd.ntmps49
  go_wp2_with fail
  refine (mid_any s X kk w hT).mono ?_
  rintro e w1 ⟨rfl, hb⟩
  generalize midL X kk s.data.toList = M at *
  have hb1 := hb
  go_wp2_with fail
  go_loopw [3, 13] (fun v i wr => ∃ (k : Nat), k ≤ 16 ∧ i = .int .i64 (k : Int) ∧ Hid (OwnI w.heap.size wr v (firstD (M.take k))) ∧ Below w.heap.size w wr) (fun _ i _ => 16 - (intOf i).toNat)
  case atStart => exact ⟨0, by omega, rfl, Lib.hid (by simpa [firstD] using OwnI.nil _ _), hb⟩
  case round =>
    clear hb hb1
    obtain ⟨k, hk, rfl, HO, hb⟩ := hrel
    have hbs := hb.size
    by_cases hlt : k < 16
    · have hki : (k : Int) < 16 := by omega
      have hlen := firstD_length (M.take k)
      rw [List.length_take, hML, Nat.min_eq_left hk] at hlen
      have HFT := Lib.hid (firstD_take M k (by omega))
      have hkM : k < (⟨M.toArray⟩ : ByteArray).size := by simp [ByteArray.size]; omega
      obtain ⟨c, hc⟩ : ∃ c, M[k]'(by omega) = c := ⟨_, rfl⟩
      have hgx : (⟨M.toArray⟩ : ByteArray)[k]'hkM = c := by rw [← hc]; rfl
      rw [hc] at HFT
      have hcn : c.toNat < 256 := c.toNat_lt
      have hwr : wrap64 (c.toNat : Int) = (c.toNat : Int) := by unfold wrap64; omega
      clear hc
      go_wp2_with fail
      generalize c.toNat = d at *
      clear hgx hwr
      refine (split_any d hcn wr).mono ?_
      rintro e w2 ⟨v2, rfl, hv2, hb2⟩
      have hO2 := HO.out.below hb2
      have hb3 := hb.trans (hb2.mono hbs)
      have hbs3 := hb3.size
      obtain ⟨g2, c2, rfl, -, -⟩ := World.ownsRow.form hv2 (by rw [splitL_length]; omega)
      have hcl := World.ownsRow.cells hv2 (g := g2) rfl
      have HCL := Lib.hid hcl
      have hown := hO2
      unfold OwnI at hown
      have HOW := Lib.hid hown
      rw [splitL_length]
      have HNL : Hid ((intsV (splitL 4 d)).length = 4 * 1) := Lib.hid (by rw [intsV_length, splitL_length])
      have HN1 : Hid (∀ u ∈ intsV (splitL 4 d), u.oneCell' = true) := Lib.hid (by unfold intsV; intro u hu; obtain ⟨j, _, rfl⟩ := List.mem_map.1 hu; rfl)
      clear hv2 hO2 hcl hown
      go_wp2_with (at_builtin; refine wpList_append_own _ rfl (.tmp 16) (.tmp 21) _ rfl w.heap.size 3 i0 (.int .i64 0) 1 8 Tryd.underlying115 hi hz0 hz1 hz2 rfl (by decide) _ _ _ rfl HOW.out ⟨g2, 0, none⟩ 4 c2 (intsV (splitL 4 d)) rfl HNL.out HCL.out HN1.out (by unfold maxLen; omega) (by omega) (by omega) ?_; intro v' w3 hown' hgrow _)
      have hb4 : Below w.heap.size w w3 := hb3.grown hgrow hbs3 (fun k hk => (HOW.out.lt k hk).1)
      go_roundw
      case rel => exact ⟨k + 1, by omega, by go_num, Lib.hid (by unfold OwnI; rw [HFT.out, intsV_append, List.length_append, splitL_length]; exact hown'), hb4⟩
      case measure => simp [intOf]; omega
    · obtain rfl : k = 16 := by omega
      rw [show M.take 16 = M from List.take_of_length_le (by omega)] at HO
      rw [show ((16 : Nat) : Int) = 16 from rfl]
      have hFl : (firstD M).length = 64 := by rw [firstD_length, hML]
      have HLE := Lib.hid (firstD_le M)
      have HDD : Hid (digitsL X kk s.data.toList = firstD M ++ splitL 4 (lackN (firstD M))) := HD
      clear hlt hk HD
      generalize firstD M = D at *
      obtain ⟨g, c, rfl, -, -⟩ := World.ownsRow.form HO.out (by omega)
      rw [hFl]
      rw [hFl] at HO
      go_wp2_with fail
      go_loop [6, 26] (fun x i => ∃ (j : Nat), j ≤ 64 ∧ i = .int .i64 (j : Int) ∧ x = .int .i64 ((lackN (D.take j) : Nat) : Int)) (fun _ i => 64 - (intOf i).toNat)
      case atStart => exact ⟨0, by omega, rfl, by simp [lackN]⟩
      case round =>
        obtain ⟨j, hj, rfl, rfl⟩ := hrel
        have hlk : lackN (D.take j) ≤ 192 := by
          have := lackN_le (D.take j)
          rw [List.length_take] at this
          omega
        by_cases hlt : j < 64
        · have hji : (j : Int) < 64 := by omega
          have hcj := HO.out.cell (g := g) rfl j (by omega)
          have hd3 : D[j]'(by omega) ≤ 3 := HLE.out _ (List.getElem_mem _)
          have HLK : Hid (lackN (D.take (j + 1)) = lackN (D.take j) + (3 - D[j]'(by omega))) := by
            refine Lib.hid ?_
            rw [List.take_succ_eq_append_getElem (by omega : j < D.length), lackN_append]
            simp [lackN]
          generalize D[j]'(by omega) = d at *
          generalize lackN (D.take j) = a at *
          go_wp2_with fail
          go_round
          case rel => exact ⟨j + 1, by omega, by go_num, by rw [HLK.out]; go_num⟩
          case measure => simp [intOf]; omega
        · obtain rfl : j = 64 := by omega
          rw [show D.take 64 = D from List.take_of_length_le (by omega)] at hlk ⊢
          rw [show ((64 : Nat) : Int) = 64 from rfl]
          clear hlt hj
          generalize lackN D = lk at *
          go_wp2_with fail
          refine (split_any lk (by omega) _).mono ?_
          rintro e w2 ⟨v2, rfl, hv2, hb2⟩
          have hO2 := HO.out.below hb2
          have hb3 := hb.trans (hb2.mono hbs)
          have hbs3 := hb3.size
          obtain ⟨g2, c2, rfl, -, -⟩ := World.ownsRow.form hv2 (by rw [splitL_length]; omega)
          have HCL := Lib.hid (World.ownsRow.cells hv2 (g := g2) rfl)
          have hown := hO2
          unfold OwnI at hown
          rw [hFl] at hown
          have HOW := Lib.hid hown
          rw [splitL_length]
          have HNL : Hid ((intsV (splitL 4 lk)).length = 4 * 1) := Lib.hid (by rw [intsV_length, splitL_length])
          have HN1 : Hid (∀ u ∈ intsV (splitL 4 lk), u.oneCell' = true) := Lib.hid (by unfold intsV; intro u hu; obtain ⟨j, _, rfl⟩ := List.mem_map.1 hu; rfl)
          clear hv2 hO2 hown
          go_wp2_with (at_builtin; refine wpList_append_own _ rfl (.tmp 35) (.tmp 37) _ rfl w.heap.size 3 i0 (.int .i64 0) 1 8 Tryd.underlying115 hi hz0 hz1 hz2 rfl (by decide) _ _ _ rfl HOW.out ⟨g2, 0, none⟩ 4 c2 (intsV (splitL 4 lk)) rfl HNL.out HCL.out HN1.out (by unfold maxLen; omega) (by omega) (by omega) ?_; intro v' w3 hown' hgrow _)
          have hb4 : Below w.heap.size w w3 := hb3.grown hgrow hbs3 (fun k hk => (HOW.out.lt k hk).1)
          go_ret
          refine ⟨_, rfl, ?_, hb4⟩
          unfold OwnI
          rw [HDD.out, intsV_append, List.length_append, splitL_length, hFl]
          exact hown'
end One
end Go.Proofs.YtbgjoefpnjgdkaaDoor
