/- The walk of store.anew: records anew, by a builder. -/
import Derived.Test.YtjfibmlpjcncmaaStoLoad
namespace Go.Proofs.Ytjfibmlpjcncmaa
open Go.RowKit
set_option linter.unusedVariables false
set_option linter.unusedSimpArgs false
set_option maxRecDepth 4000
namespace Sto
open Oct Crc Disk Jrn

/-- an entry's bytes in the journal; a count's -/
def entB (e : List UInt8) : List UInt8 := (bytesR (entR e).1).1
def cntB (c : Nat) : List UInt8 := if 0 < c then (bytesR (cntR (c : Int)).1).1 else []
def anewL (es : List (List UInt8)) (c : Nat) : List UInt8 := cntB c ++ es.flatMap entB

theorem bytesR_length (t : List UInt8) : (bytesR t).1.length ≤ 8207 := by
  unfold bytesR
  split
  · rename_i h; exact recB_le t h
  · simp

theorem cntB_length (c : Nat) : (cntB c).length ≤ 8207 := by
  unfold cntB
  split
  · exact bytesR_length _
  · simp

theorem flatB_length (es : List (List UInt8)) : (es.flatMap entB).length ≤ 8207 * es.length := by
  induction es with
  | nil => simp
  | cons e es ih =>
    have := bytesR_length (entR e).1
    rw [List.flatMap_cons, List.length_append, List.length_cons]
    unfold entB at *
    omega

theorem Bld.kept {B b : Nat} {l : List UInt8} {w w' : World} (h : Bld B b l w) (hb : Below w.heap.size w w') : Bld B b l w' := by
  have k : ∀ p, Lib.BuilderAt 99 5 B b p (bytesV l) w → Lib.BuilderAt 99 5 B b p (bytesV l) w' := by
    intro p hp
    have hlt := hp.lt
    obtain ⟨h1, v, h2, h3, h4⟩ := hp
    exact ⟨h1, v, (hb.block b hlt).trans h2, own_kept h3 hb, h4⟩
  exact h.imp (k _) (k _)

theorem low_al (w : World) (o : Obj) : Below w.heap.size w (w.alloc o) := (Below.refl _ _).alloc (Nat.le_refl _) _
theorem Bld.lt {B b : Nat} {l : List UInt8} {w : World} (h : Bld B b l w) : b < w.heap.size := h.elim (·.lt) (·.lt)

theorem take_flat (es : List (List UInt8)) (j : Nat) (h : j < es.length) {e : List UInt8} (he : es[j] = e) : (es.take (j + 1)).flatMap entB = (es.take j).flatMap entB ++ entB e := by
  rw [List.take_succ_eq_append_getElem h, List.flatMap_append, he]; simp

set_option maxHeartbeats 4000000 in
theorem anew_any (es : List (List UInt8)) (c : Nat) (v : Value) (w : World) (hv : StrRow w v es) (hes : es.length ≤ 500000) (hc : (c : Int) ≤ 1048576) :
    Calls Try.prog 71 #[.agg #[v, .int .i64 (c : Int)]] w fun e w' => e = .returned (.string ⟨(anewL es c).toArray⟩) ∧ Below w.heap.size w w' := by
  obtain ⟨p, cap, rfl⟩ := hv.form
  have hesi : (es.length : Int) ≤ 500000 := by omega
  have HES := Lib.hid hes
  have HV := Lib.hid hv
  clear hes hv
  have cN := fun w => number_any (c : Int) w
  have cB := fun w => bytes_any (cntR (c : Int)).1 w
  have hBl := bytesR_length (cntR (c : Int)).1
  have hcB : Hid (cntB c = if 0 < c then (bytesR (cntR (c : Int)).1).1 else []) := Lib.hid rfl
  generalize bytesR (cntR (c : Int)).1 = y at *
  generalize cntR (c : Int) = x at *
  by_cases h0 : 0 < c
  · have h0i : (0 : Int) < (c : Int) := by omega
    rw [if_pos h0] at hcB
    go_enter Try.func71, Try.ntmps71
    go_wp2_with fail
    refine (cN _).mono ?_
    rintro e w1 ⟨rfl, hb⟩
    have P := (Pair.made w (.slice p es.length cap) (.int .i64 (c : Int)) 61).below (by simp) ((low_al _ (.cells #[.pointer none, .slice none 0 0] 99)).trans (hb.mono (by simp)))
    have D := (Bld.new (w.alloc (.cells #[.slice p es.length cap, .int .i64 (c : Int)] 61))).kept hb
    rw [World.size_alloc] at D
    have B : Below w.heap.size w w1 := (((Below.refl _ _).alloc (Nat.le_refl _) _).alloc (by simp) _).trans (hb.mono (by simp <;> omega))
    clear hb cN
    go_wp2_with fail
    refine (cB _).mono ?_
    rintro e w2 ⟨rfl, hb⟩
    replace P := P.below P.size hb
    replace D := D.kept hb
    replace B := B.trans (hb.mono B.size)
    clear hb cB
    have HB := Lib.hid B
    have HP := Lib.hid P
    have hz2 : w.heap.size + 1 ≤ w2.heap.size := Nat.le_of_lt D.lt
    clear B P
    go_wp2_with fail
    refine (writeString_any (w.heap.size + 1) (w.heap.size + 1) [] y.1 _ D (by simp; omega) hz2).mono ?_
    rintro e w3 ⟨rfl, D3, hb⟩
    have P := HP.out.below (by omega) hb
    have B := HB.out.trans (hb.mono (by omega))
    clear hb HB HP D hBl
    obtain ⟨kz, ka, kb, kf, kg⟩ := P
    go_wp2_with fail
    go_loopw [33] (fun i wr => ∃ j : Nat, j ≤ es.length ∧ i = .int .i64 (j : Int) ∧ Bld (w.heap.size + 1) (w.heap.size + 1) (cntB c ++ (es.take j).flatMap entB) wr ∧ Below w.heap.size w wr) (fun i _ => es.length - (intOf i).toNat)
    case atStart => exact ⟨0, by omega, rfl, by rw [List.take_zero, List.flatMap_nil, List.append_nil]; exact (by rw [hcB.out]; exact D3), B⟩
    case round =>
      obtain ⟨j, hj, rfl, hD, hB⟩ := hrel
      by_cases hlt : j < es.length
      · have hlti : (j : Int) < (es.length : Int) := by omega
        obtain ⟨e, he⟩ : ∃ e, es[j] = e := ⟨_, rfl⟩
        rcases HV.out with ⟨_, _, _, h0⟩ | ⟨b0, o0, cap0, hv, h2, h3⟩
        · rw [h0] at hlt; simp at hlt
        · injection hv with e1 e2 e3
          subst e1
          subst e3
          have hcell : wr.cell? ⟨b0, o0 + j, none⟩ = some (.string ⟨e.toArray⟩) := by rw [← he, ← h3 j hlt]; exact hB.cell (p := ⟨b0, o0 + j, none⟩) h2
          have HT := Lib.hid (take_flat es j hlt he)
          have c1 := fun w2 h => list_any (.slice (some ⟨wr.heap.size, 0, none⟩) 2 2) [[101], e] w2 h
          have c2 := fun w => bytes_any (listR [[101], e]).1 w
          have hE : Hid (entB e = (bytesR (listR [[101], e]).1).1) := Lib.hid rfl
          have hEl := bytesR_length (listR [[101], e]).1
          have hfl := flatB_length (es.take j)
          rw [List.length_take] at hfl
          have hcl := cntB_length c
          generalize bytesR (listR [[101], e]).1 = y2 at *
          generalize listR [[101], e] = x2 at *
          have HL : Hid ((cntB c ++ (es.take j).flatMap entB).length + y2.1.length ≤ 140737488355328) := by
            refine Lib.hid ?_
            have := HES.out
            rw [List.length_append]; omega
          have HJ := Lib.hid hj
          have HD := Lib.hid hD
          have HB := Lib.hid hB
          have hBs := hB.size
          have hz := hD.lt
          clear hEl hfl hcl h3 he hj hD hB
          go_wp2_with fail
          refine (c1 _ (two_row wr [101] e _ rfl)).mono ?_
          rintro e' w2 ⟨rfl, hb⟩
          have hbb := (low_al wr (.cells #[.string ⟨#[101]⟩, .string ⟨e.toArray⟩] 9)).trans (hb.mono (by simp))
          have D2 := HD.out.kept hbb
          have B2 := HB.out.trans (hbb.mono hBs)
          clear c1 hb hbb HD HB
          go_wp2_with fail
          refine (c2 _).mono ?_
          rintro e' w3 ⟨rfl, hb⟩
          have D3 := D2.kept hb
          have B3 := B2.trans (hb.mono B2.size)
          clear c2 hb D2
          have hz3 : w.heap.size + 1 ≤ w3.heap.size := Nat.le_of_lt D3.lt
          go_wp2_with fail
          refine (writeString_any (w.heap.size + 1) (w.heap.size + 1) _ y2.1 _ D3 HL.out hz3).mono ?_
          rintro e' w4 ⟨rfl, D4, hb⟩
          have B4 := B3.trans (hb.mono (by omega))
          clear hb D3 B3 B2
          have D5 := Lib.hid D4
          have B5 := Lib.hid B4
          clear D4 B4
          have hji : (j : Int) ≤ 500000 := by omega
          go_wp2_with fail
          all_goals go_roundw
          case rel => exact ⟨j + 1, by omega, by go_num, by rw [HT.out, ← List.append_assoc, hE.out]; exact D5.out, B5.out⟩
          case measure => simp [intOf]; omega
      · have hj' : j = es.length := by omega
        subst hj'
        rw [List.take_length] at hD
        have HB := Lib.hid hB
        have hz := hD.lt
        clear hB
        go_wp2_with fail
        refine (string_any (w.heap.size + 1) (w.heap.size + 1) _ _ hD (Nat.le_of_lt hz)).mono ?_
        rintro e' w5 ⟨rfl, hb⟩
        go_wp2_with fail
        go_ret
        exact ⟨rfl, HB.out.trans (hb.mono (by omega))⟩
  · have h0i : ¬ (0 : Int) < (c : Int) := by omega
    rw [if_neg h0] at hcB
    have D3 := Bld.new (w.alloc (.cells #[.slice p es.length cap, .int .i64 (c : Int)] 61))
    rw [World.size_alloc] at D3
    have B : Below w.heap.size w ((w.alloc (.cells #[.slice p es.length cap, .int .i64 (c : Int)] 61)).alloc (.cells #[.pointer none, .slice none 0 0] 99)) := (((Below.refl _ _).alloc (Nat.le_refl _) _).alloc (by simp) _)
    clear cN cB hBl
    go_enter Try.func71, Try.ntmps71
    go_wp2_with fail
    go_loopw [33] (fun i wr => ∃ j : Nat, j ≤ es.length ∧ i = .int .i64 (j : Int) ∧ Bld (w.heap.size + 1) (w.heap.size + 1) (cntB c ++ (es.take j).flatMap entB) wr ∧ Below w.heap.size w wr) (fun i _ => es.length - (intOf i).toNat)
    case atStart => exact ⟨0, by omega, rfl, by rw [List.take_zero, List.flatMap_nil, List.append_nil]; exact (by rw [hcB.out]; exact D3), B⟩
    case round =>
      obtain ⟨j, hj, rfl, hD, hB⟩ := hrel
      by_cases hlt : j < es.length
      · have hlti : (j : Int) < (es.length : Int) := by omega
        obtain ⟨e, he⟩ : ∃ e, es[j] = e := ⟨_, rfl⟩
        rcases HV.out with ⟨_, _, _, h0⟩ | ⟨b0, o0, cap0, hv, h2, h3⟩
        · rw [h0] at hlt; simp at hlt
        · injection hv with e1 e2 e3
          subst e1
          subst e3
          have hcell : wr.cell? ⟨b0, o0 + j, none⟩ = some (.string ⟨e.toArray⟩) := by rw [← he, ← h3 j hlt]; exact hB.cell (p := ⟨b0, o0 + j, none⟩) h2
          have HT := Lib.hid (take_flat es j hlt he)
          have c1 := fun w2 h => list_any (.slice (some ⟨wr.heap.size, 0, none⟩) 2 2) [[101], e] w2 h
          have c2 := fun w => bytes_any (listR [[101], e]).1 w
          have hE : Hid (entB e = (bytesR (listR [[101], e]).1).1) := Lib.hid rfl
          have hEl := bytesR_length (listR [[101], e]).1
          have hfl := flatB_length (es.take j)
          rw [List.length_take] at hfl
          have hcl := cntB_length c
          generalize bytesR (listR [[101], e]).1 = y2 at *
          generalize listR [[101], e] = x2 at *
          have HL : Hid ((cntB c ++ (es.take j).flatMap entB).length + y2.1.length ≤ 140737488355328) := by
            refine Lib.hid ?_
            have := HES.out
            rw [List.length_append]; omega
          have HJ := Lib.hid hj
          have HD := Lib.hid hD
          have HB := Lib.hid hB
          have hBs := hB.size
          have hz := hD.lt
          clear hEl hfl hcl h3 he hj hD hB
          go_wp2_with fail
          refine (c1 _ (two_row wr [101] e _ rfl)).mono ?_
          rintro e' w2 ⟨rfl, hb⟩
          have hbb := (low_al wr (.cells #[.string ⟨#[101]⟩, .string ⟨e.toArray⟩] 9)).trans (hb.mono (by simp))
          have D2 := HD.out.kept hbb
          have B2 := HB.out.trans (hbb.mono hBs)
          clear c1 hb hbb HD HB
          go_wp2_with fail
          refine (c2 _).mono ?_
          rintro e' w3 ⟨rfl, hb⟩
          have D3 := D2.kept hb
          have B3 := B2.trans (hb.mono B2.size)
          clear c2 hb D2
          have hz3 : w.heap.size + 1 ≤ w3.heap.size := Nat.le_of_lt D3.lt
          go_wp2_with fail
          refine (writeString_any (w.heap.size + 1) (w.heap.size + 1) _ y2.1 _ D3 HL.out hz3).mono ?_
          rintro e' w4 ⟨rfl, D4, hb⟩
          have B4 := B3.trans (hb.mono (by omega))
          clear hb D3 B3 B2
          have D5 := Lib.hid D4
          have B5 := Lib.hid B4
          clear D4 B4
          have hji : (j : Int) ≤ 500000 := by omega
          go_wp2_with fail
          all_goals go_roundw
          case rel => exact ⟨j + 1, by omega, by go_num, by rw [HT.out, ← List.append_assoc, hE.out]; exact D5.out, B5.out⟩
          case measure => simp [intOf]; omega
      · have hj' : j = es.length := by omega
        subst hj'
        rw [List.take_length] at hD
        have HB := Lib.hid hB
        have hz := hD.lt
        clear hB
        go_wp2_with fail
        refine (string_any (w.heap.size + 1) (w.heap.size + 1) _ _ hD (Nat.le_of_lt hz)).mono ?_
        rintro e' w5 ⟨rfl, hb⟩
        go_wp2_with fail
        go_ret
        exact ⟨rfl, HB.out.trans (hb.mono (by omega))⟩
end Sto
end Go.Proofs.Ytjfibmlpjcncmaa
