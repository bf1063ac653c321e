/- state.Set of a right state. -/
import Derived.Test.YtbgjoefpnjgdkaaDoorJ31
import Derived.Test.YtbgjoefpnjgdkaaDoorJ32
import Derived.Test.YtbgjoefpnjgdkaaDoorJ33
namespace Go.Proofs.YtbgjoefpnjgdkaaDoor
open Go.RowKit
set_option linter.unusedVariables false
set_option linter.unusedSimpArgs false
set_option maxRecDepth 100000
namespace Left
open Named
theorem OwnE.there {base : Nat} {w : World} {g n cap : Nat} {es : List Ev} (h : OwnE base w (.slice (some ⟨g, 0, none⟩) n cap) es) {i : Nat} (hi : i < es.length) : g < w.heap.size ∧ n ≤ cap ∧ w.there g (i * 8) 8 := by
  rcases ownE_form h with ⟨h1, -⟩ | ⟨g', cap', cur, h1, hg, hh, hc, hm, hz, ht⟩
  · cases h1
  · injection h1 with e1 e2 e3
    injection e1 with e1
    injection e1 with e1
    subst e1 e2 e3
    refine ⟨(Array.getElem?_eq_some_iff.1 hh).1, hc, fun j hj => ⟨?_, by simp [World.frozen?, hh]⟩⟩
    rw [World.cell?]
    simp only [hh]
    simp [Array.getElem?_eq_getElem (show i * 8 + j < cur.size by omega)]
theorem OwnE.low2 {base : Nat} {w w' : World} {v : Value} {es : List Ev} {n : Nat} (h : OwnE base w v es) (hn : w.heap.size = n) (hb : Below n w w') : OwnE base w' v es := h.low (hn ▸ hb)
theorem below_grown {B : Nat} {w w1 w2 : World} {row : Option Nat} (h : Below B w w1) (hg : w1.grownBy w2 row) (hB : B ≤ w1.heap.size) (hr : ∀ k, row = some k → B ≤ k) : Below B w w2 := h.grown hg hB hr
theorem OwnE.block {base : Nat} {w : World} {v : Value} {es : List Ev} (h : OwnE base w v es) : ∀ k, v.ownBlock = some k → base ≤ k ∧ k < w.heap.size := World.ownsRow.lt h
set_option maxHeartbeats 8000000 in
theorem set_any (v : Value) (es : List Ev) (x : Ev) (w : World) (hr : CRow w v es) (hg : Good es) (hl : es.length ≤ 255) (hf : ∀ e ∈ es, Fits e) (hx : Fits x) (hV : Vars w) :
    Calls Tryd.prog 33 #[v, evV x] w fun e w' => ∃ v' : Value, e = .returned (.tuple #[v', .int .i64 (if rightB x = true then 0 else 2)]) ∧ (rightB x = true → CRow w' v' (setL es x)) ∧ Below w.heap.size w w' := by
  obtain ⟨p0, cap0, rfl⟩ := hr.form
  have HR := Lib.hid hr
  have HCH := Lib.hid (fun w' (hb : Below w.heap.size w w') => check_good _ es w' (hr.low hb) hg (by omega) hf (hV.low hb))
  have HRT := Lib.hid (fun w' (hb : Below w.heap.size w w') => right_any x hx w' (hV.low hb))
  have HFIND := Lib.hid (fun v w' (h : CRow w' v es) => find_any v es x w' h (by omega))
  have HSET : Hid (setL es x = if isL es x = true then es.set (atL es x) x else es.take (atL es x) ++ x :: es.drop (atL es x)) := Lib.hid rfl
  have HAT := Lib.hid (atL_spec es x).1
  have HIS : Hid (isL es x = true → atL es x < es.length) := Lib.hid (fun h => by
    unfold isL at h
    simp only [Bool.and_eq_true, decide_eq_true_eq] at h
    exact h.1)
  have HSL : Hid (0 < (setL es x).length) := Lib.hid (by
    unfold setL
    split
    · rename_i h
      have := HIS.out h
      rw [List.length_set]; omega
    · rw [List.length_append, List.length_cons]; omega)
  generalize isL es x = is at *
  generalize atL es x = at_ at *
  generalize rightB x = rb at *
  generalize setL es x = res at *
  obtain ⟨room, sender, kind, key, body, nonce⟩ := x
  have hli : (es.length : Int) ≤ 255 := by omega
  unfold evV at *
  unfold cellL at HRT
  dsimp only at *
  clear hr hg hf hx hV
  have A0 := Blk.new w #[.string ⟨room.toArray⟩, .string ⟨sender.toArray⟩, .int .u8 (kind : Int), .string ⟨key.toArray⟩, .string ⟨body.toArray⟩, .int .i64 nonce] 56
  have B0 := (Below.refl w.heap.size w).alloc (Nat.le_refl _) (.cells #[.string ⟨room.toArray⟩, .string ⟨sender.toArray⟩, .int .u8 (kind : Int), .string ⟨key.toArray⟩, .string ⟨body.toArray⟩, .int .i64 nonce] 56)
  go_enter Tryd.func33, Tryd.ntmps33
  go_wp2_with fail
  generalize w.alloc (.cells #[.string ⟨room.toArray⟩, .string ⟨sender.toArray⟩, .int .u8 (kind : Int), .string ⟨key.toArray⟩, .string ⟨body.toArray⟩, .int .i64 nonce] 56) = w1 at *
  refine (HCH.out _ B0).mono ?_
  rintro e w2 ⟨rfl, hb⟩
  have A2 := A0.low hb
  have B2 := B0.trans (hb.mono B0.size)
  clear hb A0 B0
  go_wp2_with fail
  refine (clone_any _ es w2 (HR.out.low B2) (by omega)).mono ?_
  rintro e w3 ⟨v', rfl, ho, hne, hb⟩
  have ho := ho.mono B2.size
  have A3 := A2.low hb
  have B3 := B2.trans (hb.mono B2.size)
  obtain ⟨p, cp, rfl⟩ : ∃ p cp, v' = .slice p es.length cp := by
    rcases ownE_form ho with ⟨rfl, rfl⟩ | ⟨g, cap, cur, rfl, -⟩
    · exact ⟨_, _, rfl⟩
    · exact ⟨_, _, rfl⟩
  have HNE := Lib.hid hne
  clear hb A2 B2 hne
  have a0 := A3.cell 0 rfl
  have a1 := A3.cell 1 rfl
  have a2 := A3.cell 2 rfl
  have a3 := A3.cell 3 rfl
  have a4 := A3.cell 4 rfl
  have a5 := A3.cell 5 rfl
  go_wp2_with fail
  have hba := (Below.refl w3.heap.size w3).alloc (Nat.le_refl _) (.cells #[.int .u8 (kind : Int), .string ⟨key.toArray⟩, .string ⟨room.toArray⟩, .string ⟨sender.toArray⟩, .int .u8 (kind : Int), .string ⟨key.toArray⟩, .string ⟨body.toArray⟩, .int .i64 nonce] 91)
  have C4 := Blk.new w3 #[.int .u8 (kind : Int), .string ⟨key.toArray⟩, .string ⟨room.toArray⟩, .string ⟨sender.toArray⟩, .int .u8 (kind : Int), .string ⟨key.toArray⟩, .string ⟨body.toArray⟩, .int .i64 nonce] 91
  have A4 := A3.low hba
  have B4 := B3.trans (hba.mono B3.size)
  have ho4 := ho.low hba
  clear a0 a1 a2 a3 a4 a5 hba A3 B3 ho
  generalize w3.alloc (.cells #[.int .u8 (kind : Int), .string ⟨key.toArray⟩, .string ⟨room.toArray⟩, .string ⟨sender.toArray⟩, .int .u8 (kind : Int), .string ⟨key.toArray⟩, .string ⟨body.toArray⟩, .int .i64 nonce] 91) = w4 at *
  generalize w3.heap.size = g8 at *
  refine (HRT.out _ B4).mono ?_
  rintro e w5 ⟨rfl, hb⟩
  have C5 := C4.low hb
  have A5 := A4.low hb
  have B5 := B4.trans (hb.mono B4.size)
  have ho5 := ho4.low hb
  clear hb A4 B4 C4 ho4
  cases rb with
  | false =>
    go_wp2_with fail
    refine bodyPost_ret (v := .tuple #[.slice p es.length cp, .int .i64 2]) (by simp [results, Tryd.f33, go_sem]) rfl ⟨⟨_, rfl⟩, B5⟩
  | true =>
    have a0 := A5.cell 0 rfl
    have a1 := A5.cell 1 rfl
    have a2 := A5.cell 2 rfl
    have a3 := A5.cell 3 rfl
    have a4 := A5.cell 4 rfl
    have a5 := A5.cell 5 rfl
    go_wp2_with fail
    refine (HFIND.out _ _ (ho5.row HNE.out)).mono ?_
    rintro e w6 ⟨rfl, hb⟩
    have C6 := C5.low hb
    have B6 := B5.trans (hb.mono B5.size)
    have ho6 := ho5.low hb
    clear hb a0 a1 a2 a3 a4 a5 A5 B5 C5 ho5
    have c0 := C6.cell 0 rfl
    have c1 := C6.cell 1 rfl
    have c2 := C6.cell 2 rfl
    have c3 := C6.cell 3 rfl
    have c4 := C6.cell 4 rfl
    have c5 := C6.cell 5 rfl
    have c6 := C6.cell 6 rfl
    have c7 := C6.cell 7 rfl
    cases is with
    | true =>
      have hlt := HIS.out rfl
      have hlti : (at_ : Int) < (es.length : Int) := by omega
      obtain ⟨g, rfl⟩ : ∃ g, p = some ⟨g, 0, none⟩ := by
        rcases ownE_form ho6 with ⟨-, rfl⟩ | ⟨g, cap, cur, h1, -⟩
        · simp at hlt
        · injection h1 with e1 e2 e3
          exact ⟨g, e1⟩
      obtain ⟨hgw, hcap, hth⟩ := ho6.there hlt
      have HTH : Hid (w6.there g (at_ * 8) (#[.int .u8 (kind : Int), .string ⟨key.toArray⟩, .string ⟨room.toArray⟩, .string ⟨sender.toArray⟩, .int .u8 (kind : Int), .string ⟨key.toArray⟩, .string ⟨body.toArray⟩, .int .i64 nonce] : Array Value).size) := Lib.hid hth
      have HI : Hid ((Tryd.prog.info? 91).map (·.size) = some (#[.int .u8 (kind : Int), .string ⟨key.toArray⟩, .string ⟨room.toArray⟩, .string ⟨sender.toArray⟩, .int .u8 (kind : Int), .string ⟨key.toArray⟩, .string ⟨body.toArray⟩, .int .i64 nonce] : Array Value).size) := Lib.hid (by kernel_rfl)
      have H1 : Hid ((#[.int .u8 (kind : Int), .string ⟨key.toArray⟩, .string ⟨room.toArray⟩, .string ⟨sender.toArray⟩, .int .u8 (kind : Int), .string ⟨key.toArray⟩, .string ⟨body.toArray⟩, .int .i64 nonce] : Array Value).all (·.oneCell') = true) := Lib.hid (all_oneCell_toArray (cellL_one ⟨room, sender, kind, key, body, nonce⟩))
      have hput := ho6.put at_ hlt ⟨room, sender, kind, key, body, nonce⟩
      clear hth
      go_wp2_with (with_reducible refine wpList_store_mid rfl 91 _ _ rfl g (at_ * 8) #[.int .u8 (kind : Int), .string ⟨key.toArray⟩, .string ⟨room.toArray⟩, .string ⟨sender.toArray⟩, .int .u8 (kind : Int), .string ⟨key.toArray⟩, .string ⟨body.toArray⟩, .int .i64 nonce] rfl rfl HTH.out HI.out H1.out ?_)
      refine bodyPost_ret (v := .tuple #[.slice (some ⟨g, 0, none⟩) es.length cp, .int .i64 0]) (by simp [results, Tryd.f33, go_sem]) rfl ⟨_, rfl, ?_, ?_⟩
      · have hs := HSET.out
        simp only [if_true, ite_true] at hs
        rw [hs]
        exact hput.1.row (.inl (by rw [List.length_set]; omega))
      · exact B6.grown hput.2 B6.size (fun k hk => by
          have h := ho6.block k (by simpa [Value.ownBlock] using hk)
          exact h.1)
    | false =>
      go_wp2_with fail
      have hba := (Below.refl w6.heap.size w6).alloc (Nat.le_refl _) (.cells #[.int .u8 (kind : Int), .string ⟨key.toArray⟩, .string ⟨room.toArray⟩, .string ⟨sender.toArray⟩, .int .u8 (kind : Int), .string ⟨key.toArray⟩, .string ⟨body.toArray⟩, .int .i64 nonce] 91)
      have ho7 := ho6.low hba
      have B7 := B6.trans (hba.mono B6.size)
      have hz7 := World.size_alloc w6 (.cells #[.int .u8 (kind : Int), .string ⟨key.toArray⟩, .string ⟨room.toArray⟩, .string ⟨sender.toArray⟩, .int .u8 (kind : Int), .string ⟨key.toArray⟩, .string ⟨body.toArray⟩, .int .i64 nonce] 91)
      have hv7 : (w6.alloc (.cells #[.int .u8 (kind : Int), .string ⟨key.toArray⟩, .string ⟨room.toArray⟩, .string ⟨sender.toArray⟩, .int .u8 (kind : Int), .string ⟨key.toArray⟩, .string ⟨body.toArray⟩, .int .i64 nonce] 91)).heap[w6.heap.size]? = some (.cells (cellL ⟨room, sender, kind, key, body, nonce⟩).toArray 91 (0, 0)) := heap_alloc_new w6 _
      have hnb : Value.ownBlock (.slice p es.length cp) ≠ some w6.heap.size := fun e => by
        have := (ho6.block _ e).2
        omega
      clear hba c0 c1 c2 c3 c4 c5 c6 c7 C6
      generalize w6.alloc (.cells #[.int .u8 (kind : Int), .string ⟨key.toArray⟩, .string ⟨room.toArray⟩, .string ⟨sender.toArray⟩, .int .u8 (kind : Int), .string ⟨key.toArray⟩, .string ⟨body.toArray⟩, .int .i64 nonce] 91) = w7 at *
      refine (insert_any w.heap.size _ es ⟨room, sender, kind, key, body, nonce⟩ at_ w6.heap.size w7 ho7 HAT.out hl B7.size hv7 hnb).mono ?_
      rintro e w8 ⟨v8, rfl, ho8, hgr⟩
      have B8 := B7.grown hgr B7.size (fun k hk => (ho7.block k hk).1)
      go_wp2_with fail
      refine bodyPost_ret (v := .tuple #[v8, .int .i64 0]) (by simp [results, Tryd.f33, go_sem]) rfl ⟨_, rfl, ?_, B8⟩
      have hs := HSET.out
      simp only [Bool.false_eq_true, if_false, ite_false] at hs
      have hp := HSL.out
      rw [hs] at hp ⊢
      exact ho8.row (.inl hp)
end Left
end Go.Proofs.YtbgjoefpnjgdkaaDoor
