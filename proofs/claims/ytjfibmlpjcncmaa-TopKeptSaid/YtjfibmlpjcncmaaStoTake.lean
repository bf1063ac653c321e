/- The walk of store.take. -/
import Derived.Test.YtjfibmlpjcncmaaStoPut
import Derived.Test.YtjfibmlpjcncmaaOctAll
import Derived.Test.YtjfibmlpjcncmaaHeldIn
import Derived.Laws.NewBlocks
import Derived.Outline
namespace Go.Proofs.Ytjfibmlpjcncmaa
open Go.RowKit
set_option linter.unusedVariables false
set_option linter.unusedSimpArgs false
set_option maxRecDepth 4000
/-- append as it stands: the walk does not open it -/
def appStoTake (ats : Array TypeId) (ty : TypeId) (args : Array Value) : Sem Value := Builtin.append_ ats ty args
theorem appStoTake_fold (ats : Array TypeId) (ty : TypeId) (args : Array Value) : Builtin.append_ ats ty args = appStoTake ats ty args := rfl
attribute [local go_sem ↓] appStoTake_fold
namespace Sto
open Oct Crc Disk Jrn

/-- what a record tells -/
def takeR (es : List (List UInt8)) (c : Nat) (r : List UInt8) : Option (List (List UInt8) × Nat) :=
  if (allR r).2 ≠ 0 then none else match (allR r).1 with
    | [a, b] => if a = [101] then some (es ++ [b], c)
      else if a = [99] then (if (getNum b).2.2 ≠ 0 then none else if (getNum b).2.1 < b.length then none else if 1048576 < (getNum b).1 then none else some (es, max c (getNum b).1))
      else none
    | _ => none

/-- a block of two cells, none of them frozen -/
structure Pair (n : Nat) (w : World) (a b : Value) : Prop where
  size : n < w.heap.size
  a0 : w.cell? ⟨n, 0, none⟩ = some a
  a1 : w.cell? ⟨n, 1, none⟩ = some b
  f0 : w.frozen? ⟨n, 0, none⟩ = false
  f1 : w.frozen? ⟨n, 1, none⟩ = false

theorem Pair.made (w : World) (a b : Value) (t : TypeId) : Pair w.heap.size (w.alloc (.cells #[a, b] t)) a b :=
  ⟨by simp, World.cell?_alloc_mark w _ t (0, 0) 0, World.cell?_alloc_mark w _ t (0, 0) 1, (World.frozen?_alloc_mark w _ t 0 0 0).trans (by simp), (World.frozen?_alloc_mark w _ t 0 0 1).trans (by simp)⟩

theorem Pair.below {n B : Nat} {w w' : World} {a b : Value} (h : Pair n w a b) (hB : n < B) (hb : Below B w w') : Pair n w' a b := by
  have c1 := fun j => hb.cell (p := ⟨n, j, none⟩) hB
  have f1 := fun j => hb.frozen (p := ⟨n, j, none⟩) hB
  exact ⟨Nat.lt_of_lt_of_le h.size hb.size, (c1 0).trans h.a0, (c1 1).trans h.a1, (f1 0).trans h.f0, (f1 1).trans h.f1⟩

theorem Pair.drew {n : Nat} {w : World} {a b : Value} (h : Pair n w a b) : Pair n w.drew a b := ⟨h.size, h.a0, h.a1, h.f0, h.f1⟩

theorem Pair.grown {n : Nat} {w w' : World} {row : Option Nat} {a b : Value} (h : Pair n w a b) (hg : w.grownBy w' row) (hne : some n ≠ row) : Pair n w' a b := by
  have hb := hg.block n h.size hne
  have k : ∀ j, w'.cell? ⟨n, j, none⟩ = w.cell? ⟨n, j, none⟩ := fun j => by simp [World.cell?, hb]
  have g : ∀ j, w'.frozen? ⟨n, j, none⟩ = w.frozen? ⟨n, j, none⟩ := fun j => by simp [World.frozen?, hb]
  exact ⟨Nat.lt_of_lt_of_le h.size hg.size, (k 0).trans h.a0, (k 1).trans h.a1, (g 0).trans h.f0, (g 1).trans h.f1⟩

theorem Pair.set0 {n : Nat} {w : World} {a b : Value} (h : Pair n w a b) (x : Value) : Pair n (w.setCell ⟨n, 0, none⟩ x) x b :=
  ⟨by simpa [World.setCell] using h.size, World.cell?_setCell_same' _ _ _ (by rw [h.a0]; rfl), (World.cell?_setCell_other _ _ _ _ (by simp)).trans h.a1, by rw [World.frozen?_setCell]; exact h.f0, by rw [World.frozen?_setCell]; exact h.f1⟩
theorem Pair.set1 {n : Nat} {w : World} {a b : Value} (h : Pair n w a b) (x : Value) : Pair n (w.setCell ⟨n, 1, none⟩ x) a x :=
  ⟨by simpa [World.setCell] using h.size, (World.cell?_setCell_other _ _ _ _ (by simp)).trans h.a0, World.cell?_setCell_same' _ _ _ (by rw [h.a1]; rfl), by rw [World.frozen?_setCell]; exact h.f0, by rw [World.frozen?_setCell]; exact h.f1⟩

theorem two_cells {base : Nat} {w : World} {v : Value} {a b : List UInt8} (h : OwnS base w v [a, b]) : ∃ g cap, v = .slice (some ⟨g, 0, none⟩) 2 cap ∧ w.cell? ⟨g, 0, none⟩ = some (.string ⟨a.toArray⟩) ∧ w.cell? ⟨g, 1, none⟩ = some (.string ⟨b.toArray⟩) ∧ base ≤ g ∧ g < w.heap.size := by
  unfold OwnS at h
  obtain ⟨g, cap, rfl⟩ := ownsRow_succ (k := 1) h
  refine ⟨g, cap, rfl, ?_, ?_, (h.lt g rfl).1, (h.lt g rfl).2⟩
  · have := h.cells (g := g) rfl 0 (.string ⟨a.toArray⟩) (by simp [strsV])
    simpa [Addr.add] using this
  · have := h.cells (g := g) rfl 1 (.string ⟨b.toArray⟩) (by simp [strsV])
    simpa [Addr.add] using this

theorem grownBy_at (W : World) (b o : Nat) (v : Value) : W.grownBy (W.setCell ⟨b, o, none⟩ v) (some b) :=
  ⟨rfl, rfl, rfl, (KeepsWalks.setCell W _ v).size, fun k _ hk => Below.heap_setCell _ _ _ k (fun e => hk (by rw [e]))⟩

theorem own_form {base : Nat} {w : World} {v : Value} {ls : List (List UInt8)} (h : OwnS base w v ls) : ∃ p cap, v = .slice p ls.length cap := by
  rcases h.2 with ⟨rfl, h0⟩ | ⟨g, cap, cur, rfl, _⟩
  · exact ⟨none, 0, by rw [h0]⟩
  · exact ⟨_, _, rfl⟩

/-- behind a take: false, or true and what was told -/
def Took (base nb : Nat) (W : World) (o : Option (List (List UInt8) × Nat)) (e : Ending) (W' : World) : Prop :=
  match o with
  | none => e = .returned (.bool false) ∧ Below base W W'
  | some (es, c) => e = .returned (.bool true) ∧ (∃ v, Pair nb W' v (.int .i64 (c : Int)) ∧ W'.ownsRow base 9 1 v es.length (strsV es)) ∧ Below nb W W' ∧ ∀ k, k < base → k ≠ nb → W'.heap[k]? = W.heap[k]?

set_option maxHeartbeats 2000000 in
theorem take_any (base nb c : Nat) (hnb : nb < base) (es : List (List UInt8)) (v : Value) (r : List UInt8) (hr : r.length ≤ maxLen) (hes : (es.length : Int) ≤ 2097152) (hc : (c : Int) ≤ 1048576) (W : World) (hbase : base ≤ W.heap.size) (hP : Pair nb W v (.int .i64 (c : Int))) (hrow : W.ownsRow base 9 1 v es.length (strsV es)) :
    Calls Try.prog 72 #[.pointer (some ⟨nb, 0, none⟩), .string ⟨r.toArray⟩] W (Took base nb W (takeR es c r)) := by
  obtain ⟨i0, hi, hz0, hz1, hz2⟩ := info_parts info_str
  have c1 := fun w => all_any r hr w
  have HT : Hid (takeR es c r = if (allR r).2 ≠ 0 then none else match (allR r).1 with
    | [a, b] => if a = [101] then some (es ++ [b], c)
      else if a = [99] then (if (getNum b).2.2 ≠ 0 then none else if (getNum b).2.1 < b.length then none else if 1048576 < (getNum b).1 then none else some (es, max c (getNum b).1))
      else none
    | _ => none) := Lib.hid rfl
  obtain ⟨ls, e, hq⟩ : ∃ ls e, allR r = (ls, e) := ⟨_, _, rfl⟩
  rw [hq] at c1 HT
  dsimp only at c1 HT
  have HP := Lib.hid hP
  have HR := Lib.hid hrow
  clear hr hq hP hrow
  have ht := HT.out
  by_cases he : e = 0
  · subst he
    rw [if_neg (by simp)] at ht
    by_cases hl : ls.length = 2
    · obtain ⟨a, b, rfl⟩ : ∃ a b, ls = [a, b] := by
        match ls, hl with
        | [a, b], _ => exact ⟨a, b, rfl⟩
      dsimp only at ht
      by_cases ha : a = [101]
      · subst ha
        rw [if_pos rfl] at ht
        rw [ht]
        clear HT ht
        refine callsIn_wide (n := 9).1 ?_
        refine callsIn_of_wp Try.func72 rfl trivial ?_ rfl
        simp only [Try.ntmps72, List.size_toArray, List.length_cons, List.length_nil, Nat.reduceAdd, Nat.reduceSub, Array.replicate_succ, Array.replicate_zero, List.push_toArray, List.append_toArray, List.nil_append, List.cons_append]
        gi_wp2_with fail
        refine ⟨trivial, (callsIn_wide.2 (c1 _)).mono ?_⟩
        rintro e w1 ⟨m, rfl, o, hb⟩
        obtain ⟨g, cap, rfl, g0, g1, gb, gl⟩ := two_cells o
        clear o c1
        have P1 := HP.out.below HP.out.size hb
        have R1 := own_kept HR.out hb
        have hng : g ≠ nb := by have := HP.out.size; omega
        have hbW := hb.mono hbase
        have hown : some g ≠ v.ownBlock := fun e => by have := (HR.out.lt _ e.symm).2; omega
        have P1' := Lib.hid P1
        have R1' := Lib.hid R1
        have BW := Lib.hid hbW
        have hsz := hb.size
        clear HP HR R1 hb hbW
        obtain ⟨kz, ka, kb, kf, kg⟩ := P1
        gi_wp2_with fail
        have hmo : Try.prog.follows .mixedOrders = true := by kernel_rfl
        obtain ⟨v', w2, hrun, hown', hgrow0, -⟩ := run_append_own (P := Try.prog) (w1.alloc (.cells #[.string ⟨b.toArray⟩] 9)).drew base 32 32 9 i0 (.string ⟨#[]⟩) 1 16 Try.underlying32 hi hz0 hz1 hz2 rfl (by decide) v es.length (strsV es) (R1'.out.alloc _).drew ⟨w1.heap.size, 0, none⟩ 1 1 [.string ⟨b.toArray⟩] rfl (cell_one_new _ _ _) (by simp [Value.oneCell']) (by unfold maxLen; omega) (by omega) (by simp; omega)
        rw [appStoTake_fold] at hrun
        have hgrow : (w1.alloc (.cells #[.string ⟨b.toArray⟩] 9)).grownBy w2 v.ownBlock := ⟨hgrow0.os, hgrow0.tape, hgrow0.output, hgrow0.size, hgrow0.block⟩
        obtain ⟨g', cap', rfl⟩ := ownsRow_succ hown'
        have hA : Below w1.heap.size w1 (w1.alloc (.cells #[.string ⟨b.toArray⟩] 9)) := (Below.refl _ _).alloc (Nat.le_refl _) _
        have P2 := (P1'.out.below P1'.out.size hA).grown hgrow (low_ne_row R1'.out (by omega))
        have hfr : ∀ k, k < base → k ≠ nb → (w2.setCell ⟨nb, 0, none⟩ (.slice (some ⟨g', 0, none⟩) (es.length + 1) cap')).heap[k]? = W.heap[k]? := fun k hk hkn => by
          have e1 := BW.out.block k hk
          have e2 := Below.heap_alloc w1 (.cells #[.string ⟨b.toArray⟩] 9) k (by omega)
          have e3 := hgrow.block k (by simp; omega) (low_ne_row R1'.out hk)
          rw [Below.heap_setCell _ ⟨nb, 0, none⟩ _ k (fun e => hkn e), e3, e2, e1]
        have FR := Lib.hid hfr
        clear hfr
        have B2 := ((BW.out.alloc (by omega) (.cells #[.string ⟨b.toArray⟩] 9))).grown hgrow (by simp; omega) (fun q hq => by have := (R1'.out.lt q hq).1; omega)
        have P2' := Lib.hid P2
        have B2' := Lib.hid B2
        obtain ⟨pz, pa, pb, pf, pg⟩ := P2
        have m4 := (hA.cell (p := ⟨nb, 0, none⟩) P1'.out.size).trans ka
        have mg := (hA.cell (p := ⟨g, 1, none⟩) gl).trans g1
        have hg2 : w2.cell? ⟨g, 1, none⟩ = some (.string ⟨b.toArray⟩) := by
          have hbk := hgrow.block g (by simp; omega) hown
          rw [← mg]; simp [World.cell?, hbk]
        have hg3 : (w2.setCell ⟨nb, 0, none⟩ (.slice (some ⟨g', 0, none⟩) (es.length + 1) cap')).cell? ⟨g, 1, none⟩ = some (.string ⟨b.toArray⟩) := by
          rw [World.cell?_setCell_other _ _ _ _ (by intro e; injection e with e1; exact hng e1.symm)]; exact hg2
        have hS : w1.drew.cell? ⟨g, 1, none⟩ = some (.string ⟨b.toArray⟩) := g1
        clear B2 hgrow0 hA
        refine wpIn_region_held (fun w' => w'.cell? ⟨g, 1, none⟩ = some (.string ⟨b.toArray⟩)) hmo ?_
        refine HeldIn.take (Plainly.of (by kernel_rfl)) 0 _ (.pointer (some ⟨nb, 0, none⟩)) rfl (by kernel_rfl) (by kernel_rfl) (fun _ _ _ h => h) hS ⟨by kernel_rfl, fun w h => by go_simp, fun _ => rfl⟩ ?_
        go_simp
        refine HeldIn.take (Plainly.of (by kernel_rfl)) 1 _ (.pointer (some ⟨nb, 0, none⟩)) rfl (by kernel_rfl) (by kernel_rfl) (fun _ _ _ h => h) hS ⟨by kernel_rfl, fun w h => by go_simp, fun _ => rfl⟩ ?_
        go_simp
        refine HeldIn.take (Plainly.of (by kernel_rfl)) 2 _ (.pointer (some ⟨nb, 0, none⟩)) rfl (by kernel_rfl) (by kernel_rfl) (fun _ _ _ h => h) hS ⟨by kernel_rfl, fun w h => by go_simp, fun _ => rfl⟩ ?_
        go_simp
        refine HeldIn.take (Plainly.of (by kernel_rfl)) 3 _ (.pointer (some ⟨nb, 0, none⟩)) rfl (by kernel_rfl) (by kernel_rfl) (fun _ _ _ h => h) hS ⟨by kernel_rfl, fun w h => by go_simp, fun _ => rfl⟩ ?_
        go_simp
        refine HeldIn.take (Plainly.of (by kernel_rfl)) 5 _ (.slice (some ⟨g, 0, none⟩) 2 cap) rfl (by kernel_rfl) (by kernel_rfl) (fun _ _ _ h => h) hS ⟨by kernel_rfl, fun w h => by go_simp, fun _ => rfl⟩ ?_
        go_simp
        refine HeldIn.take (Plainly.of (by kernel_rfl)) 6 _ (.pointer (some ⟨g, 1, none⟩)) rfl (by kernel_rfl) (by kernel_rfl) (fun _ _ _ h => h) hS ⟨by kernel_rfl, fun w h => by go_simp, fun _ => rfl⟩ ?_
        go_simp
        refine HeldIn.take (Plainly.of (by kernel_rfl)) 7 _ (.string ⟨b.toArray⟩) rfl (by kernel_rfl) (by kernel_rfl) (fun _ _ _ h => h) hS ⟨by kernel_rfl, fun w h => by go_simp, fun _ => rfl⟩ ?_
        go_simp
        refine HeldIn.all [4, 8] (by kernel_rfl) (by simp) (HeldAll.cons rfl (by kernel_rfl) (fun K hK => ?_) (HeldAll.cons rfl (by kernel_rfl) (fun K hK => ?_) HeldAll.nil))
        go_simp
        refine hK _ _ hS ?_
        clear hK K
        refine HeldIn.all [8] (by kernel_rfl) (by simp) (HeldAll.cons rfl (by kernel_rfl) (fun K hK => ?_) HeldAll.nil)
        go_simp
        refine hK _ _ mg ?_
        clear hK K
        rotate_left
        go_simp
        refine hK _ _ mg ?_
        clear hK K
        refine HeldIn.all [4] (by kernel_rfl) (by simp) (HeldAll.cons rfl (by kernel_rfl) (fun K hK => ?_) HeldAll.nil)
        go_simp
        refine hK _ _ mg ?_
        clear hK K
        all_goals
          refine HeldIn.all [9] (by kernel_rfl) (by simp) (HeldAll.cons rfl (by kernel_rfl) (fun K hK => ?_) HeldAll.nil)
          go_simp
          refine hK _ _ hg2 ?_
          clear hK K
          refine HeldIn.take (Plainly.of (by kernel_rfl)) 10 _ (.pointer (some ⟨nb, 0, none⟩)) rfl (by kernel_rfl) (by kernel_rfl) (fun _ _ _ h => h) hg2 ⟨by kernel_rfl, fun w h => by go_simp, fun _ => rfl⟩ ?_
          go_simp
          refine HeldIn.take (Plainly.of (by kernel_rfl)) 11 _ (.pointer (some ⟨nb, 0, none⟩)) rfl (by kernel_rfl) (by kernel_rfl) (fun _ _ _ h => h) hg2 ⟨by kernel_rfl, fun w h => by go_simp, fun _ => rfl⟩ ?_
          go_simp
          refine HeldIn.all [12] (by kernel_rfl) (by simp) (HeldAll.cons rfl (by kernel_rfl) (fun K hK => ?_) HeldAll.nil)
          go_simp
          refine hK _ _ hg3 ?_
          clear hK K
          refine HeldIn.done (by kernel_rfl) ?_ _
          gi_wp2
          go_ret
          have hl1 : (es ++ [b]).length = es.length + 1 := by simp
          refine ⟨rfl, ⟨_, P2'.out.set0 _, ?_⟩, (B2'.out.mono (Nat.le_of_lt hnb)).setCell (p := ⟨nb, 0, none⟩) (Nat.le_refl _) _, FR.out⟩
          rw [strsV_append, hl1]
          exact hown'.kept (grownBy_setCell' _ _ _) (.inr (low_ne_row hown' (by omega)).symm)
      · rw [if_neg ha] at ht
        have hab : (a == [101]) = false := by simpa using ha
        by_cases hb9 : a = [99]
        · subst hb9
          rw [if_pos rfl] at ht
          have c2 := fun w => getNum_any b w
          obtain ⟨n, u, e, hg, h0, h1⟩ := getNum_spec b
          rw [hg] at ht c2
          dsimp only at ht c2
          by_cases he : e = 0
          · subst he
            rw [if_neg (by simp)] at ht
            have hn := (h0 rfl).1
            clear h0 h1 hg
            by_cases hu : u < b.length
            · rw [if_pos hu] at ht
              have hui : (u : Int) < (b.length : Int) := by omega
              clear hu hn
              rw [ht]
              clear HT ht
              go_enter Try.func72, Try.ntmps72
              go_wp2_with fail
              refine (c1 _).mono ?_
              rintro e w1 ⟨m, rfl, o, hb⟩
              obtain ⟨g, cap, rfl, g0, g1, gb, gl⟩ := two_cells o
              clear o c1
              have P1 := HP.out.below HP.out.size hb
              have R1 := own_kept HR.out hb
              have hbW := hb.mono hbase
              have P1' := Lib.hid P1
              have R1' := Lib.hid R1
              have BW := Lib.hid hbW
              clear HP HR R1 hb hbW
              obtain ⟨kz, ka, kb, kf, kg⟩ := P1
              go_wp2_with fail
              refine (c2 _).mono ?_
              rintro e w2 ⟨rfl, rfl⟩
              go_wp2_with fail
              go_ret
              exact ⟨rfl, BW.out⟩
            · rw [if_neg hu] at ht
              have hui : ¬ (u : Int) < (b.length : Int) := by omega
              clear hu
              by_cases hm : 1048576 < n
              · rw [if_pos hm] at ht
                have hmi : (1048576 : Int) < (n : Int) := by omega
                clear hm hn
                rw [ht]
                clear HT ht
                go_enter Try.func72, Try.ntmps72
                go_wp2_with fail
                refine (c1 _).mono ?_
                rintro e w1 ⟨m, rfl, o, hb⟩
                obtain ⟨g, cap, rfl, g0, g1, gb, gl⟩ := two_cells o
                clear o c1
                have P1 := HP.out.below HP.out.size hb
                have R1 := own_kept HR.out hb
                have hbW := hb.mono hbase
                have P1' := Lib.hid P1
                have R1' := Lib.hid R1
                have BW := Lib.hid hbW
                clear HP HR R1 hb hbW
                obtain ⟨kz, ka, kb, kf, kg⟩ := P1
                go_wp2_with fail
                refine (c2 _).mono ?_
                rintro e w2 ⟨rfl, rfl⟩
                go_wp2_with fail
                go_ret
                exact ⟨rfl, BW.out⟩
              · rw [if_neg hm] at ht
                have hmi : (n : Int) ≤ 1048576 := by omega
                clear hm hn
                rw [ht]
                clear HT ht
                go_enter Try.func72, Try.ntmps72
                go_wp2_with fail
                refine (c1 _).mono ?_
                rintro e w1 ⟨m, rfl, o, hb⟩
                obtain ⟨g, cap, rfl, g0, g1, gb, gl⟩ := two_cells o
                clear o c1
                have P1 := HP.out.below HP.out.size hb
                have R1 := own_kept HR.out hb
                have hbW := hb.mono hbase
                have P1' := Lib.hid P1
                have R1' := Lib.hid R1
                have BW := Lib.hid hbW
                clear HP HR R1 hb hbW
                obtain ⟨kz, ka, kb, kf, kg⟩ := P1
                go_wp2_with fail
                refine (c2 _).mono ?_
                rintro e w2 ⟨rfl, rfl⟩
                go_wp2_with fail
                go_ret
                have hmx : ((max c n : Nat) : Int) = max (c : Int) (n : Int) := by omega
                refine ⟨rfl, ⟨v, ?_, ?_⟩, (BW.out.mono (Nat.le_of_lt hnb)).setCell (p := ⟨nb, 1, none⟩) (Nat.le_refl _) _, fun k hk hkn => by rw [Below.heap_setCell _ ⟨nb, 1, none⟩ _ k (fun e => hkn e)]; exact BW.out.block k hk⟩
                · rw [hmx]; exact P1'.out.set1 _
                · exact R1'.out.kept (grownBy_at _ nb 1 _) (.inr (low_ne_row R1'.out (by omega)).symm)
          · rw [if_pos he] at ht
            have hei : ¬ (e : Int) = 0 := by omega
            clear h0 h1 hg he
            rw [ht]
            clear HT ht
            go_enter Try.func72, Try.ntmps72
            go_wp2_with fail
            refine (c1 _).mono ?_
            rintro e w1 ⟨m, rfl, o, hb⟩
            obtain ⟨g, cap, rfl, g0, g1, gb, gl⟩ := two_cells o
            clear o c1
            have P1 := HP.out.below HP.out.size hb
            have R1 := own_kept HR.out hb
            have hbW := hb.mono hbase
            have P1' := Lib.hid P1
            have R1' := Lib.hid R1
            have BW := Lib.hid hbW
            clear HP HR R1 hb hbW
            obtain ⟨kz, ka, kb, kf, kg⟩ := P1
            go_wp2_with fail
            refine (c2 _).mono ?_
            rintro e w2 ⟨rfl, rfl⟩
            go_wp2_with fail
            go_ret
            exact ⟨rfl, BW.out⟩
        · rw [if_neg hb9] at ht
          have hac : (a == [99]) = false := by simpa using hb9
          clear hb9 ha
          rw [ht]
          clear HT ht
          go_enter Try.func72, Try.ntmps72
          go_wp2_with fail
          refine (c1 _).mono ?_
          rintro e w1 ⟨m, rfl, o, hb⟩
          obtain ⟨g, cap, rfl, g0, g1, gb, gl⟩ := two_cells o
          clear o c1
          have P1 := HP.out.below HP.out.size hb
          have R1 := own_kept HR.out hb
          have hbW := hb.mono hbase
          have P1' := Lib.hid P1
          have R1' := Lib.hid R1
          have BW := Lib.hid hbW
          clear HP HR R1 hb hbW
          obtain ⟨kz, ka, kb, kf, kg⟩ := P1
          go_wp2_with fail
          go_ret
          exact ⟨rfl, BW.out⟩
    · have ht2 : takeR es c r = none := by
        rw [ht]
        match ls, hl with
        | [], _ => rfl
        | [_], _ => rfl
        | [_, _], h => exact absurd rfl h
        | _ :: _ :: _ :: _, _ => rfl
      have hli : ¬ (ls.length : Int) = 2 := by omega
      clear ht hl
      have ht := ht2
      clear ht2
      rw [ht]
      clear HT ht
      go_enter Try.func72, Try.ntmps72
      go_wp2_with fail
      refine (c1 _).mono ?_
      rintro e w1 ⟨m, rfl, o, hb⟩
      obtain ⟨pm, cm, rfl⟩ := own_form o
      have hbW := hb.mono hbase
      clear o c1 HP HR hb
      go_wp2_with fail
      go_ret
      exact ⟨rfl, hbW⟩
  · rw [if_pos (by simpa using he)] at ht
    have hei : ¬ (e : Int) = 0 := by omega
    clear he
    rw [ht]
    clear HT ht
    go_enter Try.func72, Try.ntmps72
    go_wp2_with fail
    refine (c1 _).mono ?_
    rintro e w1 ⟨m, rfl, o, hb⟩
    have hbW := hb.mono hbase
    clear o c1 HP HR hb
    go_wp2_with fail
    go_ret
    exact ⟨rfl, hbW⟩
end Sto
end Go.Proofs.Ytjfibmlpjcncmaa
