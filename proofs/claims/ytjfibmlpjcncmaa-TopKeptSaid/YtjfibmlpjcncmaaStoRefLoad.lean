/- The walk of the document's Load. -/
import Derived.Test.YtjfibmlpjcncmaaStoLoad
namespace Go.Proofs.Ytjfibmlpjcncmaa
open Go.RowKit
set_option linter.unusedVariables false
set_option linter.unusedSimpArgs false
set_option maxRecDepth 4000
/-- append as it stands: the walk does not open it -/
def appStoRefLoad (ats : Array TypeId) (ty : TypeId) (args : Array Value) : Sem Value := Builtin.append_ ats ty args
theorem appStoRefLoad_fold (ats : Array TypeId) (ty : TypeId) (args : Array Value) : Builtin.append_ ats ty args = appStoRefLoad ats ty args := rfl
attribute [local go_sem ↓] appStoRefLoad_fold
namespace Sto
open Oct Crc Disk Jrn

theorem LoadI.below {w w1 wr w2 : World} {m v : Value} {ls es : List (List UInt8)} {c : Nat} (I : LoadI w w1 wr m ls es c v) (hb : Below wr.heap.size wr w2) : LoadI w w1 w2 m ls es c v :=
  ⟨I.res.below I.res.size hb, I.out.below I.out.size hb, own_kept I.own hb, own_kept I.row hb, I.low.trans (hb.mono I.low.size), Nat.le_trans I.grow hb.size⟩

theorem Pair.far {n m : Nat} {w : World} {a b : Value} (h : Pair n w a b) (hne : m ≠ n) (o : Nat) (u : Value) : Pair n (w.setCell ⟨m, o, none⟩ u) a b := by
  refine h.same ?_ (by simp [World.setCell])
  exact Below.heap_setCell _ ⟨m, o, none⟩ _ n (fun e => hne e.symm)

theorem LoadI.count {w w1 wr : World} {m v : Value} {ls es : List (List UInt8)} {c : Nat} (I : LoadI w w1 wr m ls es c v) (n : Nat) (hs : w.heap.size + 2 ≤ w1.heap.size := by omega) : LoadI w w1 (wr.setCell ⟨w.heap.size + 1, 1, none⟩ (.int .i64 ((max c n : Nat) : Int))) m ls es (max c n) v :=
  ⟨I.res.far (by omega) _ _, I.out.set1 _, I.own.kept (grownBy_at _ _ _ _) (.inr (low_ne_row I.own (by omega)).symm), I.row.kept (grownBy_at _ _ _ _) (.inr (low_ne_row I.row (by omega)).symm), I.low.setCell (p := ⟨w.heap.size + 1, 1, none⟩) (by simp) _, by simpa [World.setCell] using I.grow⟩

theorem LoadI.entry {w w1 wr w3 : World} {v v' : Value} {ls es : List (List UInt8)} {c g n cap : Nat} {b : List UInt8} {tmp : Obj} (I : LoadI w w1 wr (.slice (some ⟨g, 0, none⟩) n cap) ls es c v) (hg : g < w1.heap.size) (hs : w.heap.size + 2 ≤ w1.heap.size)
    (hgrow : (wr.alloc tmp).grownBy w3 v.ownBlock) (hown' : w3.ownsRow w1.heap.size 9 1 v' (es.length + 1) (strsV es ++ [.string ⟨b.toArray⟩])) :
    LoadI w w1 (w3.setCell ⟨w.heap.size + 1, 0, none⟩ v') (.slice (some ⟨g, 0, none⟩) n cap) ls (es ++ [b]) c v' := by
  have hA : Below wr.heap.size wr (wr.alloc tmp) := (Below.refl _ _).alloc (Nat.le_refl _) _
  have I' := I.below hA
  refine ⟨(I'.res.grown hgrow (low_ne_row I'.own (by omega))).far (by omega) _ _, (I'.out.grown hgrow (low_ne_row I'.own (by omega))).set0 _, ?_, ?_, ?_, ?_⟩
  · have h := hown'.kept (grownBy_at _ (w.heap.size + 1) 0 v') (.inr (low_ne_row hown' (by omega)).symm)
    have hl : (es ++ [b]).length = es.length + 1 := by simp
    rw [strsV_append, hl]
    exact h
  · have h := I'.row.kept hgrow (.inr (by simpa [Value.ownBlock] using low_ne_row I'.own hg))
    exact h.kept (grownBy_at _ (w.heap.size + 1) 0 v') (.inr (low_ne_row h (by omega)).symm)
  · exact (I'.low.grown hgrow I'.low.size (fun q hq => by have := (I'.own.lt q hq).1; omega)).setCell (p := ⟨w.heap.size + 1, 0, none⟩) (by simp) _
  · have := hgrow.size
    have := I'.grow
    simp [World.setCell] at *
    omega

set_option maxHeartbeats 4000000 in
theorem refLoad_any (l : List UInt8) (hl : (l.length : Int) ≤ 2097152) (w : World) :
    Calls Try.prog 51 #[.string ⟨l.toArray⟩] w fun e w' => ∃ v, e = .returned (.tuple #[.agg #[v, .int .i64 ((loadR l).2.1 : Int)], .int .i64 ((loadR l).2.2 : Int)]) ∧ OwnS w.heap.size w' v (loadR l).1 ∧ Below w.heap.size w w' := by
  obtain ⟨i0, hi, hz0, hz1, hz2⟩ := info_parts info_str
  have c1 := fun w => refRead_any l hl w
  have hcnt : 5 * (readR l).1.length ≤ l.length := by
    have := recs_length (l.length + 1) 0 l (by omega)
    simp only [readR, List.length_map]
    omega
  have hsh := (readR_spec l).2.1
  have HL : Hid (loadR l = match loadF (readR l).1 [] 0 with
    | none => ([], 0, 6)
    | some (es, c) => (es, c, 0)) := Lib.hid rfl
  generalize readR l = q at *
  obtain ⟨ls, gd⟩ := q
  dsimp only at c1 hcnt hsh HL
  have hll : ls.length ≤ 500000 := by omega
  have SH := Lib.hid hsh
  have LL := Lib.hid hll
  clear hcnt hsh hll
  go_enter Try.func51, Try.ntmps51
  go_wp2_with fail
  refine (c1 _).mono ?_
  rintro e w1 ⟨m, rfl, o, hb⟩
  have P0 := (Pair.made w (.slice none 0 0) (.int .i64 0) 61).below (by simp) (((Below.refl (w.alloc (.cells #[.slice none 0 0, .int .i64 0] 61)).heap.size _).alloc (Nat.le_refl _) (.cells #[.slice none 0 0, .int .i64 0] 61)).trans (hb.mono (by simp)))
  have P1 := (Pair.made (w.alloc (.cells #[.slice none 0 0, .int .i64 0] 61)) (.slice none 0 0) (.int .i64 0) 61).below (by simp) hb
  have B : Below w.heap.size w w1 := (((Below.refl _ _).alloc (Nat.le_refl _) _).alloc (by simp) _).trans (hb.mono (by simp <;> omega))
  rw [World.size_alloc] at P1
  obtain ⟨pm, cm, rfl⟩ := own_form o
  unfold OwnS at o
  have hgm : ∀ g, pm = some ⟨g, 0, none⟩ → w.heap.size + 2 ≤ g ∧ g < w1.heap.size := fun g hg => by
    subst hg
    have := o.lt g rfl
    simp at this
    omega
  have hs1 : w.heap.size + 2 ≤ w1.heap.size := by have := hb.size; simp at this; omega
  have I0 : LoadI w w1 w1 (.slice pm ls.length cm) ls [] 0 (.slice none 0 0) := ⟨P0, P1, World.ownsRow_nil _ _ _ _, ownsRow_mono (by simp) o, B, Nat.le_refl _⟩
  clear P0 P1 B o hb c1
  go_wp2_with fail
  go_loopw [21] (fun i wr => ∃ (j : Nat) (es : List (List UInt8)) (c : Nat) (v : Value), j ≤ ls.length ∧ i = .int .i64 (j : Int) ∧ Hid (loadF (ls.drop j) es c = loadF ls [] 0) ∧ es.length ≤ j ∧ c ≤ 1048576 ∧ LoadI w w1 wr (.slice pm ls.length cm) ls es c v) (fun i _ => ls.length - (intOf i).toNat)
  case atStart => exact ⟨0, [], 0, _, by omega, rfl, Lib.hid rfl, by simp, by omega, I0⟩
  case round =>
    obtain ⟨j, es, c, v, hj, rfl, HF, hes, hc, I⟩ := hrel
    clear I0
    by_cases hlt : j < ls.length
    · have hltI : (j : Int) < (ls.length : Int) := by omega
      have hjI : (j : Int) ≤ 2097152 := by have := LL.out; omega
      obtain ⟨r, hr⟩ : ∃ r, ls[j] = r := ⟨_, rfl⟩
      obtain ⟨g, rfl⟩ : ∃ g, pm = some ⟨g, 0, none⟩ := by
        rcases I.row.2 with ⟨_, h0⟩ | ⟨g, cap', cur, hv, _⟩
        · omega
        · injection hv with e1 e2 e3; exact ⟨g, e1⟩
      have hgg := hgm g rfl
      have hcell : wr.cell? ⟨g, j, none⟩ = some (.string ⟨r.toArray⟩) := by
        have := I.row.cells (g := g) rfl j (.string ⟨r.toArray⟩) (by simp [strsV, hlt, hr])
        rwa [Addr.add_lit, Nat.zero_add] at this
      have hr8 : r.length ≤ 8192 := by rw [← hr]; exact SH.out _ (List.getElem_mem hlt)
      have hF := HF.out
      rw [List.drop_eq_getElem_cons hlt, hr, loadF] at hF
      have HF2 := Lib.hid hF
      have cA := fun w => refAll_any r w
      have HT : Hid (takeR es c r = if (allR r).2 ≠ 0 then none else match (allR r).1 with
        | [a, b] => if a = [101] then some (es ++ [b], c)
          else if a = [99] then (if (getNum b).2.2 ≠ 0 then none else if (getNum b).2.1 < b.length then none else if 1048576 < (getNum b).1 then none else some (es, max c (getNum b).1))
          else none
        | _ => none) := Lib.hid rfl
      obtain ⟨rs, e, hq⟩ : ∃ rs e, allR r = (rs, e) := ⟨_, _, rfl⟩
      rw [hq] at cA HT
      dsimp only at cA HT
      have HJ := Lib.hid (And.intro hes (And.intro hc (And.intro hj hlt)))
      clear hF HF hr hr8 hes hc hj hlt hq
      by_cases he : e = 0
      · subst he
        by_cases hlen : rs.length = 2
        · obtain ⟨a, b, rfl⟩ : ∃ a b, rs = [a, b] := by
            match rs, hlen with
            | [a, b], _ => exact ⟨a, b, rfl⟩
          by_cases ha : a = [101]
          · subst ha
            have hk : takeR es c r = some (es ++ [b], c) := by
              rw [HT.out]; rfl
            clear HT
            go_wp2_with fail
            refine (cA _).mono ?_
            rintro e w2 ⟨tv, rfl, o2, hb⟩
            replace I := I.below hb
            clear cA
            obtain ⟨gt, ct, rfl, g0, g1, gb, gl⟩ := two_cells o2
            clear o2 hb
            have hbd := takeR_bounds es c r _ _ hk HJ.out.2.1
            have hF := HF2.out
            rw [hk] at hF
            dsimp only at hF
            have HF3 := Lib.hid hF
            clear hF HF2 hk
            have hmo : Try.prog.follows .mixedOrders = true := by kernel_rfl
            have hesl : es.length ≤ 500000 := by have := HJ.out.1; have := HJ.out.2.2.1; have := LL.out; omega
            obtain ⟨v', w3, hrun, hown', hgrow0, -⟩ := run_append_own (P := Try.prog) (w2.alloc (.cells #[.string ⟨b.toArray⟩] 9)).drew w1.heap.size 32 32 9 i0 (.string ⟨#[]⟩) 1 16 Try.underlying32 hi hz0 hz1 hz2 rfl (by decide) v es.length (strsV es) (I.own.alloc _).drew ⟨w2.heap.size, 0, none⟩ 1 1 [.string ⟨b.toArray⟩] rfl (cell_one_new _ _ _) (by simp [Value.oneCell']) (by unfold maxLen; omega) (by omega) (by have := I.grow; simp; omega)
            rw [appStoRefLoad_fold] at hrun
            have hgrow : (w2.alloc (.cells #[.string ⟨b.toArray⟩] 9)).grownBy w3 v.ownBlock := ⟨hgrow0.os, hgrow0.tape, hgrow0.output, hgrow0.size, hgrow0.block⟩
            obtain ⟨g', cap', rfl⟩ := ownsRow_succ hown'
            have I' := I.entry hgg.2 hs1 hgrow hown'
            have hA : Below w2.heap.size w2 (w2.alloc (.cells #[.string ⟨b.toArray⟩] 9)) := (Below.refl _ _).alloc (Nat.le_refl _) _
            have m4 := (hA.cell (p := ⟨w.heap.size + 1, 0, none⟩) I.out.size).trans I.out.a0
            have mg := (hA.cell (p := ⟨gt, 1, none⟩) gl).trans g1
            have k4 := I.out.a0
            have P3 : Pair (w.heap.size + 1) w3 v (.int .i64 (c : Int)) := (I.out.below I.out.size hA).grown hgrow (low_ne_row I.own (by omega))
            obtain ⟨pz, pa, pb, pf, pg⟩ := P3
            have HI' := Lib.hid I'
            clear hgrow0 hgrow hown' I I' hA hesl
            go_wp2_with fail
            go_region
            all_goals go_wp2
            all_goals go_roundw
            case rel => exact ⟨j + 1, es ++ [b], c, _, by have := HJ.out.2.2.2; omega, by go_num, HF3, by have := HJ.out.1; omega, hbd.2.1, HI'.out⟩
            case measure => have := HJ.out.2.2.2; simp [intOf]; omega
          · have hab : (a == [101]) = false := by simpa using ha
            have cN := fun w => refGetNum_any b w
            obtain ⟨n, u, e, hg, h0, h1⟩ := getNum_spec b
            dsimp only at HT
            rw [hg] at HT cN
            dsimp only at HT cN
            by_cases hb9 : a = [99]
            · subst hb9
              by_cases he : e = 0
              · subst he
                have hub := (h0 rfl).2.2.2
                clear h0 h1 hg
                by_cases hu : u < b.length
                · have hui : ¬ (u : Int) = (b.length : Int) := by omega
                  have hk : takeR es c r = none := by
                    rw [HT.out]
                    simp [hu]
                  clear HT
                  clear hu hub
                  go_wp2_with fail
                  refine (cA _).mono ?_
                  rintro e w2 ⟨tv, rfl, o2, hb⟩
                  replace I := I.below hb
                  clear cA
                  obtain ⟨gt, ct, rfl, g0, g1, gb, gl⟩ := two_cells o2
                  clear o2 hb
                  go_wp2_with fail
                  refine (cN _).mono ?_
                  rintro e w3 ⟨rfl, hb⟩
                  replace I := I.below hb
                  have g0' := (hb.cell (p := ⟨gt, 0, none⟩) gl).trans g0
                  have g1' := (hb.cell (p := ⟨gt, 1, none⟩) gl).trans g1
                  clear g0 g1 hb cN
                  have hF := HF2.out
                  rw [hk] at hF
                  dsimp only at hF
                  have HE : Hid (loadR l = ([], 0, 6)) := Lib.hid (by rw [HL.out, ← hF])
                  clear hF HF2 hk HL
                  obtain ⟨kz, ka, kb, kf, kg⟩ := I.res
                  have B := I.low
                  clear I
                  go_wp2_with fail
                  refine bodyPost_ret (v := .tuple #[.agg #[.slice none 0 0, .int .i64 0], .int .i64 6]) (by simp [results, Try.results51, go_sem, *]) rfl ?_
                  rw [HE.out]
                  exact ⟨_, rfl, OwnS.nil _ _, (B.setCell (p := ⟨w.heap.size, 0, none⟩) (Nat.le_refl _) _).setCell (p := ⟨w.heap.size, 1, none⟩) (Nat.le_refl _) _⟩
                · have hui : (u : Int) = (b.length : Int) := by omega
                  by_cases hm : 1048576 < n
                  · have hmi : (1048576 : Int) < (n : Int) := by omega
                    have hk : takeR es c r = none := by
                      rw [HT.out]
                      simp [hu, hm]
                    clear HT
                    clear hu hub hm
                    go_wp2_with fail
                    refine (cA _).mono ?_
                    rintro e w2 ⟨tv, rfl, o2, hb⟩
                    replace I := I.below hb
                    clear cA
                    obtain ⟨gt, ct, rfl, g0, g1, gb, gl⟩ := two_cells o2
                    clear o2 hb
                    go_wp2_with fail
                    refine (cN _).mono ?_
                    rintro e w3 ⟨rfl, hb⟩
                    replace I := I.below hb
                    have g0' := (hb.cell (p := ⟨gt, 0, none⟩) gl).trans g0
                    have g1' := (hb.cell (p := ⟨gt, 1, none⟩) gl).trans g1
                    clear g0 g1 hb cN
                    have hF := HF2.out
                    rw [hk] at hF
                    dsimp only at hF
                    have HE : Hid (loadR l = ([], 0, 6)) := Lib.hid (by rw [HL.out, ← hF])
                    clear hF HF2 hk HL
                    obtain ⟨kz, ka, kb, kf, kg⟩ := I.res
                    have B := I.low
                    clear I
                    go_wp2_with fail
                    refine bodyPost_ret (v := .tuple #[.agg #[.slice none 0 0, .int .i64 0], .int .i64 6]) (by simp [results, Try.results51, go_sem, *]) rfl ?_
                    rw [HE.out]
                    exact ⟨_, rfl, OwnS.nil _ _, (B.setCell (p := ⟨w.heap.size, 0, none⟩) (Nat.le_refl _) _).setCell (p := ⟨w.heap.size, 1, none⟩) (Nat.le_refl _) _⟩
                  · have hmi : (n : Int) ≤ 1048576 := by omega
                    have hk : takeR es c r = some (es, max c n) := by
                      rw [HT.out]
                      simp [hu, hm]
                    clear HT
                    clear hu hub hm
                    go_wp2_with fail
                    refine (cA _).mono ?_
                    rintro e w2 ⟨tv, rfl, o2, hb⟩
                    replace I := I.below hb
                    clear cA
                    obtain ⟨gt, ct, rfl, g0, g1, gb, gl⟩ := two_cells o2
                    clear o2 hb
                    go_wp2_with fail
                    refine (cN _).mono ?_
                    rintro e w3 ⟨rfl, hb⟩
                    replace I := I.below hb
                    have g0' := (hb.cell (p := ⟨gt, 0, none⟩) gl).trans g0
                    have g1' := (hb.cell (p := ⟨gt, 1, none⟩) gl).trans g1
                    clear g0 g1 hb cN
                    have hbd := takeR_bounds es c r _ _ hk HJ.out.2.1
                    have hF := HF2.out
                    rw [hk] at hF
                    dsimp only at hF
                    have HF3 := Lib.hid hF
                    clear hF HF2 hk
                    have hmx : ((max c n : Nat) : Int) = max (c : Int) (n : Int) := by omega
                    have I' := I.count n
                    rw [hmx] at I'
                    obtain ⟨oz, oa, ob, of, og⟩ := I.out
                    have HI' := Lib.hid I'
                    clear I I' hmx
                    go_wp2_with fail
                    all_goals go_roundw
                    case rel => exact ⟨j + 1, es, max c n, _, by have := HJ.out.2.2.2; omega, by go_num, HF3, by have := HJ.out.1; omega, hbd.2.1, HI'.out⟩
                    case measure => have := HJ.out.2.2.2; simp [intOf]; omega
              · have hei : ¬ (e : Int) = 0 := by omega
                have hk : takeR es c r = none := by
                  rw [HT.out]
                  simp [he]
                clear HT
                clear h0 h1 hg he
                go_wp2_with fail
                refine (cA _).mono ?_
                rintro e w2 ⟨tv, rfl, o2, hb⟩
                replace I := I.below hb
                clear cA
                obtain ⟨gt, ct, rfl, g0, g1, gb, gl⟩ := two_cells o2
                clear o2 hb
                go_wp2_with fail
                refine (cN _).mono ?_
                rintro e w3 ⟨rfl, hb⟩
                replace I := I.below hb
                have g0' := (hb.cell (p := ⟨gt, 0, none⟩) gl).trans g0
                have g1' := (hb.cell (p := ⟨gt, 1, none⟩) gl).trans g1
                clear g0 g1 hb cN
                have hF := HF2.out
                rw [hk] at hF
                dsimp only at hF
                have HE : Hid (loadR l = ([], 0, 6)) := Lib.hid (by rw [HL.out, ← hF])
                clear hF HF2 hk HL
                obtain ⟨kz, ka, kb, kf, kg⟩ := I.res
                have B := I.low
                clear I
                go_wp2_with fail
                refine bodyPost_ret (v := .tuple #[.agg #[.slice none 0 0, .int .i64 0], .int .i64 6]) (by simp [results, Try.results51, go_sem, *]) rfl ?_
                rw [HE.out]
                exact ⟨_, rfl, OwnS.nil _ _, (B.setCell (p := ⟨w.heap.size, 0, none⟩) (Nat.le_refl _) _).setCell (p := ⟨w.heap.size, 1, none⟩) (Nat.le_refl _) _⟩
            · have hac : (a == [99]) = false := by simpa using hb9
              have hk : takeR es c r = none := by
                rw [HT.out]
                simp [ha, hb9]
              clear HT
              clear h0 h1 hg ha hb9
              go_wp2_with fail
              refine (cA _).mono ?_
              rintro e w2 ⟨tv, rfl, o2, hb⟩
              replace I := I.below hb
              clear cA
              obtain ⟨gt, ct, rfl, g0, g1, gb, gl⟩ := two_cells o2
              clear o2 hb
              go_wp2_with fail
              refine (cN _).mono ?_
              rintro e w3 ⟨rfl, hb⟩
              replace I := I.below hb
              have g0' := (hb.cell (p := ⟨gt, 0, none⟩) gl).trans g0
              have g1' := (hb.cell (p := ⟨gt, 1, none⟩) gl).trans g1
              clear g0 g1 hb cN
              have hF := HF2.out
              rw [hk] at hF
              dsimp only at hF
              have HE : Hid (loadR l = ([], 0, 6)) := Lib.hid (by rw [HL.out, ← hF])
              clear hF HF2 hk HL
              obtain ⟨kz, ka, kb, kf, kg⟩ := I.res
              have B := I.low
              clear I
              go_wp2_with fail
              refine bodyPost_ret (v := .tuple #[.agg #[.slice none 0 0, .int .i64 0], .int .i64 6]) (by simp [results, Try.results51, go_sem, *]) rfl ?_
              rw [HE.out]
              exact ⟨_, rfl, OwnS.nil _ _, (B.setCell (p := ⟨w.heap.size, 0, none⟩) (Nat.le_refl _) _).setCell (p := ⟨w.heap.size, 1, none⟩) (Nat.le_refl _) _⟩
        · have hk : takeR es c r = none := by
            rw [HT.out]
            match rs, hlen with
            | [], _ => rfl
            | [_], _ => rfl
            | [_, _], h => exact absurd rfl h
            | _ :: _ :: _ :: _, _ => rfl
          have hli : ¬ (rs.length : Int) = 2 := by omega
          clear HT hlen
          go_wp2_with fail
          refine (cA _).mono ?_
          rintro e w2 ⟨tv, rfl, o2, hb⟩
          replace I := I.below hb
          clear cA
          obtain ⟨pt, ct, rfl⟩ := own_form o2
          clear o2 hb
          have hF := HF2.out
          rw [hk] at hF
          dsimp only at hF
          have HE : Hid (loadR l = ([], 0, 6)) := Lib.hid (by rw [HL.out, ← hF])
          clear hF HF2 hk HL
          obtain ⟨kz, ka, kb, kf, kg⟩ := I.res
          have B := I.low
          clear I
          go_wp2_with fail
          refine bodyPost_ret (v := .tuple #[.agg #[.slice none 0 0, .int .i64 0], .int .i64 6]) (by simp [results, Try.results51, go_sem, *]) rfl ?_
          rw [HE.out]
          exact ⟨_, rfl, OwnS.nil _ _, (B.setCell (p := ⟨w.heap.size, 0, none⟩) (Nat.le_refl _) _).setCell (p := ⟨w.heap.size, 1, none⟩) (Nat.le_refl _) _⟩
      · have hei : ¬ (e : Int) = 0 := by omega
        have hk : takeR es c r = none := by
          rw [HT.out]
          rw [if_pos (by simpa using he)]
        clear HT
        clear he
        go_wp2_with fail
        refine (cA _).mono ?_
        rintro e w2 ⟨tv, rfl, o2, hb⟩
        replace I := I.below hb
        clear cA
        clear o2 hb
        have hF := HF2.out
        rw [hk] at hF
        dsimp only at hF
        have HE : Hid (loadR l = ([], 0, 6)) := Lib.hid (by rw [HL.out, ← hF])
        clear hF HF2 hk HL
        obtain ⟨kz, ka, kb, kf, kg⟩ := I.res
        have B := I.low
        clear I
        go_wp2_with fail
        refine bodyPost_ret (v := .tuple #[.agg #[.slice none 0 0, .int .i64 0], .int .i64 6]) (by simp [results, Try.results51, go_sem, *]) rfl ?_
        rw [HE.out]
        exact ⟨_, rfl, OwnS.nil _ _, (B.setCell (p := ⟨w.heap.size, 0, none⟩) (Nat.le_refl _) _).setCell (p := ⟨w.heap.size, 1, none⟩) (Nat.le_refl _) _⟩
    · have hj' : j = ls.length := by omega
      subst hj'
      have hF := HF.out
      rw [List.drop_length, loadF] at hF
      have HE : Hid (loadR l = (es, c, 0)) := Lib.hid (by rw [HL.out, ← hF])
      have HI := Lib.hid I
      have P0 := I.res
      have P1 := I.out
      clear hF HF HL I
      obtain ⟨kz, ka, kb, kf, kg⟩ := P0
      obtain ⟨oz, oa, ob, og, oh⟩ := P1
      obtain ⟨pv, cv, rfl⟩ := own_of HI.out.own
      go_wp2_with fail
      refine bodyPost_ret (v := .tuple #[.agg #[.slice pv es.length cv, .int .i64 (c : Int)], .int .i64 0]) (by simp [results, Try.results51, go_sem, *]) rfl ?_
      rw [HE.out]
      refine ⟨_, rfl, ?_, (HI.out.low.setCell (p := ⟨w.heap.size, 0, none⟩) (Nat.le_refl _) _).setCell (p := ⟨w.heap.size, 1, none⟩) (Nat.le_refl _) _⟩
      exact ownsRow_mono (by omega) ((HI.out.own.kept (grownBy_at _ w.heap.size 0 _) (.inr (low_ne_row HI.out.own (by omega)).symm)).kept (grownBy_at _ w.heap.size 1 _) (.inr (low_ne_row HI.out.own (by omega)).symm))
end Sto
end Go.Proofs.Ytjfibmlpjcncmaa
