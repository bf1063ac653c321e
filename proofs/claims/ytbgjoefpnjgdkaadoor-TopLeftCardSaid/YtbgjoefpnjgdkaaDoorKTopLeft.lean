/- The law TopLeft, by the contracts of what it calls. -/
import Derived.Test.YtbgjoefpnjgdkaaDoorKLeftSet
import Derived.Test.YtbgjoefpnjgdkaaDoorJ35
import Derived.Test.YtbgjoefpnjgdkaaDoorJ46
import Derived.Test.YtbgjoefpnjgdkaaDoorHashEq
import Derived.Test.YtbgjoefpnjgdkaaDoorTopBegins
namespace Go.Proofs.YtbgjoefpnjgdkaaDoor
open Go.RowKit
set_option linter.unusedVariables false
set_option linter.unusedSimpArgs false
set_option maxRecDepth 100000
namespace Left
open Named Sha
def eventL (e : Ev) : List Value := [.string ⟨e.room.toArray⟩, .string ⟨e.sender.toArray⟩, .int .u8 (e.kind : Int), .string ⟨e.key.toArray⟩, .string ⟨e.body.toArray⟩, .int .i64 e.nonce]
/-- a row of events lies there -/
def ERow (w : World) (v : Value) (ls : List Ev) : Prop :=
  (∃ p cap, v = .slice p 0 cap ∧ ls = []) ∨ ∃ b o cap, v = .slice (some ⟨b, o, none⟩) ls.length cap ∧ b < w.heap.size ∧ ∀ j (h : j < ls.length), w.rangeAt b (o + j * 6) (eventL ls[j])
theorem ERow.form {w : World} {v : Value} {ls : List Ev} (h : ERow w v ls) : ∃ p cap, v = .slice p ls.length cap := by
  rcases h with ⟨p, cap, rfl, rfl⟩ | ⟨b, o, cap, rfl, -⟩
  · exact ⟨_, _, rfl⟩
  · exact ⟨_, _, rfl⟩
theorem ERow.at {w : World} {p : Option Addr} {n cap : Nat} {ls : List Ev} (h : ERow w (.slice p n cap) ls) {j : Nat} (hj : j < ls.length) : ∃ b o, p = some ⟨b, o, none⟩ ∧ b < w.heap.size ∧ w.rangeAt b (o + j * 6) (eventL ls[j]) := by
  rcases h with ⟨p', cap', h1, rfl⟩ | ⟨b, o, cap', h1, h2, h3⟩
  · exact absurd hj (Nat.not_lt_zero _)
  · injection h1 with e1 e2 e3
    exact ⟨b, o, e1, h2, h3 j hj⟩
theorem fits_setL {es : List Ev} {x : Ev} (h : ∀ e ∈ es, Fits e) (hx : Fits x) : ∀ e ∈ setL es x, Fits e := by
  intro e he
  unfold setL at he
  split at he
  · rcases List.mem_or_eq_of_mem_set he with h1 | rfl
    · exact h e h1
    · exact hx
  · rw [List.mem_append, List.mem_cons] at he
    rcases he with h1 | rfl | h1
    · exact h e (List.mem_of_mem_take h1)
    · exact hx
    · exact h e (List.mem_of_mem_drop h1)
theorem fits_map {es : List Ev} (h : ∀ e ∈ es, Fits e) : ∀ e ∈ es.map redE, Fits e := by
  intro e he
  obtain ⟨x, hx, rfl⟩ := List.mem_map.1 he
  exact fits_red (h x hx)
theorem right_back {x : Ev} (h1 : rightB x = false) (h2 : rightB (redE x) = true) : checkE x ≠ 0 := by
  intro hc
  unfold rightB at h1 h2
  rw [redE_kind] at h2
  simp only [Bool.and_eq_true, decide_eq_true_eq] at h2
  rw [h2.1, hc] at h1
  simp at h1
theorem run_neq35 {R : List UInt8} (h : R.length = 32) (w : World) : (binOp .neq 30 (.agg (bytesV R).toArray) (.agg (bytesV R).toArray)).run Tryd.prog w = .ok (.bool false) w := by
  have h2 := hash_neq w R R h h
  simpa using h2
theorem run_neq_op {P : Program} {op : Oper} {ev : Operand → Value} {w : World} (t u : TypeId) (x y : Operand) (c d : Array Value) (v : Value) (ho : op.op = .binOp .neq t x y u) (hx : ev x = .agg c) (hy : ev y = .agg d)
    (hg : (eqGuard .neq t x y (.agg c) (.agg d)).run P w = .ok () w) (hr : (binOp .neq t (.agg c) (.agg d)).run P w = .ok v w) : (execOp ev op).run P w = .ok (.value v) w := by
  unfold execOp
  simp only [ho, hx, hy, Sem.run_bind, Sem.run_pure, hg, hr, Result.andThen_ok]
theorem set_c (v : Value) (es : List Ev) (x : Ev) (w : World) (hr : CRow w v es) (hg : Good es) (hl : es.length ≤ 255) (hf : ∀ e ∈ es, Fits e) (hx : Fits x) (hV : Vars w) (c : Int) (hc : (if rightB x = true then (0 : Int) else 2) = c) :
    Calls Tryd.prog 33 #[v, evV x] w fun e w' => ∃ v' : Value, e = .returned (.tuple #[v', .int .i64 c]) ∧ (c = 0 → CRow w' v' (setL es x)) ∧ Below w.heap.size w w' := by
  refine (set_any v es x w hr hg hl hf hx hV).mono ?_
  rintro e w' ⟨v', rfl, h2, h3⟩
  refine ⟨v', by rw [hc], fun h0 => h2 ?_, h3⟩
  by_cases hb : rightB x = true
  · exact hb
  · rw [if_neg hb] at hc; omega
set_option maxHeartbeats 32000000 in
theorem left_walk (X kk : Nat → Int) (v : Value) (ls : List Ev) (u : List UInt8) (w : World) (hr : ERow w v ls) (hf : ∀ e ∈ ls, Fits e) (hlen : ls.length ≤ 9223372036854775807) (hT : Tabs w X kk) (hV : Vars w) (hW : Words w) :
    Calls Tryd.prog 8 #[v, .string ⟨u.toArray⟩] w fun e w' => e = .returned (.bool true) ∧ Below w.heap.size w w' := by
  obtain ⟨p, cap, rfl⟩ := hr.form
  have HR := Lib.hid hr
  have HSET := Lib.hid (fun (v : Value) (es : List Ev) (x : Ev) (w' : World) (h : CRow w' v es) (hg : Good es) (hl : es.length ≤ 255) (hfe : ∀ e ∈ es, Fits e) (hx : Fits x) (hb : Below w.heap.size w w') (c : Int) (hc : (if rightB x = true then (0 : Int) else 2) = c) => set_c v es x w' h hg hl hfe hx (hV.low hb) c hc)
  have HREF := Lib.hid (fun (e : Ev) (w' : World) (hc : checkE e = 0) (hfe : Fits e) (hb : Below w.heap.size w w') => ref_ok X kk e hc hfe w' (hT.below rfl hb) (hV.low hb) (hW.low hb))
  have HCHK := Lib.hid (fun (v : Value) (es : List Ev) (w' : World) (h : CRow w' v es) (hg : Good es) (hl : es.length ≤ 256) (hfe : ∀ e ∈ es, Fits e) (hb : Below w.heap.size w w') => check_good v es w' h hg hl hfe (hV.low hb))
  have HCE := Lib.hid (fun (e : Ev) (w' : World) (hfe : Fits e) (hb : Below w.heap.size w w') => check_any e hfe w' (hV.low hb))
  have HFIT := Lib.hid hf
  have hli : (ls.length : Int) ≤ 9223372036854775807 := by omega
  clear hr hf hT hV hW
  go_enter Tryd.func8, Tryd.ntmps8
  go_wp2_with fail
  refine (Top.begins_any _).mono ?_
  rintro e w1 ⟨rfl, B1⟩
  have HB1 := Lib.hid B1
  clear B1
  go_wp2_with fail
  go_loopw [5, 6, 22] (fun s t i wr => ∃ (j : Nat) (es : List Ev) (vs vt : Value), vs = s ∧ vt = t ∧ j ≤ ls.length ∧ j ≤ 100 ∧ i = .int .i64 (j : Int) ∧ es.length ≤ j ∧ Hid (CRow wr vs es) ∧ Hid (CRow wr vt (es.map redE)) ∧ Hid (Good es) ∧ Hid (∀ e ∈ es, Fits e) ∧ Hid (Below w.heap.size w wr)) (fun _ _ i _ => ls.length - (intOf i).toNat)
  case atStart => exact ⟨0, [], _, _, rfl, rfl, by omega, by omega, rfl, by simp, Lib.hid (.inl ⟨rfl, rfl⟩), Lib.hid (.inl ⟨rfl, rfl⟩), Lib.hid Good.nil, Lib.hid (by simp), HB1⟩
  case round =>
    clear HB1
    obtain ⟨j, es, vs, vt, rfl, rfl, hj, hj100, rfl, hel, HCS, HCT, HG, HFE, HB⟩ := hrel
    by_cases hlt : j < ls.length
    · obtain ⟨b, o, rfl, hbl, hrg⟩ := HR.out.at hlt
      have hji : (j : Int) < (ls.length : Int) := by omega
      have HFX := Lib.hid (HFIT.out ls[j] (List.getElem_mem hlt))
      generalize ls[j] = x at *
      have HRT := Lib.hid (rightB_red x)
      have HRB := Lib.hid (right_back (x := x))
      have HSR := Lib.hid (setL_red es x)
      have HSG := Lib.hid (fun (h : rightB x = true) => setL_good HG.out h)
      have HSF := Lib.hid (fits_setL HFE.out HFX.out)
      have HSL := Lib.hid (setL_length es x)
      have hba := (Below.refl wr.heap.size wr).alloc (Nat.le_refl _) (.cells #[.string ⟨x.room.toArray⟩, .string ⟨x.sender.toArray⟩, .int .u8 (x.kind : Int), .string ⟨x.key.toArray⟩, .string ⟨x.body.toArray⟩, .int .i64 x.nonce] 56)
      have HCS0 := Lib.hid (HCS.out.low hba)
      have HCT0 := Lib.hid (HCT.out.low hba)
      have A0 := Blk.new wr #[.string ⟨x.room.toArray⟩, .string ⟨x.sender.toArray⟩, .int .u8 (x.kind : Int), .string ⟨x.key.toArray⟩, .string ⟨x.body.toArray⟩, .int .i64 x.nonce] 56
      have HB0 := Lib.hid (HB.out.alloc HB.out.size (.cells #[.string ⟨x.room.toArray⟩, .string ⟨x.sender.toArray⟩, .int .u8 (x.kind : Int), .string ⟨x.key.toArray⟩, .string ⟨x.body.toArray⟩, .int .i64 x.nonce] 56))
      have e0 : wr.cell? ⟨b, o + j * 6, none⟩ = some (.string ⟨x.room.toArray⟩) := (HB.out.cell (p := ⟨b, o + j * 6 + 0, none⟩) hbl).trans (hrg 0 _ rfl)
      have e1 : wr.cell? ⟨b, o + j * 6 + 1, none⟩ = some (.string ⟨x.sender.toArray⟩) := (HB.out.cell (p := ⟨b, o + j * 6 + 1, none⟩) hbl).trans (hrg 1 _ rfl)
      have e2 : wr.cell? ⟨b, o + j * 6 + 2, none⟩ = some (.int .u8 (x.kind : Int)) := (HB.out.cell (p := ⟨b, o + j * 6 + 2, none⟩) hbl).trans (hrg 2 _ rfl)
      have e3 : wr.cell? ⟨b, o + j * 6 + 3, none⟩ = some (.string ⟨x.key.toArray⟩) := (HB.out.cell (p := ⟨b, o + j * 6 + 3, none⟩) hbl).trans (hrg 3 _ rfl)
      have e4 : wr.cell? ⟨b, o + j * 6 + 4, none⟩ = some (.string ⟨x.body.toArray⟩) := (HB.out.cell (p := ⟨b, o + j * 6 + 4, none⟩) hbl).trans (hrg 4 _ rfl)
      have e5 : wr.cell? ⟨b, o + j * 6 + 5, none⟩ = some (.int .i64 x.nonce) := (HB.out.cell (p := ⟨b, o + j * 6 + 5, none⟩) hbl).trans (hrg 5 _ rfl)
      clear hrg hba HCS HCT
      by_cases h100 : j = 100
      · have hjd : ((j : Int) == 100) = true := by simp [h100]
        clear h100 HRT HRB HSR HSG HSF HSL HFX
        obtain ⟨room, sender, kind, key, body, nonce⟩ := x
        dsimp only at *
        obtain ⟨p1, c1, rfl⟩ := HCS0.out.form
        obtain ⟨p2, c2, h2⟩ := HCT0.out.form
        rw [List.length_map] at h2
        subst h2
        go_wp2_with fail
        generalize wr.alloc (.cells #[.string ⟨room.toArray⟩, .string ⟨sender.toArray⟩, .int .u8 (kind : Int), .string ⟨key.toArray⟩, .string ⟨body.toArray⟩, .int .i64 nonce] 56) = W at *
        have hel2 : es.length ≤ 100 := by omega
        have heli : (es.length : Int) ≤ 100 := by omega
        refine (HCHK.out _ es W HCS0.out HG.out (by omega) HFE.out HB0.out).mono ?_
        rintro e z1 ⟨rfl, hb⟩
        have HB1 := Lib.hid (HB0.out.trans (hb.mono HB0.out.size))
        have HCS1 := Lib.hid (HCS0.out.low hb)
        have HCT1 := Lib.hid (HCT0.out.low hb)
        clear hb HCS0 HCT0 HB0
        go_wp2_with fail
        have HC2 := HCHK.out _ (es.map redE) z1 HCT1.out HG.out.red (by rw [List.length_map]; omega) (fits_map HFE.out) HB1.out
        refine HC2.mono ?_
        rintro e z2 ⟨rfl, hb⟩
        have HB2 := Lib.hid (HB1.out.trans (hb.mono HB1.out.size))
        have HCS2 := Lib.hid (HCS1.out.low hb)
        have HCT2 := Lib.hid (HCT1.out.low hb)
        clear hb HCS1 HCT1 HB1 HC2 HCHK
        go_wp2_with fail
        go_loopw [74] (fun i wr => ∃ k : Nat, k ≤ es.length ∧ i = .int .i64 (k : Int) ∧ Hid (CRow wr (.slice p1 es.length c1) es) ∧ Hid (CRow wr (.slice p2 es.length c2) (es.map redE)) ∧ Hid (Below w.heap.size w wr)) (fun i _ => es.length - (intOf i).toNat)
        case atStart => exact ⟨0, by omega, rfl, HCS2, HCT2, HB2⟩
        case round =>
          clear HCS2 HCT2 HB2
          obtain ⟨k, hk, rfl, HCS, HCT, HB⟩ := hrel
          by_cases hlt : k < es.length
          · have hlt2 : k < (es.map redE).length := by rw [List.length_map]; exact hlt
            obtain ⟨b1, rfl, -, hc1, hb1, hr1⟩ := HCS.out.at hlt
            obtain ⟨b2, rfl, -, hc2, hb2, hr2⟩ := HCT.out.at hlt2
            rw [List.getElem_map] at hr2
            have hmem := List.getElem_mem hlt
            have hx1 : checkE es[k] = 0 := by
              have h := HG.out.1 _ hmem
              unfold rightB at h
              simp only [Bool.and_eq_true, decide_eq_true_eq] at h
              exact h.2
            have HR1 := Lib.hid (fun (W : World) (hb : Below w.heap.size w W) => HREF.out es[k] W hx1 (HFE.out _ hmem) hb)
            have HR2 := Lib.hid (fun (W : World) (hb : Below w.heap.size w W) => (by
              have h := HREF.out (redE es[k]) W (redE_check _ hx1) (fits_red (HFE.out _ hmem)) hb
              rw [refL_red] at h
              exact h : Calls Tryd.prog 36 #[evV (redE es[k])] W fun r w' => r = .returned (.tuple #[.agg (bytesV (refL X kk es[k])).toArray, .int .i64 0]) ∧ Below W.heap.size W w'))
            have hk1 := (redE_kind es[k]).symm
            have hk2 := (redE_key es[k]).symm
            have hki : (k : Int) < (es.length : Int) := by omega
            have hR32 := refL_length X kk es[k]
            clear hx1 hmem hc1 hc2
            generalize refL X kk es[k] = R at *
            generalize redE es[k] = y at *
            clear hlt2
            generalize es[k] = x at *
            obtain ⟨room, sender, kind, key, body, nonce⟩ := x
            obtain ⟨room2, sender2, kind2, key2, body2, nonce2⟩ := y
            dsimp only at hk1 hk2
            subst hk1 hk2
            unfold evV at HR1 HR2
            dsimp only at HR1 HR2
            have hbl : (bytesV R).length = 32 := by rw [bytesV_length, hR32]
            have HIA : Hid ((Tryd.prog.info? 30).map (·.size) = some (bytesV R).toArray.size) := by rw [List.size_toArray, hbl]; exact Lib.hid (by kernel_rfl)
            have HIR : Hid ((Tryd.prog.info? 30).map (·.size) = some (bytesV R).length) := by rw [hbl]; exact Lib.hid (by kernel_rfl)
            have HSZ : Hid ((bytesV R).toArray.size = 32) := by rw [List.size_toArray, hbl]; exact Lib.hid rfl
            have HH := Lib.hid hR32
            clear hbl hR32
            have s2 : wr.cell? ⟨b1, k * 8 + 2, none⟩ = some (.string ⟨room.toArray⟩) := hr1 2 _ rfl
            have s3 : wr.cell? ⟨b1, k * 8 + 2 + 1, none⟩ = some (.string ⟨sender.toArray⟩) := hr1 3 _ rfl
            have s4 : wr.cell? ⟨b1, k * 8 + 2 + 2, none⟩ = some (.int .u8 (kind : Int)) := hr1 4 _ rfl
            have s5 : wr.cell? ⟨b1, k * 8 + 2 + 3, none⟩ = some (.string ⟨key.toArray⟩) := hr1 5 _ rfl
            have s6 : wr.cell? ⟨b1, k * 8 + 2 + 4, none⟩ = some (.string ⟨body.toArray⟩) := hr1 6 _ rfl
            have s7 : wr.cell? ⟨b1, k * 8 + 2 + 5, none⟩ = some (.int .i64 nonce) := hr1 7 _ rfl
            go_wp2_with fail
            refine (HR1.out _ HB.out).mono ?_
            rintro e y1 ⟨rfl, hb⟩
            have B1 := (hb : Below wr.heap.size wr y1)
            have HB1 := Lib.hid (HB.out.trans (hb.mono HB.out.size))
            clear s2 s3 s4 s5 s6 s7 hb
            have t2 : y1.cell? ⟨b2, k * 8 + 2, none⟩ = some (.string ⟨room2.toArray⟩) := (B1.cell (p := ⟨b2, k * 8 + 2, none⟩) hb2).trans (hr2 2 _ rfl)
            have t3 : y1.cell? ⟨b2, k * 8 + 2 + 1, none⟩ = some (.string ⟨sender2.toArray⟩) := (B1.cell (p := ⟨b2, k * 8 + 3, none⟩) hb2).trans (hr2 3 _ rfl)
            have t4 : y1.cell? ⟨b2, k * 8 + 2 + 2, none⟩ = some (.int .u8 (kind : Int)) := (B1.cell (p := ⟨b2, k * 8 + 4, none⟩) hb2).trans (hr2 4 _ rfl)
            have t5 : y1.cell? ⟨b2, k * 8 + 2 + 3, none⟩ = some (.string ⟨key.toArray⟩) := (B1.cell (p := ⟨b2, k * 8 + 5, none⟩) hb2).trans (hr2 5 _ rfl)
            have t6 : y1.cell? ⟨b2, k * 8 + 2 + 4, none⟩ = some (.string ⟨body2.toArray⟩) := (B1.cell (p := ⟨b2, k * 8 + 6, none⟩) hb2).trans (hr2 6 _ rfl)
            have t7 : y1.cell? ⟨b2, k * 8 + 2 + 5, none⟩ = some (.int .i64 nonce2) := (B1.cell (p := ⟨b2, k * 8 + 7, none⟩) hb2).trans (hr2 7 _ rfl)
            have hb2y := Nat.lt_of_lt_of_le hb2 B1.size
            go_wp2_with (refine wpList_store_new (o := ⟨none, .store 30 (.tmp 14) (.tmp 84), _, _, _, _⟩) rfl 30 (.tmp 14) (.tmp 84) rfl _ (bytesV R).toArray ?_ ?_ HIA.out ?_ (bytesV_one _) ?_; rfl; rfl; exact (show _ = 32 from rfl).trans HSZ.out.symm)
            have H14 := Blk.made y1 (bytesV R) 30
            have hba := (Below.refl y1.heap.size y1).alloc (Nat.le_refl _) (.cells (bytesV R).toArray 30)
            have HB1 := Lib.hid (HB1.out.trans (hba.mono HB1.out.size))
            have B1 := B1.trans (hba.mono B1.size)
            clear hba t2 t3 t4 t5 t6 t7 hb2y
            refine (HR2.out _ HB1.out).mono ?_
            rintro e y2 ⟨rfl, hb⟩
            have H14 := H14.low hb
            have HB2 := Lib.hid (HB1.out.trans (hb.mono HB1.out.size))
            have B2 := B1.trans (hb.mono B1.size)
            clear hb B1 HB1
            go_wp2_with (refine wpList_store_new (o := ⟨none, .store 30 (.tmp 16) (.tmp 93), _, _, _, _⟩) rfl 30 (.tmp 16) (.tmp 93) rfl _ (bytesV R).toArray ?_ ?_ HIA.out ?_ (bytesV_one _) ?_; rfl; rfl; exact (show _ = 32 from rfl).trans HSZ.out.symm)
            have H16 := Blk.made y2 (bytesV R) 30
            have hba := (Below.refl y2.heap.size y2).alloc (Nat.le_refl _) (.cells (bytesV R).toArray 30)
            have H14 := H14.low hba
            have HB3 := Lib.hid ((HB2.out.trans (hba.mono HB2.out.size)).drew)
            have B3 := (B2.trans (hba.mono B2.size)).drew
            have HBz := Lib.hid B3
            clear hba B2 HB2
            generalize y2.alloc (.cells (bytesV R).toArray 30) = z at *
            have hmo : Tryd.prog.follows .mixedOrders = true := by kernel_rfl
            have S0 : (fun w' => w'.cell? ⟨b1, k * 8, none⟩ = some (.int .u8 (kind : Int)) ∧ w'.cell? ⟨b1, k * 8 + 1, none⟩ = some (.string ⟨key.toArray⟩) ∧ w'.cell? ⟨b2, k * 8, none⟩ = some (.int .u8 (kind : Int)) ∧ w'.cell? ⟨b2, k * 8 + 1, none⟩ = some (.string ⟨key.toArray⟩) ∧ w'.rangeAt y1.heap.size 0 (bytesV R) ∧ w'.rangeAt y2.heap.size 0 (bytesV R)) z.drew := ⟨(HBz.out.cell (p := ⟨b1, k * 8 + 0, none⟩) hb1).trans (hr1 0 _ rfl), (HBz.out.cell (p := ⟨b1, k * 8 + 1, none⟩) hb1).trans (hr1 1 _ rfl), (HBz.out.cell (p := ⟨b2, k * 8 + 0, none⟩) hb2).trans (hr2 0 _ rfl), (HBz.out.cell (p := ⟨b2, k * 8 + 1, none⟩) hb2).trans (hr2 1 _ rfl), H14.drew.at_, H16.drew.at_⟩
            refine wp_region_heldX (fun w' => w'.cell? ⟨b1, k * 8, none⟩ = some (.int .u8 (kind : Int)) ∧ w'.cell? ⟨b1, k * 8 + 1, none⟩ = some (.string ⟨key.toArray⟩) ∧ w'.cell? ⟨b2, k * 8, none⟩ = some (.int .u8 (kind : Int)) ∧ w'.cell? ⟨b2, k * 8 + 1, none⟩ = some (.string ⟨key.toArray⟩) ∧ w'.rangeAt y1.heap.size 0 (bytesV R) ∧ w'.rangeAt y2.heap.size 0 (bytesV R)) [] hmo ?_
            generalize z.drew = zd at *
            refine HeldX.move 0 (v := .slice (some ⟨b1, 0, none⟩) es.length c1) rfl (by kernel_rfl) (by kernel_rfl) (by kernel_rfl) (by kernel_rfl) (fun _ _ _ h => h) S0 (.inl ⟨by kernel_rfl, fun w h => by go_simp⟩) ?_
            go_simp
            refine HeldX.move 1 (v := .int .i64 (k : Int)) rfl (by kernel_rfl) (by kernel_rfl) (by kernel_rfl) (by kernel_rfl) (fun _ _ _ h => h) S0 (.inl ⟨by kernel_rfl, fun w h => by go_simp⟩) ?_
            go_simp
            refine HeldX.move 2 (v := .pointer (some ⟨b1, k * 8, none⟩)) rfl (by kernel_rfl) (by kernel_rfl) (by kernel_rfl) (by kernel_rfl) (fun _ _ _ h => h) S0 (.inl ⟨by kernel_rfl, fun w h => by go_simp⟩) ?_
            go_simp
            refine HeldX.move 3 (v := .pointer (some ⟨b1, k * 8, none⟩)) rfl (by kernel_rfl) (by kernel_rfl) (by kernel_rfl) (by kernel_rfl) (fun _ _ _ h => h) S0 (.inl ⟨by kernel_rfl, fun w h => by go_simp⟩) ?_
            go_simp
            refine HeldX.take 4 (v := .int .u8 (kind : Int)) rfl (by kernel_rfl) (by kernel_rfl) (by kernel_rfl) (by kernel_rfl) (fun _ _ _ h => h) S0 (.inl ⟨by kernel_rfl, fun w h => by have h1 := h.1; go_simp⟩) ?_
            go_simp
            refine HeldX.move 5 (v := .slice (some ⟨b2, 0, none⟩) es.length c2) rfl (by kernel_rfl) (by kernel_rfl) (by kernel_rfl) (by kernel_rfl) (fun _ _ _ h => h) S0 (.inl ⟨by kernel_rfl, fun w h => by go_simp⟩) ?_
            go_simp
            refine HeldX.move 6 (v := .int .i64 (k : Int)) rfl (by kernel_rfl) (by kernel_rfl) (by kernel_rfl) (by kernel_rfl) (fun _ _ _ h => h) S0 (.inl ⟨by kernel_rfl, fun w h => by go_simp⟩) ?_
            go_simp
            refine HeldX.move 7 (v := .pointer (some ⟨b2, k * 8, none⟩)) rfl (by kernel_rfl) (by kernel_rfl) (by kernel_rfl) (by kernel_rfl) (fun _ _ _ h => h) S0 (.inl ⟨by kernel_rfl, fun w h => by go_simp⟩) ?_
            go_simp
            refine HeldX.move 8 (v := .pointer (some ⟨b2, k * 8, none⟩)) rfl (by kernel_rfl) (by kernel_rfl) (by kernel_rfl) (by kernel_rfl) (fun _ _ _ h => h) S0 (.inl ⟨by kernel_rfl, fun w h => by go_simp⟩) ?_
            go_simp
            refine HeldX.take 9 (v := .int .u8 (kind : Int)) rfl (by kernel_rfl) (by kernel_rfl) (by kernel_rfl) (by kernel_rfl) (fun _ _ _ h => h) S0 (.inl ⟨by kernel_rfl, fun w h => by have h1 := h.2.2.1; go_simp⟩) ?_
            go_simp
            refine HeldX.move 10 (v := .bool false) rfl (by kernel_rfl) (by kernel_rfl) (by kernel_rfl) (by kernel_rfl) (fun _ _ _ h => h) S0 (.inl ⟨by kernel_rfl, fun w h => by go_simp⟩) ?_
            go_simp
            refine HeldX.move 11 (v := .bool false) rfl (by kernel_rfl) (by kernel_rfl) (by kernel_rfl) (by kernel_rfl) (fun _ _ _ h => h) S0 (.inl ⟨by kernel_rfl, fun w h => by go_simp⟩) ?_
            go_simp
            refine HeldX.move 12 (v := .slice (some ⟨b1, 0, none⟩) es.length c1) rfl (by kernel_rfl) (by kernel_rfl) (by kernel_rfl) (by kernel_rfl) (fun _ _ _ h => h) S0 (.inl ⟨by kernel_rfl, fun w h => by go_simp⟩) ?_
            go_simp
            refine HeldX.move 13 (v := .int .i64 (k : Int)) rfl (by kernel_rfl) (by kernel_rfl) (by kernel_rfl) (by kernel_rfl) (fun _ _ _ h => h) S0 (.inl ⟨by kernel_rfl, fun w h => by go_simp⟩) ?_
            go_simp
            refine HeldX.move 14 (v := .pointer (some ⟨b1, k * 8, none⟩)) rfl (by kernel_rfl) (by kernel_rfl) (by kernel_rfl) (by kernel_rfl) (fun _ _ _ h => h) S0 (.inl ⟨by kernel_rfl, fun w h => by go_simp⟩) ?_
            go_simp
            refine HeldX.move 15 (v := .pointer (some ⟨b1, k * 8 + 1, none⟩)) rfl (by kernel_rfl) (by kernel_rfl) (by kernel_rfl) (by kernel_rfl) (fun _ _ _ h => h) S0 (.inl ⟨by kernel_rfl, fun w h => by go_simp⟩) ?_
            go_simp
            refine HeldX.take 16 (v := .string ⟨key.toArray⟩) rfl (by kernel_rfl) (by kernel_rfl) (by kernel_rfl) (by kernel_rfl) (fun _ _ _ h => h) S0 (.inl ⟨by kernel_rfl, fun w h => by have h1 := h.2.1; go_simp⟩) ?_
            go_simp
            refine HeldX.move 17 (v := .slice (some ⟨b2, 0, none⟩) es.length c2) rfl (by kernel_rfl) (by kernel_rfl) (by kernel_rfl) (by kernel_rfl) (fun _ _ _ h => h) S0 (.inl ⟨by kernel_rfl, fun w h => by go_simp⟩) ?_
            go_simp
            refine HeldX.move 18 (v := .int .i64 (k : Int)) rfl (by kernel_rfl) (by kernel_rfl) (by kernel_rfl) (by kernel_rfl) (fun _ _ _ h => h) S0 (.inl ⟨by kernel_rfl, fun w h => by go_simp⟩) ?_
            go_simp
            refine HeldX.move 19 (v := .pointer (some ⟨b2, k * 8, none⟩)) rfl (by kernel_rfl) (by kernel_rfl) (by kernel_rfl) (by kernel_rfl) (fun _ _ _ h => h) S0 (.inl ⟨by kernel_rfl, fun w h => by go_simp⟩) ?_
            go_simp
            refine HeldX.move 20 (v := .pointer (some ⟨b2, k * 8 + 1, none⟩)) rfl (by kernel_rfl) (by kernel_rfl) (by kernel_rfl) (by kernel_rfl) (fun _ _ _ h => h) S0 (.inl ⟨by kernel_rfl, fun w h => by go_simp⟩) ?_
            go_simp
            refine HeldX.take 21 (v := .string ⟨key.toArray⟩) rfl (by kernel_rfl) (by kernel_rfl) (by kernel_rfl) (by kernel_rfl) (fun _ _ _ h => h) S0 (.inl ⟨by kernel_rfl, fun w h => by have h1 := h.2.2.2.1; go_simp⟩) ?_
            go_simp
            refine HeldX.move 22 (v := .bool false) rfl (by kernel_rfl) (by kernel_rfl) (by kernel_rfl) (by kernel_rfl) (fun _ _ _ h => h) S0 (.inl ⟨by kernel_rfl, fun w h => by go_simp⟩) ?_
            go_simp
            refine HeldX.move 23 (v := .bool false) rfl (by kernel_rfl) (by kernel_rfl) (by kernel_rfl) (by kernel_rfl) (fun _ _ _ h => h) S0 (.inl ⟨by kernel_rfl, fun w h => by go_simp⟩) ?_
            go_simp
            refine HeldX.move 24 (v := .bool false) rfl (by kernel_rfl) (by kernel_rfl) (by kernel_rfl) (by kernel_rfl) (fun _ _ _ h => h) S0 (.inl ⟨by kernel_rfl, fun w h => by go_simp⟩) ?_
            go_simp
            refine HeldX.move 25 (v := .int .i64 0) rfl (by kernel_rfl) (by kernel_rfl) (by kernel_rfl) (by kernel_rfl) (fun _ _ _ h => h) S0 (.inl ⟨by kernel_rfl, fun w h => by go_simp⟩) ?_
            go_simp
            refine HeldX.move 26 (v := .bool false) rfl (by kernel_rfl) (by kernel_rfl) (by kernel_rfl) (by kernel_rfl) (fun _ _ _ h => h) S0 (.inl ⟨by kernel_rfl, fun w h => by go_simp⟩) ?_
            go_simp
            refine HeldX.move 27 (v := .bool false) rfl (by kernel_rfl) (by kernel_rfl) (by kernel_rfl) (by kernel_rfl) (fun _ _ _ h => h) S0 (.inl ⟨by kernel_rfl, fun w h => by go_simp⟩) ?_
            go_simp
            refine HeldX.move 28 (v := .bool false) rfl (by kernel_rfl) (by kernel_rfl) (by kernel_rfl) (by kernel_rfl) (fun _ _ _ h => h) S0 (.inl ⟨by kernel_rfl, fun w h => by go_simp⟩) ?_
            go_simp
            refine HeldX.move 29 (v := .int .i64 0) rfl (by kernel_rfl) (by kernel_rfl) (by kernel_rfl) (by kernel_rfl) (fun _ _ _ h => h) S0 (.inl ⟨by kernel_rfl, fun w h => by go_simp⟩) ?_
            go_simp
            refine HeldX.move 30 (v := .bool false) rfl (by kernel_rfl) (by kernel_rfl) (by kernel_rfl) (by kernel_rfl) (fun _ _ _ h => h) S0 (.inl ⟨by kernel_rfl, fun w h => by go_simp⟩) ?_
            go_simp
            refine HeldX.move 31 (v := .bool false) rfl (by kernel_rfl) (by kernel_rfl) (by kernel_rfl) (by kernel_rfl) (fun _ _ _ h => h) S0 (.inl ⟨by kernel_rfl, fun w h => by go_simp⟩) ?_
            go_simp
            refine HeldX.move 32 (v := .bool false) rfl (by kernel_rfl) (by kernel_rfl) (by kernel_rfl) (by kernel_rfl) (fun _ _ _ h => h) S0 (.inl ⟨by kernel_rfl, fun w h => by go_simp⟩) ?_
            go_simp
            refine HeldX.take 33 (v := .agg (bytesV R).toArray) rfl (by kernel_rfl) (by kernel_rfl) (by kernel_rfl) (by kernel_rfl) (fun _ _ _ h => h) S0 (yieldsIf_load_mid (by kernel_rfl) 30 _ rfl (y1.heap.size) 0 rfl (bytesV R) _ (fun _ h => h.2.2.2.2.1) Tryd.underlying30 rfl HIR.out) ?_
            go_simp
            refine HeldX.take 34 (v := .agg (bytesV R).toArray) rfl (by kernel_rfl) (by kernel_rfl) (by kernel_rfl) (by kernel_rfl) (fun _ _ _ h => h) S0 (yieldsIf_load_mid (by kernel_rfl) 30 _ rfl (y2.heap.size) 0 rfl (bytesV R) _ (fun _ h => h.2.2.2.2.2) Tryd.underlying30 rfl HIR.out) ?_
            go_simp
            refine HeldX.move 35 (v := .bool false) rfl (by kernel_rfl) (by kernel_rfl) (by kernel_rfl) (by kernel_rfl) (fun _ _ _ h => h) S0 (.inl ⟨by kernel_rfl, fun w h => by exact run_neq_op 30 30 (.tmp 128) (.tmp 129) (bytesV R).toArray (bytesV R).toArray (.bool false) rfl rfl rfl (run_eqGuard_agg _ _ _ _ _ _ _ Tryd.eqGuardType30) (run_neq35 HH.out w)⟩) ?_
            go_simp
            refine HeldX.move 36 (v := .bool false) rfl (by kernel_rfl) (by kernel_rfl) (by kernel_rfl) (by kernel_rfl) (fun _ _ _ h => h) S0 (.inl ⟨by kernel_rfl, fun w h => by go_simp⟩) ?_
            go_simp
            refine HeldX.done (by kernel_rfl) ?_ _
            go_wp2_with fail
            go_roundw
            case rel => exact ⟨k + 1, by omega, by go_num, Lib.hid (HCS.out.low B3), Lib.hid (HCT.out.low B3), HB3⟩
            case measure => simp [intOf]; omega
          · obtain rfl : k = es.length := by omega
            have HM1 := Lib.hid (member_any _ es u wr HCS.out (by omega))
            have HM2 := Lib.hid (fun (W : World) (h : CRow W (.slice p2 es.length c2) (es.map redE)) => (by
              have h2 := member_any _ (es.map redE) u W h (by rw [List.length_map]; omega)
              rw [memberL_red] at h2
              exact h2 : Calls Tryd.prog 37 #[.slice p2 es.length c2, .string ⟨u.toArray⟩] W fun e w' => e = .returned (.string ⟨(memberL es u).toArray⟩) ∧ Below W.heap.size W w'))
            generalize memberL es u = m at *
            have hq : (m == m) = true := by simp
            clear hlt hk
            go_wp2_with fail
            refine HM1.out.mono ?_
            rintro e y1 ⟨rfl, hb⟩
            have HCT1 := Lib.hid (HCT.out.low hb)
            have HB1 := Lib.hid (HB.out.trans (hb.mono HB.out.size))
            clear hb
            go_wp2_with fail
            refine (HM2.out _ HCT1.out).mono ?_
            rintro e y2 ⟨rfl, hb⟩
            have HB2 := HB1.out.trans (hb.mono HB1.out.size)
            clear hb
            go_wp2_with fail
            go_ret
            exact ⟨rfl, HB2⟩
      · have hj1 : j < 100 := by omega
        have hj1i : ¬ (j : Int) = 100 := by omega
        have hjd : ((j : Int) == 100) = false := by simpa using hj1i
        clear h100 hj1i
        have HS1 := Lib.hid (fun c hc => HSET.out vs es x _ HCS0.out HG.out (by omega) HFE.out HFX.out HB0.out c hc)
        have HS2 := Lib.hid (fun c hc (W : World) (hb : Below w.heap.size w W) (h : CRow W vt (es.map redE)) => HSET.out vt (es.map redE) (redE x) W h HG.out.red (by rw [List.length_map]; omega) (fits_map HFE.out) (fits_red HFX.out) hb c hc)
        have HRE := Lib.hid (fun (W : World) => red_any x W)
        have HCK := Lib.hid (fun (W : World) (hb : Below w.heap.size w W) => HCE.out x W HFX.out hb)
        rw [HSR.out] at HS2
        clear HSR HSET HCE
        generalize setL es x = res at *
        generalize rightB x = r1 at *
        generalize rightB (redE x) = r2 at *
        generalize redE x = y at *
        generalize checkE x = cx at *
        obtain ⟨room, sender, kind, key, body, nonce⟩ := x
        obtain ⟨room2, sender2, kind2, key2, body2, nonce2⟩ := y
        unfold evV at HS1 HS2 HRE HCK
        dsimp only at *
        go_wp2_with fail
        generalize wr.alloc (.cells #[.string ⟨room.toArray⟩, .string ⟨sender.toArray⟩, .int .u8 (kind : Int), .string ⟨key.toArray⟩, .string ⟨body.toArray⟩, .int .i64 nonce] 56) = w2 at *
        cases r1 with
        | true =>
          obtain rfl : r2 = true := HRT.out rfl
          refine (HS1.out 0 (by simp)).mono ?_
          rintro e w3 ⟨v1, rfl, hv1, hb⟩
          have A3 := A0.low hb
          have HB3 := Lib.hid (HB0.out.trans (hb.mono HB0.out.size))
          have HCS3 := Lib.hid (HCS0.out.low hb)
          have HCT3 := Lib.hid (HCT0.out.low hb)
          have HV1 := Lib.hid hv1
          clear hb hv1 A0
          have c0 := A3.cell 0 rfl
          have c1 := A3.cell 1 rfl
          have c2 := A3.cell 2 rfl
          have c3 := A3.cell 3 rfl
          have c4 := A3.cell 4 rfl
          have c5 := A3.cell 5 rfl
          go_wp2_with fail
          refine (HRE.out _).mono ?_
          rintro e w4 ⟨rfl, hb⟩
          have A4 := A3.low hb
          have HB4 := Lib.hid (HB3.out.trans (hb.mono HB3.out.size))
          have HCS4 := Lib.hid (HCS3.out.low hb)
          have HCT4 := Lib.hid (HCT3.out.low hb)
          have HV4 := Lib.hid (fun h => (HV1.out h).low hb)
          clear hb c0 c1 c2 c3 c4 c5 A3 HV1
          go_wp2_with fail
          refine (HS2.out 0 (by simp) _ HB4.out HCT4.out).mono ?_
          rintro e w5 ⟨v2, rfl, hv2, hb⟩
          have A5 := A4.low hb
          have HB5 := Lib.hid (HB4.out.trans (hb.mono HB4.out.size))
          have HCS5 := Lib.hid (HCS4.out.low hb)
          have HCT5 := Lib.hid (HCT4.out.low hb)
          have HV5 := Lib.hid (fun h => (HV4.out h).low hb)
          have HW5 := Lib.hid hv2
          clear hb hv2 A4 HV4
          go_wp2_with fail
          have hsl := HSL.out
          go_roundw
          case rel => exact ⟨j + 1, res, v1, v2, rfl, rfl, by omega, by omega, by go_num, by omega, Lib.hid (HV5.out (by trivial)), Lib.hid (HW5.out (by trivial)), Lib.hid (HSG.out (by trivial)), HSF, HB5⟩
          case measure => simp [intOf]; omega
        | false =>
          cases r2 with
          | true =>
            have hcx : cx ≠ 0 := HRB.out rfl rfl
            have hcxi : ¬ (cx : Int) = 0 := by omega
            have hcxd : ((cx : Int) == 0) = false := by simpa using hcxi
            clear hcx
            refine (HS1.out 2 (by simp)).mono ?_
            rintro e w3 ⟨v1, rfl, hv1, hb⟩
            have A3 := A0.low hb
            have HB3 := Lib.hid (HB0.out.trans (hb.mono HB0.out.size))
            have HCS3 := Lib.hid (HCS0.out.low hb)
            have HCT3 := Lib.hid (HCT0.out.low hb)
            have HV1 := Lib.hid hv1
            clear hb hv1 A0
            have c0 := A3.cell 0 rfl
            have c1 := A3.cell 1 rfl
            have c2 := A3.cell 2 rfl
            have c3 := A3.cell 3 rfl
            have c4 := A3.cell 4 rfl
            have c5 := A3.cell 5 rfl
            go_wp2_with fail
            refine (HRE.out _).mono ?_
            rintro e w4 ⟨rfl, hb⟩
            have A4 := A3.low hb
            have HB4 := Lib.hid (HB3.out.trans (hb.mono HB3.out.size))
            have HCS4 := Lib.hid (HCS3.out.low hb)
            have HCT4 := Lib.hid (HCT3.out.low hb)
            have HV4 := Lib.hid (fun h => (HV1.out h).low hb)
            clear hb c0 c1 c2 c3 c4 c5 A3 HV1
            go_wp2_with fail
            refine (HS2.out 0 (by simp) _ HB4.out HCT4.out).mono ?_
            rintro e w5 ⟨v2, rfl, hv2, hb⟩
            have A5 := A4.low hb
            have HB5 := Lib.hid (HB4.out.trans (hb.mono HB4.out.size))
            have HCS5 := Lib.hid (HCS4.out.low hb)
            have HCT5 := Lib.hid (HCT4.out.low hb)
            have HV5 := Lib.hid (fun h => (HV4.out h).low hb)
            have HW5 := Lib.hid hv2
            clear hb hv2 A4 HV4
            have c0 := A5.cell 0 rfl
            have c1 := A5.cell 1 rfl
            have c2 := A5.cell 2 rfl
            have c3 := A5.cell 3 rfl
            have c4 := A5.cell 4 rfl
            have c5 := A5.cell 5 rfl
            go_wp2_with fail
            refine (HCK.out _ HB5.out).mono ?_
            rintro e w6 ⟨rfl, hb⟩
            have HB5 := Lib.hid (HB5.out.trans (hb.mono HB5.out.size))
            have HCS5 := Lib.hid (HCS5.out.low hb)
            have HCT5 := Lib.hid (HCT5.out.low hb)
            clear hb c0 c1 c2 c3 c4 c5 A5
            go_wp2_with fail
            go_roundw
            case rel => exact ⟨j + 1, es, vs, vt, rfl, rfl, by omega, by omega, by go_num, by omega, HCS5, HCT5, HG, HFE, HB5⟩
            case measure => simp [intOf]; omega
          | false =>
            refine (HS1.out 2 (by simp)).mono ?_
            rintro e w3 ⟨v1, rfl, hv1, hb⟩
            have A3 := A0.low hb
            have HB3 := Lib.hid (HB0.out.trans (hb.mono HB0.out.size))
            have HCS3 := Lib.hid (HCS0.out.low hb)
            have HCT3 := Lib.hid (HCT0.out.low hb)
            have HV1 := Lib.hid hv1
            clear hb hv1 A0
            have c0 := A3.cell 0 rfl
            have c1 := A3.cell 1 rfl
            have c2 := A3.cell 2 rfl
            have c3 := A3.cell 3 rfl
            have c4 := A3.cell 4 rfl
            have c5 := A3.cell 5 rfl
            go_wp2_with fail
            refine (HRE.out _).mono ?_
            rintro e w4 ⟨rfl, hb⟩
            have A4 := A3.low hb
            have HB4 := Lib.hid (HB3.out.trans (hb.mono HB3.out.size))
            have HCS4 := Lib.hid (HCS3.out.low hb)
            have HCT4 := Lib.hid (HCT3.out.low hb)
            have HV4 := Lib.hid (fun h => (HV1.out h).low hb)
            clear hb c0 c1 c2 c3 c4 c5 A3 HV1
            go_wp2_with fail
            refine (HS2.out 2 (by simp) _ HB4.out HCT4.out).mono ?_
            rintro e w5 ⟨v2, rfl, hv2, hb⟩
            have A5 := A4.low hb
            have HB5 := Lib.hid (HB4.out.trans (hb.mono HB4.out.size))
            have HCS5 := Lib.hid (HCS4.out.low hb)
            have HCT5 := Lib.hid (HCT4.out.low hb)
            have HV5 := Lib.hid (fun h => (HV4.out h).low hb)
            have HW5 := Lib.hid hv2
            clear hb hv2 A4 HV4
            go_wp2_with fail
            go_roundw
            case rel => exact ⟨j + 1, es, vs, vt, rfl, rfl, by omega, by omega, by go_num, by omega, HCS5, HCT5, HG, HFE, HB5⟩
            case measure => simp [intOf]; omega
    · obtain rfl : j = ls.length := by omega
      clear hlt hj
      obtain ⟨p1, c1, rfl⟩ := HCS.out.form
      obtain ⟨p2, c2, h2⟩ := HCT.out.form
      rw [List.length_map] at h2
      subst h2
      have HCS0 := HCS
      have HCT0 := HCT
      have HB0 := HB
      clear HCS HCT HB
      go_wp2_with fail
      obtain ⟨W, hW⟩ : ∃ W, W = wr := ⟨_, rfl⟩
      subst hW
      have hel2 : es.length ≤ 100 := by omega
      have heli : (es.length : Int) ≤ 100 := by omega
      refine (HCHK.out _ es W HCS0.out HG.out (by omega) HFE.out HB0.out).mono ?_
      rintro e z1 ⟨rfl, hb⟩
      have HB1 := Lib.hid (HB0.out.trans (hb.mono HB0.out.size))
      have HCS1 := Lib.hid (HCS0.out.low hb)
      have HCT1 := Lib.hid (HCT0.out.low hb)
      clear hb HCS0 HCT0 HB0
      go_wp2_with fail
      have HC2 := HCHK.out _ (es.map redE) z1 HCT1.out HG.out.red (by rw [List.length_map]; omega) (fits_map HFE.out) HB1.out
      refine HC2.mono ?_
      rintro e z2 ⟨rfl, hb⟩
      have HB2 := Lib.hid (HB1.out.trans (hb.mono HB1.out.size))
      have HCS2 := Lib.hid (HCS1.out.low hb)
      have HCT2 := Lib.hid (HCT1.out.low hb)
      clear hb HCS1 HCT1 HB1 HC2 HCHK
      go_wp2_with fail
      go_loopw [74] (fun i wr => ∃ k : Nat, k ≤ es.length ∧ i = .int .i64 (k : Int) ∧ Hid (CRow wr (.slice p1 es.length c1) es) ∧ Hid (CRow wr (.slice p2 es.length c2) (es.map redE)) ∧ Hid (Below w.heap.size w wr)) (fun i _ => es.length - (intOf i).toNat)
      case atStart => exact ⟨0, by omega, rfl, HCS2, HCT2, HB2⟩
      case round =>
        clear HCS2 HCT2 HB2
        obtain ⟨k, hk, rfl, HCS, HCT, HB⟩ := hrel
        by_cases hlt : k < es.length
        · have hlt2 : k < (es.map redE).length := by rw [List.length_map]; exact hlt
          obtain ⟨b1, rfl, -, hc1, hb1, hr1⟩ := HCS.out.at hlt
          obtain ⟨b2, rfl, -, hc2, hb2, hr2⟩ := HCT.out.at hlt2
          rw [List.getElem_map] at hr2
          have hmem := List.getElem_mem hlt
          have hx1 : checkE es[k] = 0 := by
            have h := HG.out.1 _ hmem
            unfold rightB at h
            simp only [Bool.and_eq_true, decide_eq_true_eq] at h
            exact h.2
          have HR1 := Lib.hid (fun (W : World) (hb : Below w.heap.size w W) => HREF.out es[k] W hx1 (HFE.out _ hmem) hb)
          have HR2 := Lib.hid (fun (W : World) (hb : Below w.heap.size w W) => (by
            have h := HREF.out (redE es[k]) W (redE_check _ hx1) (fits_red (HFE.out _ hmem)) hb
            rw [refL_red] at h
            exact h : Calls Tryd.prog 36 #[evV (redE es[k])] W fun r w' => r = .returned (.tuple #[.agg (bytesV (refL X kk es[k])).toArray, .int .i64 0]) ∧ Below W.heap.size W w'))
          have hk1 := (redE_kind es[k]).symm
          have hk2 := (redE_key es[k]).symm
          have hki : (k : Int) < (es.length : Int) := by omega
          have hR32 := refL_length X kk es[k]
          clear hx1 hmem hc1 hc2
          generalize refL X kk es[k] = R at *
          generalize redE es[k] = y at *
          clear hlt2
          generalize es[k] = x at *
          obtain ⟨room, sender, kind, key, body, nonce⟩ := x
          obtain ⟨room2, sender2, kind2, key2, body2, nonce2⟩ := y
          dsimp only at hk1 hk2
          subst hk1 hk2
          unfold evV at HR1 HR2
          dsimp only at HR1 HR2
          have hbl : (bytesV R).length = 32 := by rw [bytesV_length, hR32]
          have HIA : Hid ((Tryd.prog.info? 30).map (·.size) = some (bytesV R).toArray.size) := by rw [List.size_toArray, hbl]; exact Lib.hid (by kernel_rfl)
          have HIR : Hid ((Tryd.prog.info? 30).map (·.size) = some (bytesV R).length) := by rw [hbl]; exact Lib.hid (by kernel_rfl)
          have HSZ : Hid ((bytesV R).toArray.size = 32) := by rw [List.size_toArray, hbl]; exact Lib.hid rfl
          have HH := Lib.hid hR32
          clear hbl hR32
          have s2 : wr.cell? ⟨b1, k * 8 + 2, none⟩ = some (.string ⟨room.toArray⟩) := hr1 2 _ rfl
          have s3 : wr.cell? ⟨b1, k * 8 + 2 + 1, none⟩ = some (.string ⟨sender.toArray⟩) := hr1 3 _ rfl
          have s4 : wr.cell? ⟨b1, k * 8 + 2 + 2, none⟩ = some (.int .u8 (kind : Int)) := hr1 4 _ rfl
          have s5 : wr.cell? ⟨b1, k * 8 + 2 + 3, none⟩ = some (.string ⟨key.toArray⟩) := hr1 5 _ rfl
          have s6 : wr.cell? ⟨b1, k * 8 + 2 + 4, none⟩ = some (.string ⟨body.toArray⟩) := hr1 6 _ rfl
          have s7 : wr.cell? ⟨b1, k * 8 + 2 + 5, none⟩ = some (.int .i64 nonce) := hr1 7 _ rfl
          go_wp2_with fail
          refine (HR1.out _ HB.out).mono ?_
          rintro e y1 ⟨rfl, hb⟩
          have B1 := (hb : Below wr.heap.size wr y1)
          have HB1 := Lib.hid (HB.out.trans (hb.mono HB.out.size))
          clear s2 s3 s4 s5 s6 s7 hb
          have t2 : y1.cell? ⟨b2, k * 8 + 2, none⟩ = some (.string ⟨room2.toArray⟩) := (B1.cell (p := ⟨b2, k * 8 + 2, none⟩) hb2).trans (hr2 2 _ rfl)
          have t3 : y1.cell? ⟨b2, k * 8 + 2 + 1, none⟩ = some (.string ⟨sender2.toArray⟩) := (B1.cell (p := ⟨b2, k * 8 + 3, none⟩) hb2).trans (hr2 3 _ rfl)
          have t4 : y1.cell? ⟨b2, k * 8 + 2 + 2, none⟩ = some (.int .u8 (kind : Int)) := (B1.cell (p := ⟨b2, k * 8 + 4, none⟩) hb2).trans (hr2 4 _ rfl)
          have t5 : y1.cell? ⟨b2, k * 8 + 2 + 3, none⟩ = some (.string ⟨key.toArray⟩) := (B1.cell (p := ⟨b2, k * 8 + 5, none⟩) hb2).trans (hr2 5 _ rfl)
          have t6 : y1.cell? ⟨b2, k * 8 + 2 + 4, none⟩ = some (.string ⟨body2.toArray⟩) := (B1.cell (p := ⟨b2, k * 8 + 6, none⟩) hb2).trans (hr2 6 _ rfl)
          have t7 : y1.cell? ⟨b2, k * 8 + 2 + 5, none⟩ = some (.int .i64 nonce2) := (B1.cell (p := ⟨b2, k * 8 + 7, none⟩) hb2).trans (hr2 7 _ rfl)
          have hb2y := Nat.lt_of_lt_of_le hb2 B1.size
          go_wp2_with (refine wpList_store_new (o := ⟨none, .store 30 (.tmp 14) (.tmp 84), _, _, _, _⟩) rfl 30 (.tmp 14) (.tmp 84) rfl _ (bytesV R).toArray ?_ ?_ HIA.out ?_ (bytesV_one _) ?_; rfl; rfl; exact (show _ = 32 from rfl).trans HSZ.out.symm)
          have H14 := Blk.made y1 (bytesV R) 30
          have hba := (Below.refl y1.heap.size y1).alloc (Nat.le_refl _) (.cells (bytesV R).toArray 30)
          have HB1 := Lib.hid (HB1.out.trans (hba.mono HB1.out.size))
          have B1 := B1.trans (hba.mono B1.size)
          clear hba t2 t3 t4 t5 t6 t7 hb2y
          refine (HR2.out _ HB1.out).mono ?_
          rintro e y2 ⟨rfl, hb⟩
          have H14 := H14.low hb
          have HB2 := Lib.hid (HB1.out.trans (hb.mono HB1.out.size))
          have B2 := B1.trans (hb.mono B1.size)
          clear hb B1 HB1
          go_wp2_with (refine wpList_store_new (o := ⟨none, .store 30 (.tmp 16) (.tmp 93), _, _, _, _⟩) rfl 30 (.tmp 16) (.tmp 93) rfl _ (bytesV R).toArray ?_ ?_ HIA.out ?_ (bytesV_one _) ?_; rfl; rfl; exact (show _ = 32 from rfl).trans HSZ.out.symm)
          have H16 := Blk.made y2 (bytesV R) 30
          have hba := (Below.refl y2.heap.size y2).alloc (Nat.le_refl _) (.cells (bytesV R).toArray 30)
          have H14 := H14.low hba
          have HB3 := Lib.hid ((HB2.out.trans (hba.mono HB2.out.size)).drew)
          have B3 := (B2.trans (hba.mono B2.size)).drew
          have HBz := Lib.hid B3
          clear hba B2 HB2
          generalize y2.alloc (.cells (bytesV R).toArray 30) = z at *
          have hmo : Tryd.prog.follows .mixedOrders = true := by kernel_rfl
          have S0 : (fun w' => w'.cell? ⟨b1, k * 8, none⟩ = some (.int .u8 (kind : Int)) ∧ w'.cell? ⟨b1, k * 8 + 1, none⟩ = some (.string ⟨key.toArray⟩) ∧ w'.cell? ⟨b2, k * 8, none⟩ = some (.int .u8 (kind : Int)) ∧ w'.cell? ⟨b2, k * 8 + 1, none⟩ = some (.string ⟨key.toArray⟩) ∧ w'.rangeAt y1.heap.size 0 (bytesV R) ∧ w'.rangeAt y2.heap.size 0 (bytesV R)) z.drew := ⟨(HBz.out.cell (p := ⟨b1, k * 8 + 0, none⟩) hb1).trans (hr1 0 _ rfl), (HBz.out.cell (p := ⟨b1, k * 8 + 1, none⟩) hb1).trans (hr1 1 _ rfl), (HBz.out.cell (p := ⟨b2, k * 8 + 0, none⟩) hb2).trans (hr2 0 _ rfl), (HBz.out.cell (p := ⟨b2, k * 8 + 1, none⟩) hb2).trans (hr2 1 _ rfl), H14.drew.at_, H16.drew.at_⟩
          refine wp_region_heldX (fun w' => w'.cell? ⟨b1, k * 8, none⟩ = some (.int .u8 (kind : Int)) ∧ w'.cell? ⟨b1, k * 8 + 1, none⟩ = some (.string ⟨key.toArray⟩) ∧ w'.cell? ⟨b2, k * 8, none⟩ = some (.int .u8 (kind : Int)) ∧ w'.cell? ⟨b2, k * 8 + 1, none⟩ = some (.string ⟨key.toArray⟩) ∧ w'.rangeAt y1.heap.size 0 (bytesV R) ∧ w'.rangeAt y2.heap.size 0 (bytesV R)) [] hmo ?_
          generalize z.drew = zd at *
          refine HeldX.move 0 (v := .slice (some ⟨b1, 0, none⟩) es.length c1) rfl (by kernel_rfl) (by kernel_rfl) (by kernel_rfl) (by kernel_rfl) (fun _ _ _ h => h) S0 (.inl ⟨by kernel_rfl, fun w h => by go_simp⟩) ?_
          go_simp
          refine HeldX.move 1 (v := .int .i64 (k : Int)) rfl (by kernel_rfl) (by kernel_rfl) (by kernel_rfl) (by kernel_rfl) (fun _ _ _ h => h) S0 (.inl ⟨by kernel_rfl, fun w h => by go_simp⟩) ?_
          go_simp
          refine HeldX.move 2 (v := .pointer (some ⟨b1, k * 8, none⟩)) rfl (by kernel_rfl) (by kernel_rfl) (by kernel_rfl) (by kernel_rfl) (fun _ _ _ h => h) S0 (.inl ⟨by kernel_rfl, fun w h => by go_simp⟩) ?_
          go_simp
          refine HeldX.move 3 (v := .pointer (some ⟨b1, k * 8, none⟩)) rfl (by kernel_rfl) (by kernel_rfl) (by kernel_rfl) (by kernel_rfl) (fun _ _ _ h => h) S0 (.inl ⟨by kernel_rfl, fun w h => by go_simp⟩) ?_
          go_simp
          refine HeldX.take 4 (v := .int .u8 (kind : Int)) rfl (by kernel_rfl) (by kernel_rfl) (by kernel_rfl) (by kernel_rfl) (fun _ _ _ h => h) S0 (.inl ⟨by kernel_rfl, fun w h => by have h1 := h.1; go_simp⟩) ?_
          go_simp
          refine HeldX.move 5 (v := .slice (some ⟨b2, 0, none⟩) es.length c2) rfl (by kernel_rfl) (by kernel_rfl) (by kernel_rfl) (by kernel_rfl) (fun _ _ _ h => h) S0 (.inl ⟨by kernel_rfl, fun w h => by go_simp⟩) ?_
          go_simp
          refine HeldX.move 6 (v := .int .i64 (k : Int)) rfl (by kernel_rfl) (by kernel_rfl) (by kernel_rfl) (by kernel_rfl) (fun _ _ _ h => h) S0 (.inl ⟨by kernel_rfl, fun w h => by go_simp⟩) ?_
          go_simp
          refine HeldX.move 7 (v := .pointer (some ⟨b2, k * 8, none⟩)) rfl (by kernel_rfl) (by kernel_rfl) (by kernel_rfl) (by kernel_rfl) (fun _ _ _ h => h) S0 (.inl ⟨by kernel_rfl, fun w h => by go_simp⟩) ?_
          go_simp
          refine HeldX.move 8 (v := .pointer (some ⟨b2, k * 8, none⟩)) rfl (by kernel_rfl) (by kernel_rfl) (by kernel_rfl) (by kernel_rfl) (fun _ _ _ h => h) S0 (.inl ⟨by kernel_rfl, fun w h => by go_simp⟩) ?_
          go_simp
          refine HeldX.take 9 (v := .int .u8 (kind : Int)) rfl (by kernel_rfl) (by kernel_rfl) (by kernel_rfl) (by kernel_rfl) (fun _ _ _ h => h) S0 (.inl ⟨by kernel_rfl, fun w h => by have h1 := h.2.2.1; go_simp⟩) ?_
          go_simp
          refine HeldX.move 10 (v := .bool false) rfl (by kernel_rfl) (by kernel_rfl) (by kernel_rfl) (by kernel_rfl) (fun _ _ _ h => h) S0 (.inl ⟨by kernel_rfl, fun w h => by go_simp⟩) ?_
          go_simp
          refine HeldX.move 11 (v := .bool false) rfl (by kernel_rfl) (by kernel_rfl) (by kernel_rfl) (by kernel_rfl) (fun _ _ _ h => h) S0 (.inl ⟨by kernel_rfl, fun w h => by go_simp⟩) ?_
          go_simp
          refine HeldX.move 12 (v := .slice (some ⟨b1, 0, none⟩) es.length c1) rfl (by kernel_rfl) (by kernel_rfl) (by kernel_rfl) (by kernel_rfl) (fun _ _ _ h => h) S0 (.inl ⟨by kernel_rfl, fun w h => by go_simp⟩) ?_
          go_simp
          refine HeldX.move 13 (v := .int .i64 (k : Int)) rfl (by kernel_rfl) (by kernel_rfl) (by kernel_rfl) (by kernel_rfl) (fun _ _ _ h => h) S0 (.inl ⟨by kernel_rfl, fun w h => by go_simp⟩) ?_
          go_simp
          refine HeldX.move 14 (v := .pointer (some ⟨b1, k * 8, none⟩)) rfl (by kernel_rfl) (by kernel_rfl) (by kernel_rfl) (by kernel_rfl) (fun _ _ _ h => h) S0 (.inl ⟨by kernel_rfl, fun w h => by go_simp⟩) ?_
          go_simp
          refine HeldX.move 15 (v := .pointer (some ⟨b1, k * 8 + 1, none⟩)) rfl (by kernel_rfl) (by kernel_rfl) (by kernel_rfl) (by kernel_rfl) (fun _ _ _ h => h) S0 (.inl ⟨by kernel_rfl, fun w h => by go_simp⟩) ?_
          go_simp
          refine HeldX.take 16 (v := .string ⟨key.toArray⟩) rfl (by kernel_rfl) (by kernel_rfl) (by kernel_rfl) (by kernel_rfl) (fun _ _ _ h => h) S0 (.inl ⟨by kernel_rfl, fun w h => by have h1 := h.2.1; go_simp⟩) ?_
          go_simp
          refine HeldX.move 17 (v := .slice (some ⟨b2, 0, none⟩) es.length c2) rfl (by kernel_rfl) (by kernel_rfl) (by kernel_rfl) (by kernel_rfl) (fun _ _ _ h => h) S0 (.inl ⟨by kernel_rfl, fun w h => by go_simp⟩) ?_
          go_simp
          refine HeldX.move 18 (v := .int .i64 (k : Int)) rfl (by kernel_rfl) (by kernel_rfl) (by kernel_rfl) (by kernel_rfl) (fun _ _ _ h => h) S0 (.inl ⟨by kernel_rfl, fun w h => by go_simp⟩) ?_
          go_simp
          refine HeldX.move 19 (v := .pointer (some ⟨b2, k * 8, none⟩)) rfl (by kernel_rfl) (by kernel_rfl) (by kernel_rfl) (by kernel_rfl) (fun _ _ _ h => h) S0 (.inl ⟨by kernel_rfl, fun w h => by go_simp⟩) ?_
          go_simp
          refine HeldX.move 20 (v := .pointer (some ⟨b2, k * 8 + 1, none⟩)) rfl (by kernel_rfl) (by kernel_rfl) (by kernel_rfl) (by kernel_rfl) (fun _ _ _ h => h) S0 (.inl ⟨by kernel_rfl, fun w h => by go_simp⟩) ?_
          go_simp
          refine HeldX.take 21 (v := .string ⟨key.toArray⟩) rfl (by kernel_rfl) (by kernel_rfl) (by kernel_rfl) (by kernel_rfl) (fun _ _ _ h => h) S0 (.inl ⟨by kernel_rfl, fun w h => by have h1 := h.2.2.2.1; go_simp⟩) ?_
          go_simp
          refine HeldX.move 22 (v := .bool false) rfl (by kernel_rfl) (by kernel_rfl) (by kernel_rfl) (by kernel_rfl) (fun _ _ _ h => h) S0 (.inl ⟨by kernel_rfl, fun w h => by go_simp⟩) ?_
          go_simp
          refine HeldX.move 23 (v := .bool false) rfl (by kernel_rfl) (by kernel_rfl) (by kernel_rfl) (by kernel_rfl) (fun _ _ _ h => h) S0 (.inl ⟨by kernel_rfl, fun w h => by go_simp⟩) ?_
          go_simp
          refine HeldX.move 24 (v := .bool false) rfl (by kernel_rfl) (by kernel_rfl) (by kernel_rfl) (by kernel_rfl) (fun _ _ _ h => h) S0 (.inl ⟨by kernel_rfl, fun w h => by go_simp⟩) ?_
          go_simp
          refine HeldX.move 25 (v := .int .i64 0) rfl (by kernel_rfl) (by kernel_rfl) (by kernel_rfl) (by kernel_rfl) (fun _ _ _ h => h) S0 (.inl ⟨by kernel_rfl, fun w h => by go_simp⟩) ?_
          go_simp
          refine HeldX.move 26 (v := .bool false) rfl (by kernel_rfl) (by kernel_rfl) (by kernel_rfl) (by kernel_rfl) (fun _ _ _ h => h) S0 (.inl ⟨by kernel_rfl, fun w h => by go_simp⟩) ?_
          go_simp
          refine HeldX.move 27 (v := .bool false) rfl (by kernel_rfl) (by kernel_rfl) (by kernel_rfl) (by kernel_rfl) (fun _ _ _ h => h) S0 (.inl ⟨by kernel_rfl, fun w h => by go_simp⟩) ?_
          go_simp
          refine HeldX.move 28 (v := .bool false) rfl (by kernel_rfl) (by kernel_rfl) (by kernel_rfl) (by kernel_rfl) (fun _ _ _ h => h) S0 (.inl ⟨by kernel_rfl, fun w h => by go_simp⟩) ?_
          go_simp
          refine HeldX.move 29 (v := .int .i64 0) rfl (by kernel_rfl) (by kernel_rfl) (by kernel_rfl) (by kernel_rfl) (fun _ _ _ h => h) S0 (.inl ⟨by kernel_rfl, fun w h => by go_simp⟩) ?_
          go_simp
          refine HeldX.move 30 (v := .bool false) rfl (by kernel_rfl) (by kernel_rfl) (by kernel_rfl) (by kernel_rfl) (fun _ _ _ h => h) S0 (.inl ⟨by kernel_rfl, fun w h => by go_simp⟩) ?_
          go_simp
          refine HeldX.move 31 (v := .bool false) rfl (by kernel_rfl) (by kernel_rfl) (by kernel_rfl) (by kernel_rfl) (fun _ _ _ h => h) S0 (.inl ⟨by kernel_rfl, fun w h => by go_simp⟩) ?_
          go_simp
          refine HeldX.move 32 (v := .bool false) rfl (by kernel_rfl) (by kernel_rfl) (by kernel_rfl) (by kernel_rfl) (fun _ _ _ h => h) S0 (.inl ⟨by kernel_rfl, fun w h => by go_simp⟩) ?_
          go_simp
          refine HeldX.take 33 (v := .agg (bytesV R).toArray) rfl (by kernel_rfl) (by kernel_rfl) (by kernel_rfl) (by kernel_rfl) (fun _ _ _ h => h) S0 (yieldsIf_load_mid (by kernel_rfl) 30 _ rfl (y1.heap.size) 0 rfl (bytesV R) _ (fun _ h => h.2.2.2.2.1) Tryd.underlying30 rfl HIR.out) ?_
          go_simp
          refine HeldX.take 34 (v := .agg (bytesV R).toArray) rfl (by kernel_rfl) (by kernel_rfl) (by kernel_rfl) (by kernel_rfl) (fun _ _ _ h => h) S0 (yieldsIf_load_mid (by kernel_rfl) 30 _ rfl (y2.heap.size) 0 rfl (bytesV R) _ (fun _ h => h.2.2.2.2.2) Tryd.underlying30 rfl HIR.out) ?_
          go_simp
          refine HeldX.move 35 (v := .bool false) rfl (by kernel_rfl) (by kernel_rfl) (by kernel_rfl) (by kernel_rfl) (fun _ _ _ h => h) S0 (.inl ⟨by kernel_rfl, fun w h => by exact run_neq_op 30 30 (.tmp 128) (.tmp 129) (bytesV R).toArray (bytesV R).toArray (.bool false) rfl rfl rfl (run_eqGuard_agg _ _ _ _ _ _ _ Tryd.eqGuardType30) (run_neq35 HH.out w)⟩) ?_
          go_simp
          refine HeldX.move 36 (v := .bool false) rfl (by kernel_rfl) (by kernel_rfl) (by kernel_rfl) (by kernel_rfl) (fun _ _ _ h => h) S0 (.inl ⟨by kernel_rfl, fun w h => by go_simp⟩) ?_
          go_simp
          refine HeldX.done (by kernel_rfl) ?_ _
          go_wp2_with fail
          go_roundw
          case rel => exact ⟨k + 1, by omega, by go_num, Lib.hid (HCS.out.low B3), Lib.hid (HCT.out.low B3), HB3⟩
          case measure => simp [intOf]; omega
        · obtain rfl : k = es.length := by omega
          have HM1 := Lib.hid (member_any _ es u wr HCS.out (by omega))
          have HM2 := Lib.hid (fun (W : World) (h : CRow W (.slice p2 es.length c2) (es.map redE)) => (by
            have h2 := member_any _ (es.map redE) u W h (by rw [List.length_map]; omega)
            rw [memberL_red] at h2
            exact h2 : Calls Tryd.prog 37 #[.slice p2 es.length c2, .string ⟨u.toArray⟩] W fun e w' => e = .returned (.string ⟨(memberL es u).toArray⟩) ∧ Below W.heap.size W w'))
          generalize memberL es u = m at *
          have hq : (m == m) = true := by simp
          clear hlt hk
          go_wp2_with fail
          refine HM1.out.mono ?_
          rintro e y1 ⟨rfl, hb⟩
          have HCT1 := Lib.hid (HCT.out.low hb)
          have HB1 := Lib.hid (HB.out.trans (hb.mono HB.out.size))
          clear hb
          go_wp2_with fail
          refine (HM2.out _ HCT1.out).mono ?_
          rintro e y2 ⟨rfl, hb⟩
          have HB2 := HB1.out.trans (hb.mono HB1.out.size)
          clear hb
          go_wp2_with fail
          go_ret
          exact ⟨rfl, HB2⟩
end Left
end Go.Proofs.YtbgjoefpnjgdkaaDoor
