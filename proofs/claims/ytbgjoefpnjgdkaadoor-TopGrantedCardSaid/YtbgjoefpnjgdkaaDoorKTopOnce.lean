/- The walk of the law TopOnce, by the contracts of what it calls. -/
import Derived.Test.YtbgjoefpnjgdkaaDoorJ32
import Derived.Test.YtbgjoefpnjgdkaaDoorJ34
import Derived.Test.YtbgjoefpnjgdkaaDoorKTreeEdges
import Derived.Laws.StructEq
namespace Go.Proofs.YtbgjoefpnjgdkaaDoor
open Go.RowKit
set_option linter.unusedVariables false
set_option linter.unusedSimpArgs false
set_option maxRecDepth 100000
namespace Top
open Oct Sha Tree Go.Proofs.YtbgjoefpnjgdkaaDoor.One

theorem publicL_length (X kk : Nat → Int) (s : List UInt8) : (publicL X kk s).length = 32 := sumL_length _ _ _
theorem rootL_length (X kk : Nat → Int) (k : Nat) (ls : List (List UInt8)) (h : ls.length = 2 ^ k) (he : ∀ l ∈ ls, l.length = 32) : (rootL X kk k ls).length = 32 := by
  have h1 := upN_length X kk k 0 ls (by simpa using h)
  have h2 := upN_each X kk k 0 ls (by simpa using h) he
  rw [rootL, List.getD_eq_getElem?_getD, List.getElem?_eq_getElem (by rw [h1]; decide)]
  exact h2 _ (List.getElem_mem _)

/-- the path's own slice, climbed -/
theorem climb_path (X kk : Nat → Int) (ls : List (List UInt8)) (k i : Nat) (hk : k ≤ 3) (hl : ls.length = 2 ^ k) (hi : i < 2 ^ k) (he : ∀ l ∈ ls, l.length = 32) (base : Nat) (w : World) (v : Value) (ho : OwnH base w v (pathL X kk ls i k)) (hn : k = 0 → v = .slice none 0 0) (hT : Tabs w X kk) :
    Calls Tryd.prog 18 #[.agg (bytesV (ls.getD i [])).toArray, .int .i64 (i : Int), v] w fun e w' => e = .returned (.tuple #[.agg (bytesV (rootL X kk k ls)).toArray, .int .i64 0]) ∧ Below w.heap.size w w' := by
  have h32 : (ls.getD i []).length = 32 := by
    rw [List.getD_eq_getElem?_getD, List.getElem?_eq_getElem (by rw [hl]; exact hi)]
    exact he _ (List.getElem_mem _)
  have hR := climb_root X kk k ls i hl hi
  rw [← hR]
  cases k with
  | zero =>
    obtain rfl : i = 0 := by simpa using hi
    rw [hn rfl]
    have h := climb_nil (ls.getD 0 []) h32 w
    simpa [pathL, climbL] using h
  | succ k =>
    have hpe : ∀ l ∈ pathL X kk ls i (k + 1), l.length = 32 := by
      intro l hl'
      obtain ⟨j, hj, rfl⟩ := List.mem_map.1 hl'
      have hj' : j < k + 1 := List.mem_range.1 hj
      have h1 := upN_length X kk j (k + 1 - j) ls (by rw [hl, show j + (k + 1 - j) = k + 1 by omega])
      have h2 := upN_each X kk j (k + 1 - j) ls (by rw [hl, show j + (k + 1 - j) = k + 1 by omega]) he
      have h3 : i / 2 ^ j < 2 ^ (k + 1 - j) := by
        rw [Nat.div_lt_iff_lt_mul (Nat.two_pow_pos _), ← Nat.pow_add, show k + 1 - j + j = k + 1 by omega]
        exact hi
      have h4 : (i / 2 ^ j) ^^^ 1 < (upN X kk j ls).length := by
        rw [h1]
        exact Nat.xor_lt_two_pow h3 (Nat.lt_of_lt_of_le (by decide : 1 < 2 ^ 1) (Nat.pow_le_pow_right (by omega) (by omega)))
      rw [List.getD_eq_getElem?_getD, List.getElem?_eq_getElem h4]
      exact h2 _ (List.getElem_mem _)
    have hpl := pathL_length X kk ls i (k + 1)
    have hrow := OwnH.row ho hpe (by omega)
    obtain ⟨b, o, cap, rfl, hb, hc, hr⟩ := hrow
    have hrow2 := OwnH.row ho hpe (by omega)
    rw [hpl] at hrow2 ⊢
    exact climb_any X kk (ls.getD i []) h32 i b o cap _ hpe (k + 1) hk hpl (by omega) hi w hrow2 hT

theorem once_much (p : Option Addr) (n cap : Nat) (t : ByteArray) (w : World) (h : (8 : Int) < (n : Int)) :
    Calls Tryd.prog 4 #[.slice p n cap, .string t] w fun e w' => e = .returned (.bool true) ∧ Below w.heap.size w w' := by
  go_enter Tryd.func4, Tryd.ntmps4
  go_wp2_with fail
  refine (begins_any _).mono ?_
  rintro e w1 ⟨rfl, B1⟩
  go_wp2_with fail
  go_ret
  exact ⟨rfl, B1⟩
theorem once_long (p : Option Addr) (n cap : Nat) (t : ByteArray) (w : World) (h : (n : Int) ≤ 8) (ht : (16384 : Int) < (t.size : Int)) :
    Calls Tryd.prog 4 #[.slice p n cap, .string t] w fun e w' => e = .returned (.bool true) ∧ Below w.heap.size w w' := by
  go_enter Tryd.func4, Tryd.ntmps4
  go_wp2_with fail
  refine (begins_any _).mono ?_
  rintro e w1 ⟨rfl, B1⟩
  go_wp2_with fail
  go_ret
  exact ⟨rfl, B1⟩

theorem ownH_low {base : Nat} {w w' : World} {v : Value} {ls : List (List UInt8)} (h : OwnH base w v ls) (hb : Below w.heap.size w w') : OwnH base w' v ls :=
  ownH_far (row := none) h ⟨hb.os, hb.tape, hb.output, hb.size, fun k hk _ => hb.block k hk⟩ (fun r e => by cases e)
theorem ownH_form {base : Nat} {w : World} {v : Value} {ls : List (List UInt8)} (h : OwnH base w v ls) : ∃ p c, v = .slice p ls.length c := by
  rcases h.2 with ⟨h, h0⟩ | ⟨g, c, cur, h, _⟩
  · exact ⟨none, 0, by rw [h0]; exact h⟩
  · exact ⟨_, _, h⟩
theorem fits_two (n : Nat) (h8 : n ≤ 8) (h : fitsB n = true) : ∃ k, k ≤ 3 ∧ n = 2 ^ k := by
  have h' : ∀ a : Fin 9, fitsB a.val = true → ∃ k : Fin 4, a.val = 2 ^ k.val := by decide
  obtain ⟨k, hk⟩ := h' ⟨n, by omega⟩ h
  exact ⟨k.val, by omega, hk⟩

/-- a guarded load of a row that is wanted -/
theorem wpList_load_wanted {P : Program} {ops : Array Oper} {rest : List Oper} {op : Oper} {a : Act} {w : World} {Q : Exit → Act → World → Prop} (hw : Region.wanted op (yielded ops a.tmps) = true) (ty : TypeId) (x : Operand) (ho : op.op = .load ty x)
    (b o : Nat) (hx : a.eval x = .pointer (some ⟨b, o, none⟩)) (cs : List Value) (d : TypeDesc) (hc : w.rangeAt b o cs)
    (hu : P.underlying ty = some d) (hd : d.isRow = true) (hi : (P.info? ty).map (·.size) = some cs.length)
    (h : wpList P ops Q rest (a.put op.dst (.agg cs.toArray)) w) : wpList P ops Q (op :: rest) a w :=
  wpList_step fun K hK => by
    rw [if_pos hw]
    exact wp_load_mid ty x ho b o hx cs d hc hu hd hi (hK _ _ h)

theorem wp_neq {P : Program} {op : Oper} {a : Act} {w : World} {K : Act → World → Prop} {Q : Exit → Act → World → Prop} (t u : TypeId) (x y : Operand) (c d : Array Value) (v : Value) (ho : op.op = .binOp .neq t x y u) (hx : a.eval x = .agg c) (hy : a.eval y = .agg d)
    (hg : (eqGuard .neq t x y (.agg c) (.agg d)).run P w = .ok () w)
    (hr : (binOp .neq t (.agg c) (.agg d)).run P w = .ok v w)
    (h : K (a.put op.dst v) w) : op.wp P a w K Q := by
  unfold Oper.wp execOp
  simp only [ho, hx, hy, Sem.run_bind, Sem.run_pure, hg, hr, Result.andThen_ok]
  exact h
theorem wpList_neq_wanted {P : Program} {ops : Array Oper} {rest : List Oper} {op : Oper} {a : Act} {w : World} {Q : Exit → Act → World → Prop} (hw : Region.wanted op (yielded ops a.tmps) = true) (t u : TypeId) (x y : Operand) (c d : Array Value) (v : Value) (ho : op.op = .binOp .neq t x y u) (hx : a.eval x = .agg c) (hy : a.eval y = .agg d)
    (hg : (eqGuard .neq t x y (.agg c) (.agg d)).run P w = .ok () w)
    (hr : (binOp .neq t (.agg c) (.agg d)).run P w = .ok v w)
    (h : wpList P ops Q rest (a.put op.dst v) w) : wpList P ops Q (op :: rest) a w :=
  wpList_step fun K hK => by
    rw [if_pos hw]
    exact wp_neq t u x y c d v ho hx hy hg hr (hK _ _ h)

set_option maxHeartbeats 8000000 in
theorem once_main (p : Option Addr) (cap : Nat) (t : ByteArray) (L : List (List UInt8)) (w : World) (X kk : Nat → Int) (hT : Tabs w X kk) (hL : StrRow w (.slice p L.length cap) L) (h8 : (L.length : Int) ≤ 8) (ht : (t.size : Int) ≤ 16384) :
    Calls Tryd.prog 4 #[.slice p L.length cap, .string t] w fun e w' => e = .returned (.bool true) ∧ Below w.heap.size w w' := by
  obtain ⟨i0, hin, hz0, hz1, hz2⟩ := info_parts info_hash
  go_enter Tryd.func4, Tryd.ntmps4
  go_wp2_with fail
  refine (begins_any _).mono ?_
  rintro e w1 ⟨rfl, B1⟩
  have HR := Lib.hid (RowS.of (hL.below rfl B1)).2
  have HT := Lib.hid (hT.below rfl B1)
  have HB1 := Lib.hid B1
  clear hL hT B1
  go_wp2_with fail
  go_loopw [30, 5] (fun x v wr => ∃ j : Nat, j ≤ L.length ∧ x = .int .i64 (j : Int) ∧ Hid (OwnH w1.heap.size wr v ((L.take j).map (publicL X kk))) ∧ Hid (∀ s ∈ L.take j, s.length ≤ 1024) ∧ Hid (Below w1.heap.size w1 wr)) (fun x _ _ => L.length - (intOf x).toNat)
  case atStart => exact ⟨0, by omega, rfl, Lib.hid (OwnH.nil _ _), Lib.hid (by simp), Lib.hid (Below.refl _ _)⟩
  case round =>
    obtain ⟨j, hj, rfl, HO, HS, BR⟩ := hrel
    obtain ⟨pv, cv, hvf⟩ := ownH_form HO.out
    rw [List.length_map, List.length_take, Nat.min_eq_left hj] at hvf
    subst hvf
    by_cases hlt : j < L.length
    · have hji : (j : Int) < (L.length : Int) := by omega
      have hj0 : (0 : Int) ≤ (j : Int) := by omega
      obtain ⟨b1, o1, rfl, hb1, c1⟩ := (HR.out.below BR.out) j hlt
      have HTK : Hid (L.take (j + 1) = L.take j ++ [L[j]]) := Lib.hid (List.take_succ_eq_append_getElem hlt)
      have hll : (L.take j).length = j := by rw [List.length_take]; omega
      generalize hx : L[j] = x at *
      have hsx : (ByteArray.mk x.toArray).size = x.length := by simp [ByteArray.size]
      by_cases hlong : (1024 : Int) < (x.length : Int)
      · go_wp2_with fail
        refine bodyPost_ret (v := .bool true) (by simp [results, Tryd.f4, go_sem]) rfl ⟨rfl, HB1.out.trans (BR.out.mono HB1.out.size)⟩
      · have hle : (x.length : Int) ≤ 1024 := by omega
        have HC := Lib.hid (public_any X kk x (by omega) wr (HT.out.below rfl BR.out))
        have hy32 := publicL_length X kk x
        have HM : Hid ((L.take (j + 1)).map (publicL X kk) = (L.take j).map (publicL X kk) ++ [publicL X kk x]) := by rw [HTK.out, List.map_append]; exact Lib.hid rfl
        have HS2 : Hid (∀ s ∈ L.take (j + 1), s.length ≤ 1024) := by
          rw [HTK.out]
          refine Lib.hid fun s hs => ?_
          rcases List.mem_append.1 hs with h | h
          · exact HS.out s h
          · rw [List.mem_singleton.1 h]; omega
        generalize publicL X kk x = y at *
        have hfold : (bytesV y).zipIdx.foldl (fun cs x => cs.setIfInBounds x.snd x.fst) #[Value.int .u8 0, Value.int .u8 0, Value.int .u8 0, Value.int .u8 0, Value.int .u8 0, Value.int .u8 0, Value.int .u8 0, Value.int .u8 0, Value.int .u8 0, Value.int .u8 0, Value.int .u8 0, Value.int .u8 0, Value.int .u8 0, Value.int .u8 0, Value.int .u8 0, Value.int .u8 0, Value.int .u8 0, Value.int .u8 0, Value.int .u8 0, Value.int .u8 0, Value.int .u8 0, Value.int .u8 0, Value.int .u8 0, Value.int .u8 0, Value.int .u8 0, Value.int .u8 0, Value.int .u8 0, Value.int .u8 0, Value.int .u8 0, Value.int .u8 0, Value.int .u8 0, Value.int .u8 0] = (bytesV y).toArray := fold_all _ _ (by rw [bytesV_length, hy32]; rfl)
        have hbl : (bytesV y).length = 32 := by rw [bytesV_length, hy32]
        go_wp2_with fail
        refine HC.out.mono ?_
        rintro e w2 ⟨rfl, hb2⟩
        have ho2 := ownH_low HO.out hb2
        have hB2 := BR.out.trans (hb2.mono BR.out.size)
        have hoA : (w2.alloc (.cells (bytesV y).toArray 30)).ownsRow w1.heap.size 30 32 (.slice pv j cv) j (((L.take j).map (publicL X kk)).flatMap bytesV) := by
          have h := ho2
          rw [OwnH, List.length_map, hll] at h
          exact h.alloc _
        have HOA := Lib.hid hoA
        have hs2 := hb2.size
        have hs1 := BR.out.size
        go_wp2_with (at_builtin; go_must (refine wpList_append_own _ rfl _ _ _ rfl w1.heap.size 30 i0 (.agg (Array.replicate 32 (.int .u8 0))) 32 32 Tryd.underlying33 hin hz0 hz1 hz2 (by simp [Value.cells]) (by decide) _ j _ rfl HOA.out ⟨w2.heap.size, 0, none⟩ 1 1 (bytesV y) rfl (by rw [hbl]) (World.news_of_block (World.alloc_heap_new w2 _)) (bytesV_cell y) (by unfold maxLen; omega) (by omega) (by simp; omega) ?_; intro v' w3 hown' hgrow _))
        have hsA : (w2.alloc (.cells (bytesV y).toArray 30)).heap.size = w2.heap.size + 1 := by simp
        refine ⟨⟨j + 1, by omega, by go_num, ?_, HS2, Lib.hid ((hB2.alloc (by omega) _).grown hgrow (by omega) (fun k hk => (World.ownsRow.lt HOA.out k hk).1))⟩, by simp [intOf]; omega⟩
        rw [HM.out]
        refine Lib.hid ?_
        unfold OwnH
        rw [List.length_append, List.length_map, hll, List.flatMap_append, List.flatMap_singleton]
        exact hown'
    · obtain rfl : j = L.length := by omega
      clear hlt hj
      obtain ⟨wo, hwo⟩ : ∃ wo, wo = wr := ⟨_, rfl⟩
      subst hwo
      rw [List.take_length] at HO HS
      have hlm : (L.map (publicL X kk)).length = L.length := List.length_map _
      have hle : ∀ l ∈ L.map (publicL X kk), l.length = 32 := by
        intro l hl
        obtain ⟨s, _, rfl⟩ := List.mem_map.1 hl
        exact publicL_length X kk s
      have HTr := Lib.hid (HT.out.below rfl BR.out)
      have hrs := BR.out.size
      by_cases hfit : fitsB L.length = true
      · obtain ⟨k, hk3, hk⟩ := fits_two L.length (by omega) hfit
        have hlk : (L.map (publicL X kk)).length = 2 ^ k := hlm.trans hk
        have hrow := OwnH.row HO.out hle (by rw [hlk]; exact Nat.one_le_two_pow)
        have HRT := Lib.hid (root_any X kk _ _ k hk3 hlk hle wo hrow HTr.out)
        have hr32 := rootL_length X kk k _ hlk hle
        have HPU : Hid (∀ i (h : i < L.length), (L.map (publicL X kk)).getD i [] = publicL X kk L[i]) := Lib.hid (fun i h => by rw [List.getD_eq_getElem?_getD, List.getElem?_map, List.getElem?_eq_getElem h]; rfl)
        have HLK := Lib.hid hlk
        have HK := Lib.hid hk
        have HLE := Lib.hid hle
        have HROW := Lib.hid hrow
        clear hlk hk hle hrow hlm hfit
        generalize hLv : L.map (publicL X kk) = Lv at *
        clear hLv
        have HRO := Lib.hid (fun (i : Nat) (hi : i < 2 ^ k) (base : Nat) (w : World) (v : Value) => climb_path X kk Lv k i hk3 HLK.out hi HLE.out base w v)
        generalize rootL X kk k Lv = R at *
        go_wp2_with fail
        refine HRT.out.mono ?_
        rintro e w3 ⟨rfl, hb3⟩
        have hbl : (bytesV R).length = 32 := by rw [bytesV_length, hr32]
        have HIA : Hid ((Tryd.prog.info? 30).map (·.size) = some (bytesV R).toArray.size) := by rw [List.size_toArray, hbl]; exact Lib.hid (by kernel_rfl)
        have HIR : Hid ((Tryd.prog.info? 30).map (·.size) = some (bytesV R).length) := by rw [hbl]; exact Lib.hid (by kernel_rfl)
        have HSZ : Hid ((bytesV R).toArray.size = 32) := by rw [List.size_toArray, hbl]; exact Lib.hid rfl
        have A0 := HashAt.new w3 R hr32 30
        have hs4 : (w3.alloc (.cells (bytesV R).toArray 30)).heap.size = w3.heap.size + 1 := by simp
        have B4 : Below wo.heap.size wo (w3.alloc (.cells (bytesV R).toArray 30)) := hb3.alloc hb3.size _
        have hs3 := hb3.size
        clear hb3
        go_wp2_with (refine wpList_store_new (o := ⟨none, .store 30 (.tmp 8) (.tmp 46), _, _, _, _⟩) rfl 30 (.tmp 8) (.tmp 46) rfl _ (bytesV R).toArray ?_ ?_ HIA.out ?_ (bytesV_one _) ?_; rfl; rfl; exact (show _ = 32 from rfl).trans HSZ.out.symm)
        generalize w3.alloc (.cells (bytesV R).toArray 30) = w4 at *
        have HA := Lib.hid A0
        have HB4 := Lib.hid B4
        clear A0 B4
        go_loopw [54] (fun x wr => ∃ i : Nat, i ≤ L.length ∧ x = .int .i64 (i : Int) ∧ Hid (Below w4.heap.size w4 wr)) (fun x _ => L.length - (intOf x).toNat)
        case atStart => exact ⟨0, by omega, rfl, Lib.hid (Below.refl _ _)⟩
        case round =>
          obtain ⟨i, hi, rfl, BQ⟩ := hrel
          have hsq := BQ.out.size
          by_cases hlt : i < L.length
          · have hii : (i : Int) < (L.length : Int) := by omega
            have hi0 : (0 : Int) ≤ (i : Int) := by omega
            have HBQ : Hid (Below wo.heap.size wo wr) := Lib.hid (HB4.out.trans (BQ.out.mono (by omega)))
            obtain ⟨b1, o1, rfl, hb1, c1⟩ := ((HR.out.below BR.out).below HBQ.out) i hlt
            have hx1024 := HS.out _ (List.getElem_mem hlt)
            have hpu := HPU.out i hlt
            generalize L[i] = x at *
            have hsx : (ByteArray.mk x.toArray).size = x.length := by simp [ByteArray.size]
            have HTq := Lib.hid (HTr.out.below rfl HBQ.out)
            have HSG := Lib.hid (sign_any X kk x (by omega) t wr HTq.out)
            have hsl := signL_length X kk x t.data.toList
            have hrec := recover_sign X kk x t.data.toList
            have hy32 := publicL_length X kk x
            have hik : i < 2 ^ k := by have := HK.out; omega
            have HCL : Hid (∀ base w v, OwnH base w v (pathL X kk Lv i k) → (k = 0 → v = .slice none 0 0) → Tabs w X kk → Calls Tryd.prog 18 #[.agg (bytesV (publicL X kk x)).toArray, .int .i64 (i : Int), v] w fun e w' => e = .returned (.tuple #[.agg (bytesV R).toArray, .int .i64 0]) ∧ Below w.heap.size w w') := by
              rw [← hpu]
              exact Lib.hid (fun base w v => HRO.out i hik base w v)
            clear hpu
            generalize signL X kk x t.data.toList = sg at *
            have HRC := Lib.hid (fun (W : World) (h : Below wo.heap.size wo W) => recover_any X kk t sg hsl W (HTr.out.below rfl h))
            rw [hrec] at HRC
            generalize publicL X kk x = y at *
            have HPA := Lib.hid (fun (W : World) (h : Below wo.heap.size wo W) => path_any X kk (.slice pv L.length cv) Lv k i hk3 HLK.out hik HLE.out W (HROW.out.below h) (HTr.out.below rfl h) (HTr.out.below rfl h).k.size (HTr.out.below rfl h).x.size)
            clear hrec hik
            have hyl : (bytesV y).length = 32 := by rw [bytesV_length, hy32]
            have HYA : Hid ((Tryd.prog.info? 30).map (·.size) = some (bytesV y).toArray.size) := by rw [List.size_toArray, hyl]; exact Lib.hid (by kernel_rfl)
            have HYR : Hid ((Tryd.prog.info? 30).map (·.size) = some (bytesV y).length) := by rw [hyl]; exact Lib.hid (by kernel_rfl)
            have HYZ : Hid ((bytesV y).toArray.size = 32) := by rw [List.size_toArray, hyl]; exact Lib.hid rfl
            go_wp2_with fail
            refine HSG.out.mono ?_
            rintro e w5 ⟨rfl, hb5⟩
            have HB5 : Hid (Below wo.heap.size wo w5) := Lib.hid (HBQ.out.trans (hb5.mono HBQ.out.size))
            go_wp2_with fail
            refine (HRC.out w5 HB5.out).mono ?_
            rintro e w6 ⟨rfl, hb6⟩
            have BQ6 : Hid (Below w4.heap.size w4 w6) := Lib.hid ((BQ.out.trans (hb5.mono BQ.out.size)).trans (hb6.mono (by have := hb5.size; omega)))
            have HB6 : Hid (Below wo.heap.size wo w6) := Lib.hid (HB5.out.trans (hb6.mono HB5.out.size))
            have hs6 := BQ6.out.size
            have A7 := HashAt.new w6 y hy32 30
            have hs7 : (w6.alloc (.cells (bytesV y).toArray 30)).heap.size = w6.heap.size + 1 := by simp
            have HB7 : Hid (Below wo.heap.size wo (w6.alloc (.cells (bytesV y).toArray 30))) := Lib.hid (HB6.out.alloc (by omega) _)
            have BQ7 : Hid (Below w4.heap.size w4 (w6.alloc (.cells (bytesV y).toArray 30))) := Lib.hid (BQ6.out.alloc (by omega) _)
            clear hb5 hb6
            go_wp2_with (refine wpList_store_new (o := ⟨none, .store 30 (.tmp 12) (.tmp 65), _, _, _, _⟩) rfl 30 (.tmp 12) (.tmp 65) rfl _ (bytesV y).toArray ?_ ?_ HYA.out ?_ (bytesV_one _) ?_; rfl; rfl; exact (show _ = 32 from rfl).trans HYZ.out.symm)
            generalize w6.alloc (.cells (bytesV y).toArray 30) = w7 at *
            refine (HPA.out w7 HB7.out).mono ?_
            rintro e w8 ⟨pth, rfl, hop, hpn, hb8⟩
            have BQ8 : Hid (Below w4.heap.size w4 w8) := Lib.hid (BQ7.out.trans (hb8.mono BQ7.out.size))
            have HB8 : Hid (Below wo.heap.size wo w8) := Lib.hid (HB7.out.trans (hb8.mono HB7.out.size))
            have A8 := Lib.hid (A7.below hb8).at_
            have HC8 := Lib.hid (HCL.out _ w8 pth hop hpn (HTr.out.below rfl HB8.out))
            have hs8 := BQ8.out.size
            clear hb8 A7 hop
            go_wp2_with (with_reducible refine wpList_load_mid rfl 30 _ rfl w6.heap.size 0 rfl (bytesV y) _ A8.out Tryd.underlying30 rfl HYR.out ?_)
            refine HC8.out.mono ?_
            rintro e w9 ⟨rfl, hb9⟩
            have BQ9 : Hid (Below w4.heap.size w4 (w9.alloc (.cells (bytesV R).toArray 30))) := Lib.hid ((BQ8.out.trans (hb9.mono BQ8.out.size)).alloc (by have := hb9.size; omega) _)
            have A9 := HashAt.new w9 R hr32 30
            have A10 := HA.out.below BQ9.out
            have hs9 : (w9.alloc (.cells (bytesV R).toArray 30)).heap.size = w9.heap.size + 1 := by simp
            clear hb9
            have HT16 := Lib.hid A9.at_
            have HT8 := Lib.hid A10.at_
            have hneq : ∀ W, (binOp .neq 30 (.agg (bytesV R).toArray) (.agg (bytesV R).toArray)).run Tryd.prog W = .ok (.bool false) W := fun W => by
              rw [hash_neq W _ _ hr32 hr32]; simp [bne]
            clear A9 A10
            go_wp2_with (first | (refine wpList_store_new (o := ⟨none, .store 30 (.tmp 16) (.tmp 78), _, _, _, _⟩) rfl 30 (.tmp 16) (.tmp 78) rfl _ (bytesV R).toArray ?_ ?_ HIA.out ?_ (bytesV_one _) ?_; rfl; rfl; exact (show _ = 32 from rfl).trans HSZ.out.symm) | ((with_reducible show wpList _ _ _ (⟨some 91, _, _, _, _, _⟩ :: _) _ _); refine wpList_load_wanted (by kernel_rfl) 30 (.tmp 16) rfl w9.heap.size 0 rfl (bytesV R) _ HT16.out Tryd.underlying30 rfl HIR.out ?_) | ((with_reducible show wpList _ _ _ (⟨some 92, _, _, _, _, _⟩ :: _) _ _); refine wpList_load_wanted (by kernel_rfl) 30 (.tmp 8) rfl w3.heap.size 0 rfl (bytesV R) _ HT8.out Tryd.underlying30 rfl HIR.out ?_; refine wpList_neq_wanted (by kernel_rfl) 30 _ (.tmp 91) (.tmp 92) (bytesV R).toArray (bytesV R).toArray (.bool false) rfl rfl rfl (run_eqGuard_agg _ _ _ _ _ _ _ Tryd.eqGuardType30) (hneq _) ?_))
            exact ⟨⟨i + 1, by omega, by go_num, BQ9⟩, by simp [intOf]; omega⟩
          · obtain rfl : i = L.length := by omega
            clear hlt hi
            go_wp2_with fail
            refine bodyPost_ret (v := .bool true) (by simp [results, Tryd.f4, go_sem]) rfl ⟨rfl, HB1.out.trans ((BR.out.trans ((HB4.out.trans (BQ.out.mono (by omega))).mono BR.out.size)).mono HB1.out.size)⟩
      · have hfit2 : fitsB L.length = false := by simpa using hfit
        have HRB := Lib.hid (root_bad (.slice pv L.length cv) L L.length (.inr ⟨_, _, rfl⟩) (by omega) hfit2 wo)
        clear hfit hfit2
        go_wp2_with fail
        refine HRB.out.mono ?_
        rintro e w3 ⟨cs, hcs, rfl, hb3⟩
        have hbl : (bytesV cs).length = 32 := by rw [bytesV_length, hcs]
        have HIA : Hid ((Tryd.prog.info? 30).map (·.size) = some (bytesV cs).toArray.size) := by rw [List.size_toArray, hbl]; exact Lib.hid (by kernel_rfl)
        have HSZ : Hid ((bytesV cs).toArray.size = 32) := by rw [List.size_toArray, hbl]; exact Lib.hid rfl
        have B4 : Below wo.heap.size wo (w3.alloc (.cells (bytesV cs).toArray 30)) := hb3.alloc hb3.size _
        have HB4 := Lib.hid B4
        clear hb3 B4
        go_wp2_with (refine wpList_store_new (o := ⟨none, .store 30 (.tmp 8) (.tmp 46), _, _, _, _⟩) rfl 30 (.tmp 8) (.tmp 46) rfl _ (bytesV cs).toArray ?_ ?_ HIA.out ?_ (bytesV_one _) ?_; rfl; rfl; exact (show _ = 32 from rfl).trans HSZ.out.symm)
        refine bodyPost_ret (v := .bool true) (by simp [results, Tryd.f4, go_sem]) rfl ⟨rfl, HB1.out.trans ((BR.out.trans (HB4.out.mono hrs)).mono HB1.out.size)⟩

theorem once_top (ao : Option Addr) (n cap : Nat) (t : ByteArray) (X kk : Nat → Int) (W : World) (hT : Tabs W X kk) (L : List (List UInt8)) (hL : StrRow W (.slice ao n cap) L) :
    Calls Tryd.prog 4 #[.slice ao n cap, .string t] W fun e w' => e = .returned (.bool true) ∧ Below W.heap.size W w' := by
  obtain ⟨rfl, -⟩ := RowS.of hL
  by_cases h8 : (8 : Int) < (L.length : Int)
  · exact once_much ao _ cap t W h8
  · by_cases ht : (16384 : Int) < (t.size : Int)
    · exact once_long ao _ cap t W (by omega) ht
    · exact once_main ao cap t L W X kk hT hL (by omega) (by omega)
end Top
end Go.Proofs.YtbgjoefpnjgdkaaDoor
