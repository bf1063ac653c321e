/- Joined of 2 texts: their lemmas, one behind the other; each says below what it holds. -/
import Derived.Test.YtbgjoefpnjgdkaaDoorLeftPlain
import Derived.Test.YtbgjoefpnjgdkaaDoorIdentNum
import Derived.Test.YtbgjoefpnjgdkaaDoorEventBytes
import Derived.Test.YtbgjoefpnjgdkaaDoorShaSum
import Derived.Test.YtbgjoefpnjgdkaaDoorBlk
/- A right event has bytes, and few. Plain. -/
namespace Go.Proofs.YtbgjoefpnjgdkaaDoor
set_option linter.unusedVariables false
set_option linter.unusedSimpArgs false
namespace Left
open Named Oct
theorem ident_len {t : List UInt8} {k : Nat} (h : (ofI t k).2 = true) : t.length ≤ 20 := by
  have h1 := parseI_ok (ofI_ok h).1
  rw [textI] at h1
  split at h1
  · rename_i ho
    obtain ⟨hk, hn, h0, h6⟩ := ho
    have e := (Prod.mk.inj h1).1
    rw [← e, List.length_append, List.length_append, List.length_append]
    simp only [nameB, Bool.and_eq_true, decide_eq_true_eq] at hn
    have hs : (signL (parseI t).1.1).length ≤ 1 := by
      unfold signL
      split
      · simp
      · split <;> simp
    have hd := decDigits_short ((((parseI t).1.2.2 : Nat) : Int).toNat) (by omega)
    have := hn.2
    simp only [List.length_cons, List.length_nil]
    omega
  · cases (Prod.mk.inj h1).2
theorem word_len (k : Nat) (h : k < 9) : (wordL k).length ≤ 8 := by
  obtain rfl | rfl | rfl | rfl | rfl | rfl | rfl | rfl | rfl : k = 0 ∨ k = 1 ∨ k = 2 ∨ k = 3 ∨ k = 4 ∨ k = 5 ∨ k = 6 ∨ k = 7 ∨ k = 8 := by omega
  all_goals decide
theorem num_len (n : Nat) : (numR n).1.length ≤ 11 := by
  rw [numR]
  split
  · exact putF_length 10 n
  · simp
theorem texts_short {e : Ev} (h : checkE e = 0) : ∀ t ∈ textsE e, t.length ≤ 512 := by
  obtain ⟨h1, h2, h3, h4, h5, -, -⟩ := check_parts h
  have hkey : e.key.length ≤ 20 := by
    rw [keyB] at h4
    split at h4
    · exact ident_len h4
    · rw [of_decide_eq_true h4]; simp
  intro t ht
  have i1 := ident_len h1
  have i2 := ident_len h2
  have i3 := word_len e.kind h3.2
  have i4 := num_len e.nonce.toNat
  simp only [textsE, List.mem_cons, List.not_mem_nil, or_false] at ht
  rcases ht with rfl | rfl | rfl | rfl | rfl | rfl <;> omega
theorem flat_short : ∀ ls : List (List UInt8), (∀ t ∈ ls, t.length ≤ 512) → (ls.flatMap textL).length ≤ ls.length * 523
  | [], _ => by simp
  | t :: r, h => by
    have h1 := flat_short r (fun x hx => h x (by simp [hx]))
    have h2 := h t (by simp)
    have h3 : (textL t).length ≤ 523 := by
      rw [textL, List.length_append]
      have : (putL t.length).length ≤ 11 := putF_length 10 t.length
      omega
    rw [List.flatMap_cons, List.length_append, List.length_cons]
    omega
theorem bytes_zero {e : Ev} (h : checkE e = 0) : (bytesE e).2 = 0 ∧ (bytesE e).1.length ≤ 8192 := by
  have hs := texts_short h
  have hl : (textsE e).length = 6 := rfl
  have hf := flat_short _ hs
  rw [bytesE, if_pos h, listR, if_neg (by omega), if_neg (by
    rintro ⟨t, ht, h2⟩
    have := hs t ht
    omega)]
  refine ⟨rfl, ?_⟩
  have : (putL (textsE e).length).length ≤ 11 := putF_length 10 _
  show (putL (textsE e).length ++ (textsE e).flatMap textL).length ≤ 8192
  rw [List.length_append]
  omega
end Left
end Go.Proofs.YtbgjoefpnjgdkaaDoor
/- redact.Redact, redact.sum, redact.Ref. -/
namespace Go.Proofs.YtbgjoefpnjgdkaaDoor
open Go.RowKit
set_option linter.unusedVariables false
set_option linter.unusedSimpArgs false
set_option maxRecDepth 100000
namespace Left
open Named Sha
set_option maxHeartbeats 1000000 in
theorem red_in (room sender key body : List UInt8) (kind : Nat) (nonce : Int) (w : World) : Calls Tryd.prog 34 #[.agg #[.string ⟨room.toArray⟩, .string ⟨sender.toArray⟩, .int .u8 (kind : Int), .string ⟨key.toArray⟩, .string ⟨body.toArray⟩, .int .i64 nonce]] w fun r w' => r = .returned (evV (redE ⟨room, sender, kind, key, body, nonce⟩)) ∧ Below w.heap.size w w' := by
  have HD : Hid (redE ⟨room, sender, kind, key, body, nonce⟩ = if kind = 6 ∨ kind = 5 then ⟨room, sender, kind, key, [], nonce⟩ else ⟨room, sender, kind, key, body, nonce⟩) := Lib.hid rfl
  by_cases h6 : kind = 6
  · have d6 : ((kind : Int) == 6) = true := by simp [h6]
    have HR := Lib.hid (show redE ⟨room, sender, kind, key, body, nonce⟩ = ⟨room, sender, kind, key, [], nonce⟩ by rw [HD.out, if_pos (by omega)])
    clear HD h6
    go_enter Tryd.func34, Tryd.ntmps34
    go_wp2_with fail
    refine bodyPost_ret (v := .agg #[.string ⟨room.toArray⟩, .string ⟨sender.toArray⟩, .int .u8 (kind : Int), .string ⟨key.toArray⟩, .string ⟨#[]⟩, .int .i64 nonce]) (by simp [results, Tryd.f34, go_sem]) rfl ⟨by rw [HR.out]; rfl, ((Below.refl w.heap.size w).alloc (Nat.le_refl _) _).alloc (by simp) _⟩
  · by_cases h5 : kind = 5
    · have i6 : ¬ (kind : Int) = 6 := by omega
      have d6 : ((kind : Int) == 6) = false := by simpa using i6
      have d5 : ((kind : Int) == 5) = true := by simp [h5]
      clear i6
      have HR := Lib.hid (show redE ⟨room, sender, kind, key, body, nonce⟩ = ⟨room, sender, kind, key, [], nonce⟩ by rw [HD.out, if_pos (by omega)])
      clear HD h6 h5
      go_enter Tryd.func34, Tryd.ntmps34
      go_wp2_with fail
      refine bodyPost_ret (v := .agg #[.string ⟨room.toArray⟩, .string ⟨sender.toArray⟩, .int .u8 (kind : Int), .string ⟨key.toArray⟩, .string ⟨#[]⟩, .int .i64 nonce]) (by simp [results, Tryd.f34, go_sem]) rfl ⟨by rw [HR.out]; rfl, ((Below.refl w.heap.size w).alloc (Nat.le_refl _) _).alloc (by simp) _⟩
    · have HR := Lib.hid (show redE ⟨room, sender, kind, key, body, nonce⟩ = ⟨room, sender, kind, key, body, nonce⟩ by rw [HD.out, if_neg (by omega)])
      have i6 : ¬ (kind : Int) = 6 := by omega
      have i5 : ¬ (kind : Int) = 5 := by omega
      have d6 : ((kind : Int) == 6) = false := by simpa using i6
      have d5 : ((kind : Int) == 5) = false := by simpa using i5
      clear HD h6 h5 i6 i5
      go_enter Tryd.func34, Tryd.ntmps34
      go_wp2_with fail
      refine bodyPost_ret (v := .agg #[.string ⟨room.toArray⟩, .string ⟨sender.toArray⟩, .int .u8 (kind : Int), .string ⟨key.toArray⟩, .string ⟨body.toArray⟩, .int .i64 nonce]) (by simp [results, Tryd.f34, go_sem]) rfl ⟨by rw [HR.out]; rfl, ((Below.refl w.heap.size w).alloc (Nat.le_refl _) _).alloc (by simp) _⟩
theorem red_any (e : Ev) (w : World) : Calls Tryd.prog 34 #[evV e] w fun r w' => r = .returned (evV (redE e)) ∧ Below w.heap.size w w' := red_in e.room e.sender e.key e.body e.kind e.nonce w
theorem results_ct {fn : Func} {t s : Tmp} {ty : TypeId} (h : fn.results = #[.cell t ty, .tmp s]) (tmps : Array Value) (P : Program) (w : World) (b : Nat) (cs : List Value) (u : Value) (hv : tmps.getD t undef = .pointer (some ⟨b, 0, none⟩)) (hs : tmps.getD s undef = u) (hl : (loadVar ty ⟨b, 0, none⟩).run P w = .ok (.agg cs.toArray) w) :
    (results fn tmps).run P w = .ok (.tuple #[.agg cs.toArray, u]) w := by
  have hv' : tmps[t]?.getD undef = .pointer (some ⟨b, 0, none⟩) := by simpa using hv
  have hs' : tmps[s]?.getD undef = u := by simpa using hs
  simp [results, h, hv', asAddr, hl, hs']
set_option maxHeartbeats 2000000 in
theorem sum_ok (X kk : Nat → Int) (e : Ev) (hc : checkE e = 0) (hf : Fits e) (w : World) (hT : Tabs w X kk) (hV : Vars w) (hW : Words w) :
    Calls Tryd.prog 88 #[.string ⟨#[6]⟩, evV e] w fun r w' => r = .returned (.tuple #[.agg (bytesV (sumL X kk (6 :: (bytesE e).1))).toArray, .int .i64 0]) ∧ Below w.heap.size w w' := by
  obtain ⟨h0, hbl⟩ := bytes_zero hc
  have HB := Lib.hid (fun (W : World) (h : Below w.heap.size w W) => (show Calls Tryd.prog 28 #[evV e] W fun r w' => r = .returned (.tuple #[.string ⟨(bytesE e).1.toArray⟩, .int .i64 0]) ∧ Below W.heap.size W w' by
    have h2 := bytes_any e hf W (hV.low h) (hW.low h)
    rw [h0] at h2
    exact h2))
  generalize (bytesE e).1 = bs at *
  have HS : Hid (∀ W : World, Below w.heap.size w W → Calls Tryd.prog 12 #[.string ⟨(6 :: bs).toArray⟩] W fun e w' => e = .returned (.agg (bytesV (sumL X kk (6 :: bs))).toArray) ∧ Below W.heap.size W w') := Lib.hid (fun W h => by
    have h2 := sum_any ⟨(6 :: bs).toArray⟩ X kk W (hT.below rfl h)
    rw [show (ByteArray.mk (6 :: bs).toArray).data.toList = 6 :: bs by simp] at h2
    exact h2)
  have hbl2 := sumL_length X kk (6 :: bs)
  generalize sumL X kk (6 :: bs) = R at *
  obtain ⟨room, sender, kind, key, body, nonce⟩ := e
  have hsz : (ByteArray.mk bs.toArray).size = bs.length := by simp [ByteArray.size]
  have hbi : (bs.length : Int) ≤ 8192 := by omega
  have hcat : (⟨#[6]⟩ : ByteArray) ++ ⟨bs.toArray⟩ = ⟨(6 :: bs).toArray⟩ := by
    apply ByteArray.ext
    simp
  clear hc hf hT hV hW h0
  unfold evV at *
  dsimp only at *
  have B0 := (Below.refl w.heap.size w).alloc (Nat.le_refl _) (.cells #[.string ⟨room.toArray⟩, .string ⟨sender.toArray⟩, .int .u8 (kind : Int), .string ⟨key.toArray⟩, .string ⟨body.toArray⟩, .int .i64 nonce] 56)
  have hz0 := World.size_alloc w (.cells #[.string ⟨room.toArray⟩, .string ⟨sender.toArray⟩, .int .u8 (kind : Int), .string ⟨key.toArray⟩, .string ⟨body.toArray⟩, .int .i64 nonce] 56)
  have A1 := Blk.new (w.alloc (.cells #[.string ⟨room.toArray⟩, .string ⟨sender.toArray⟩, .int .u8 (kind : Int), .string ⟨key.toArray⟩, .string ⟨body.toArray⟩, .int .i64 nonce] 56)) (bytesV (List.replicate 32 0)).toArray 30
  have B1 := B0.alloc (by omega) (.cells (bytesV (List.replicate 32 0)).toArray 30)
  rw [show (bytesV (List.replicate 32 (0 : UInt8))).toArray.toList = bytesV (List.replicate 32 0) by simp] at A1
  rw [hz0] at A1
  go_enter Tryd.func88, Tryd.ntmps88
  go_wp2_with fail
  change Calls _ _ _ ((w.alloc (.cells #[.string ⟨room.toArray⟩, .string ⟨sender.toArray⟩, .int .u8 (kind : Int), .string ⟨key.toArray⟩, .string ⟨body.toArray⟩, .int .i64 nonce] 56)).alloc (.cells (bytesV (List.replicate 32 0)).toArray 30)) _
  generalize (w.alloc (.cells #[.string ⟨room.toArray⟩, .string ⟨sender.toArray⟩, .int .u8 (kind : Int), .string ⟨key.toArray⟩, .string ⟨body.toArray⟩, .int .i64 nonce] 56)).alloc (.cells (bytesV (List.replicate 32 0)).toArray 30) = wa at *
  refine (HB.out _ B1).mono ?_
  rintro e w1 ⟨rfl, hb1⟩
  have A2 := A1.low hb1
  have B2 := B1.trans (hb1.mono B1.size)
  clear A1 B1 hb1 hz0
  go_wp2_with fail
  refine (HS.out _ B2).mono ?_
  rintro e w2 ⟨rfl, hb2⟩
  have A3 := A2.low hb2
  have B3 := B2.trans (hb2.mono B2.size)
  clear A2 B2 hb2
  have hbl : (bytesV R).length = 32 := by rw [bytesV_length, hbl2]
  have HIA : Hid ((Tryd.prog.info? 30).map (·.size) = some (bytesV R).toArray.size) := by rw [List.size_toArray, hbl]; exact Lib.hid (by kernel_rfl)
  have HIR : Hid ((Tryd.prog.info? 30).map (·.size) = some (bytesV R).length) := by rw [hbl]; exact Lib.hid (by kernel_rfl)
  have HSZ : Hid ((bytesV R).toArray.size = 32) := by rw [List.size_toArray, hbl]; exact Lib.hid rfl
  have HTH : Hid (w2.there (w.heap.size + 1) 0 (bytesV R).toArray.size) := by rw [HSZ.out]; exact Lib.hid (A3.partThere 0 32 (by simp [bytesV]))
  have HA3 := Lib.hid A3
  clear A3
  go_wp2_with (with_reducible refine wpList_store_mid rfl 30 _ _ rfl (w.heap.size + 1) 0 (bytesV R).toArray rfl rfl HTH.out HIA.out (bytesV_one _) ?_)
  have HL := Blk.tail (a := []) (b := bytesV (List.replicate 32 0)) HA3.out (bytesV R) (by rw [hbl]; rfl)
  refine bodyPost_ret (v := .tuple #[.agg (bytesV R).toArray, .int .i64 0]) ?_ rfl ⟨rfl, Sha.below_setCells (by omega) _ _ _ B3⟩
  exact results_ct rfl _ _ _ (w.heap.size + 1) (bytesV R) _ rfl rfl (run_loadVar_mid _ _ _ _ (bytesV R) _ HL.at_ Tryd.underlying30 rfl HIR.out)
/-- the sum of what is left of an event -/
def refL (X kk : Nat → Int) (e : Ev) : List UInt8 := sumL X kk (6 :: (bytesE (redE e)).1)
theorem refL_length (X kk : Nat → Int) (e : Ev) : (refL X kk e).length = 32 := sumL_length X kk _
theorem refL_red (X kk : Nat → Int) (e : Ev) : refL X kk (redE e) = refL X kk e := by rw [refL, refL, redE_two]
theorem fits_red {e : Ev} (h : Fits e) : Fits (redE e) := by
  unfold redE
  split
  · exact ⟨h.room, h.sender, h.key, Nat.zero_le _⟩
  · exact h
set_option maxHeartbeats 2000000 in
theorem ref_ok (X kk : Nat → Int) (e : Ev) (hc : checkE e = 0) (hf : Fits e) (w : World) (hT : Tabs w X kk) (hV : Vars w) (hW : Words w) :
    Calls Tryd.prog 36 #[evV e] w fun r w' => r = .returned (.tuple #[.agg (bytesV (refL X kk e)).toArray, .int .i64 0]) ∧ Below w.heap.size w w' := by
  have HC := Lib.hid (fun (W : World) (h : Below w.heap.size w W) => (show Calls Tryd.prog 24 #[evV e] W fun r w' => r = .returned (.int .i64 0) ∧ Below W.heap.size W w' by
    have h2 := check_any e hf W (hV.low h)
    rw [hc] at h2
    exact h2))
  have HR := Lib.hid (fun (W : World) => red_any e W)
  have HS := Lib.hid (fun (W : World) (h : Below w.heap.size w W) => sum_ok X kk (redE e) (redE_check e hc) (fits_red hf) W (hT.below rfl h) (hV.low h) (hW.low h))
  have hbl2 := refL_length X kk e
  unfold refL at *
  generalize sumL X kk (6 :: (bytesE (redE e)).1) = R at *
  generalize redE e = e2 at *
  obtain ⟨room, sender, kind, key, body, nonce⟩ := e
  obtain ⟨room2, sender2, kind2, key2, body2, nonce2⟩ := e2
  clear hc hf hT hV hW
  unfold evV at *
  dsimp only at *
  have hbl : (bytesV R).length = 32 := by rw [bytesV_length, hbl2]
  have A0 := (Blk.new w #[.string ⟨room.toArray⟩, .string ⟨sender.toArray⟩, .int .u8 (kind : Int), .string ⟨key.toArray⟩, .string ⟨body.toArray⟩, .int .i64 nonce] 56).alloc (.cells (bytesV (List.replicate 32 0)).toArray 30)
  have B0 := (Below.refl w.heap.size w).alloc (Nat.le_refl _) (.cells #[.string ⟨room.toArray⟩, .string ⟨sender.toArray⟩, .int .u8 (kind : Int), .string ⟨key.toArray⟩, .string ⟨body.toArray⟩, .int .i64 nonce] 56)
  have hz0 := World.size_alloc w (.cells #[.string ⟨room.toArray⟩, .string ⟨sender.toArray⟩, .int .u8 (kind : Int), .string ⟨key.toArray⟩, .string ⟨body.toArray⟩, .int .i64 nonce] 56)
  have A1 := Blk.new (w.alloc (.cells #[.string ⟨room.toArray⟩, .string ⟨sender.toArray⟩, .int .u8 (kind : Int), .string ⟨key.toArray⟩, .string ⟨body.toArray⟩, .int .i64 nonce] 56)) (bytesV (List.replicate 32 0)).toArray 30
  have B1 := B0.alloc (by omega) (.cells (bytesV (List.replicate 32 0)).toArray 30)
  rw [show (bytesV (List.replicate 32 (0 : UInt8))).toArray.toList = bytesV (List.replicate 32 0) by simp] at A1
  rw [hz0] at A1
  go_enter Tryd.func36, Tryd.ntmps36
  go_wp2_with fail
  change Calls _ _ _ ((w.alloc (.cells #[.string ⟨room.toArray⟩, .string ⟨sender.toArray⟩, .int .u8 (kind : Int), .string ⟨key.toArray⟩, .string ⟨body.toArray⟩, .int .i64 nonce] 56)).alloc (.cells (bytesV (List.replicate 32 0)).toArray 30)) _
  generalize (w.alloc (.cells #[.string ⟨room.toArray⟩, .string ⟨sender.toArray⟩, .int .u8 (kind : Int), .string ⟨key.toArray⟩, .string ⟨body.toArray⟩, .int .i64 nonce] 56)).alloc (.cells (bytesV (List.replicate 32 0)).toArray 30) = wa at *
  refine (HC.out _ B1).mono ?_
  rintro e w1 ⟨rfl, hb1⟩
  have A01 := A0.low hb1
  have A2 := A1.low hb1
  have B2 := B1.trans (hb1.mono B1.size)
  clear A0 A1 B1 hb1 hz0
  have c0 := A01.cell 0 rfl
  have c1 := A01.cell 1 rfl
  have c2 := A01.cell 2 rfl
  have c3 := A01.cell 3 rfl
  have c4 := A01.cell 4 rfl
  have c5 := A01.cell 5 rfl
  go_wp2_with fail
  refine (HR.out _).mono ?_
  rintro e w2 ⟨rfl, hb2⟩
  have A3 := A2.low hb2
  have B3 := B2.trans (hb2.mono B2.size)
  clear A2 B2 hb2 A01 c0 c1 c2 c3 c4 c5
  go_wp2_with fail
  refine (HS.out _ B3).mono ?_
  rintro e w3 ⟨rfl, hb3⟩
  have A4 := A3.low hb3
  have B4 := B3.trans (hb3.mono B3.size)
  clear A3 B3 hb3
  have HIA : Hid ((Tryd.prog.info? 30).map (·.size) = some (bytesV R).toArray.size) := by rw [List.size_toArray, hbl]; exact Lib.hid (by kernel_rfl)
  have HIR : Hid ((Tryd.prog.info? 30).map (·.size) = some (bytesV R).length) := by rw [hbl]; exact Lib.hid (by kernel_rfl)
  have HSZ : Hid ((bytesV R).toArray.size = 32) := by rw [List.size_toArray, hbl]; exact Lib.hid rfl
  have HTH : Hid (w3.there (w.heap.size + 1) 0 (bytesV R).toArray.size) := by rw [HSZ.out]; exact Lib.hid (A4.partThere 0 32 (by simp [bytesV]))
  have HA4 := Lib.hid A4
  clear A4
  go_wp2_with (with_reducible refine wpList_store_mid rfl 30 _ _ rfl (w.heap.size + 1) 0 (bytesV R).toArray rfl rfl HTH.out HIA.out (bytesV_one _) ?_)
  have HL := Blk.tail (a := []) (b := bytesV (List.replicate 32 0)) HA4.out (bytesV R) (by rw [hbl]; rfl)
  refine bodyPost_ret (v := .tuple #[.agg (bytesV R).toArray, .int .i64 0]) ?_ rfl ⟨rfl, Sha.below_setCells (by omega) _ _ _ B4⟩
  exact results_ct rfl _ _ _ (w.heap.size + 1) (bytesV R) _ rfl rfl (run_loadVar_mid _ _ _ _ (bytesV R) _ HL.at_ Tryd.underlying30 rfl HIR.out)
end Left
end Go.Proofs.YtbgjoefpnjgdkaaDoor
