/- Joined of 3 texts: their lemmas, one behind the other; each says below what it holds. -/
import Derived.Test.YtbgjoefpnjgdkaaDoorRows
import Derived.WalkKit
import Derived.WalkLawsBesides
import Derived.ProofKit
import Derived.OpenShut
import Derived.Laws.IdiomStrings
import Derived.Laws.BytesArg
import Derived.Maps.AppendAt
import Derived.Lib.Hide
/- Small facts that the proofs of this seat share: the row's last step where only the old memory is known to stand; worlds behind worlds. -/
namespace Go.Proofs.YtbgjoefpnjgdkaaDoor
open Go.ChangeShapes Go.WideShapes Go.ChangeAt Go.RowKit

section
variable {H : Type} {enc : TypeId × Value → H} {P : Program}

/-- A row that does not say 'again': nothing is asked of marks, so it is enough that what lay below the old heap's end lies as it lay. -/
theorem post_low {f : Func} {s : ChangeSpec} {apart fresh handsOn : Bool} {W W' : World} {args : Array Value} {v : Value} {ds gs : List (DataW H)} {before pa pv : List MemPlace}
    (hW : DataW.Whole enc P f.params.toList s.vars apart W args.toList ds gs before)
    (hres : ∀ (b : Nat) (sp : Nat → Bool) (hd : Bool), DataW.TrodAll enc P W' b sp hd f.resultTypes.toList (v.resultList f.resultTypes.size) (s.fn H (ds ++ gs)).results [])
    (hargs : ∀ sp : Nat → Bool, (∀ p ∈ before, sp p.block = true) → DataW.TrodAll enc P W' 0 sp true f.params.toList args.toList (s.fn H (ds ++ gs)).args pa)
    (hvars : ∀ sp : Nat → Bool, (∀ p ∈ before, sp p.block = true) → DataW.TrodVars enc P W' sp s.vars (s.fn H (ds ++ gs)).vars pv)
    (hps : before = pa ++ pv) (hb : Below W.heap.size W W') :
    s.post enc P f apart fresh handsOn false W args v W' := by
  have hold : ∀ p ∈ before, (fun b => decide (b < W.heap.size)) p.block = true := fun p hp => by simpa using hW.lt p hp
  refine ⟨ds, gs, before, [], pa, pv, hW, hres _ _ _, hargs _ hold, hvars _ hold, World.keptBut_mono (fun p hp => ⟨hp, ?_⟩) (hb.frame (· ∈ before)), fun h => by cases h⟩
  rw [hps, List.mem_append] at hp
  exact Or.inr hp
end

section
variable {H : Type} {enc : TypeId × Value → H} {P : Program}

/-- All arguments read behind the call as before it, where the call leaves the old memory alone. -/
theorem trodAll_low (hl : laidOutB P = true) {W W' : World} (hb : Below W.heap.size W W') : ∀ (ts : List TypeId) (vs : List Value) (ds : List (DataW H)) (ps : List MemPlace),
    (ts.all fun t => P.readableRec t && decide (t < P.types.size)) = true → (∀ x ∈ ps, x.block < W.heap.size) →
    DataW.TrodAll enc P W 0 (fun _ => true) true ts vs ds ps → DataW.TrodAll enc P W' 0 (fun b => decide (b < W.heap.size)) true ts vs ds ps := by
  intro ts
  induction ts with
  | nil =>
    intro vs ds ps _ _ h
    obtain ⟨rfl, rfl, rfl⟩ := trodAll_nil h
    exact trodAll_mk0
  | cons t ts ih =>
    intro vs ds ps hr hlt h
    obtain ⟨v, vs', d, ds', p, q, rfl, rfl, rfl, h0, r0⟩ := trodAll_cons h
    rw [List.all_cons, Bool.and_eq_true, Bool.and_eq_true, decide_eq_true_eq] at hr
    exact trodAll_cons_mk (Below.trod hl hr.1.1 hr.1.2 h0 hb (fun x hx => hlt x (List.mem_append_left _ hx)))
      (ih vs' ds' q hr.2 (fun x hx => hlt x (List.mem_append_right _ hx)) r0)

/-- A law's last step: it has answered true, and left the old memory alone. -/
theorem law_post {f : Func} {s : ChangeSpec} {W W' : World} {args : Array Value} {ds gs : List (DataW H)} {before : List MemPlace} {tb : TypeId}
    (hW : DataW.Whole enc P f.params.toList s.vars false W args.toList ds gs before)
    (hl : laidOutB P = true) (hr : (f.params.toList.all fun t => P.readableRec t && decide (t < P.types.size)) = true)
    (hT : f.resultTypes = #[tb]) (htb : P.underlying tb = some .bool)
    (hvs : s.vars = []) (hres : (s.fn H (ds ++ gs)).results = [.lit (.bool true)]) (hargs : (s.fn H (ds ++ gs)).args = ds) (hvars : (s.fn H (ds ++ gs)).vars = [])
    (hb : Below W.heap.size W W') :
    s.post enc P f false true false false W args (.bool true) W' := by
  have hlt : ∀ x ∈ before, x.block < W.heap.size := fun x hx => hW.lt x hx
  obtain ⟨p, q, hA, hV, rfl, hfz, hnd⟩ := id hW
  have hq : q = [] := by
    rw [hvs] at hV
    exact (trodVars_none hV).2
  subst hq
  have hA' := trodAll_low hl hb f.params.toList args.toList ds p hr (fun x hx => hlt x (List.mem_append_left _ hx)) hA
  refine ⟨ds, gs, _, [], p, [], hW, ?_, by rw [hargs]; exact hA', by rw [hvs, hvars]; rfl, World.keptBut_mono (fun x hx => ⟨hx, .inr (by simpa using hx)⟩) (hb.frame (· ∈ p ++ [])), fun h => by cases h⟩
  rw [hres, hT]
  exact trodAll_cons_mk (shut_bool htb true) trodAll_mk0
end

/-- Behind a call that leaves the old memory alone, the old cells and marks read as before: two rules for the walk. -/
theorem low_cells {W w1 : World} (hb : Below W.heap.size W w1) :
    (∀ b o, b < W.heap.size → w1.cell? ⟨b, o, none⟩ = W.cell? ⟨b, o, none⟩) ∧ (∀ b o, b < W.heap.size → w1.frozen? ⟨b, o, none⟩ = W.frozen? ⟨b, o, none⟩) :=
  ⟨fun b o h => hb.cell (p := ⟨b, o, none⟩) h, fun b o h => hb.frozen (p := ⟨b, o, none⟩) h⟩
end Go.Proofs.YtbgjoefpnjgdkaaDoor
/- Bytes in memory that a call made itself: made by make, turned, read back as a string. -/
namespace Go.Proofs.YtbgjoefpnjgdkaaDoor
open Go.RowKit
set_option linter.unusedVariables false

def zrow (n : Nat) : Array Value := madeCells (Value.int .u8 0).cells n
theorem zrow_at (n j : Nat) (h : j < n) : (zrow n)[j]? = some (.int .u8 0) := by
  simp [zrow, madeCells, Value.cells, h, Nat.mod_one]

theorem info_u8 : (Tryd.prog.info? 5).map (fun i => (i.zero, i.size, i.bytes)) = some (some (.int .u8 0), 1, 1) := by kernel_rfl

theorem make_bytes (n : Nat) (h : n ≤ 281474976710656) (W : World) : (Instr.makeSlice 96 (.int .i64 (n : Int)) (.int .i64 (n : Int))).run Tryd.prog W = .ok (.slice (some ⟨W.heap.size, 0, none⟩) n n) (W.alloc (.cells (zrow n) 5)) := by
  obtain ⟨i0, hi, hz0, hz1, hz2⟩ := info_parts info_u8
  have hr := run_make (P := Tryd.prog) W 96 5 i0 (.int .u8 0) Tryd.underlying96 hi hz0 .i64 .i64 n n (by omega) (by omega) (by rw [hz2]; omega) (by omega)
  rw [hz1, Nat.mul_one] at hr
  unfold zrow
  simpa only [Int.toNat_natCast] using hr

/-- block g begins with these bytes, and they may be written -/
def Bts (w : World) (g : Nat) (l : List UInt8) : Prop := g < w.heap.size ∧ ∀ j (hj : j < l.length), w.cell? ⟨g, j, none⟩ = some (.int .u8 (l[j].toNat : Int)) ∧ w.frozen? ⟨g, j, none⟩ = false

theorem Bts.byte {w : World} {g : Nat} {l : List UInt8} (h : Bts w g l) (j : Nat) (hj : j < l.length) : ∃ c, l[j]? = some c ∧ w.cell? ⟨g, j, none⟩ = some (.int .u8 (c.toNat : Int)) ∧ w.frozen? ⟨g, j, none⟩ = false :=
  ⟨l[j], List.getElem?_eq_getElem hj, h.2 j hj⟩
theorem Bts.drew {w : World} {g : Nat} {l : List UInt8} (h : Bts w g l) : Bts w.drew g l := h
theorem Bts.below {w w' : World} {g : Nat} {l : List UInt8} (h : Bts w g l) (hb : Below w.heap.size w w') : Bts w' g l :=
  ⟨Nat.lt_of_lt_of_le h.1 hb.size, fun j hj => ⟨(hb.cell (p := ⟨g, j, none⟩) h.1).trans (h.2 j hj).1, (hb.frozen (p := ⟨g, j, none⟩) h.1).trans (h.2 j hj).2⟩⟩
theorem Bts.alloc {w : World} {g : Nat} {l : List UInt8} (h : Bts w g l) (o : Obj) : Bts (w.alloc o) g l := h.below ((Below.refl _ _).alloc (Nat.le_refl _) o)
theorem Bts.set {w : World} {g : Nat} {l : List UInt8} (h : Bts w g l) (k : Nat) (c : UInt8) (hk : k < l.length) : Bts (w.setCell ⟨g, k, none⟩ (.int .u8 (c.toNat : Int))) g (l.set k c) := by
  refine ⟨by simpa [World.setCell] using h.1, fun j hj => ⟨?_, ?_⟩⟩
  · have hj2 : j < l.length := by rw [List.length_set] at hj; exact hj
    by_cases hjk : j = k
    · subst hjk
      rw [World.cell?_setCell_same' _ _ _ (by rw [(h.2 j hj2).1]; rfl)]
      simp
    · rw [World.cell?_setCell_other _ _ _ _ (by intro e; injection e with _ e2; exact hjk e2.symm)]
      rw [List.getElem_set_ne (by omega)]
      exact (h.2 j hj2).1
  · have hj2 : j < l.length := by rw [List.length_set] at hj; exact hj
    rw [World.frozen?_setCell]
    exact (h.2 j hj2).2
theorem Bts.conv {w : World} {g : Nat} {l : List UInt8} (h : Bts w g l) (cap : Nat) : (convert 96 9 (.slice (some ⟨g, 0, none⟩) l.length cap)).run Tryd.prog w = .ok (.string ⟨l.toArray⟩) w := by
  refine run_convert_bytes_back (P := Tryd.prog) w 96 9 5 ⟨g, 0, none⟩ cap l Tryd.underlying96 Tryd.underlying5 Tryd.underlying9 fun j hj => ?_
  have : (⟨g, 0, none⟩ : Addr).add j = ⟨g, j, none⟩ := by
    unfold Addr.add
    split
    · rename_i h0; rw [h0]
    · simp
  rw [this]
  exact (h.2 j hj).1
theorem Bts.made (w : World) (n : Nat) : Bts (w.alloc (.cells (zrow n) 5)) w.heap.size (List.replicate n 0) := by
  refine ⟨by simp, fun j hj => ⟨?_, ?_⟩⟩
  · rw [World.cell?_alloc_mark, zrow_at n j (by simpa using hj)]; simp
  · rw [World.frozen?_alloc_mark]; simp


/-- the world behind a conversion of a string to bytes, and the capacity that the tape gave -/
def bytesW (W : World) (s : ByteArray) : World := W.drew.alloc (.cells (bytesRow s (grownCap W s.size 0 5)) 5 ((bytesRow s (grownCap W s.size 0 5)).size, (bytesRow s (grownCap W s.size 0 5)).size + 1))
def bytesCap (W : World) (s : ByteArray) : Nat := grownCap W s.size 0 5

theorem bytes_conv (s : ByteArray) (W : World) : (convert 9 96 (.string s)).run Tryd.prog W = .ok (.slice (some ⟨W.heap.size, 0, none⟩) s.size (bytesCap W s)) (bytesW W s) :=
  run_bytes_of_string W 9 96 5 s Tryd.underlying9 Tryd.underlying96 Tryd.underlying5

theorem bytesW_below (W : World) (s : ByteArray) : Below W.heap.size W (bytesW W s) := ((Below.refl _ W).drew).alloc (Nat.le_refl _) _
theorem bytesW_size (W : World) (s : ByteArray) : (bytesW W s).heap.size = W.heap.size + 1 := by simp [bytesW]
theorem bytesW_bts (W : World) (s : ByteArray) : Bts (bytesW W s) W.heap.size s.data.toList := by
  refine ⟨by simp [bytesW], fun j hj => ⟨?_, ?_⟩⟩
  · have h := World.cell?_alloc_mark W.drew (bytesRow s (grownCap W s.size 0 5)) 5 ((bytesRow s (grownCap W s.size 0 5)).size, (bytesRow s (grownCap W s.size 0 5)).size + 1) j
    refine Eq.trans h ?_
    rw [bytesRow_at s _ j (by simpa using hj)]
    rfl
  · have h := World.frozen?_alloc_mark W.drew (bytesRow s (grownCap W s.size 0 5)) 5 (bytesRow s (grownCap W s.size 0 5)).size ((bytesRow s (grownCap W s.size 0 5)).size + 1) j
    refine Eq.trans h ?_
    have hs : s.data.toList.length ≤ (bytesRow s (grownCap W s.size 0 5)).size := by unfold bytesRow; simp
    simp only [Bool.and_eq_false_iff, decide_eq_false_iff_not]
    left; omega
end Go.Proofs.YtbgjoefpnjgdkaaDoor
/- The walks of octet.put and octet.Num: a number's bytes. -/
namespace Go.Proofs.YtbgjoefpnjgdkaaDoor
open Go.RowKit
set_option linter.unusedVariables false

/-- bytes as cells -/
def bytesV (l : List UInt8) : List Value := l.map fun b => .int .u8 (b.toNat : Int)
theorem bytesV_length (l : List UInt8) : (bytesV l).length = l.length := by simp [bytesV]
theorem bytesV_append (l m : List UInt8) : bytesV (l ++ m) = bytesV l ++ bytesV m := by simp [bytesV]

/-- v owns these bytes, in blocks from base on -/
def Own (base : Nat) (w : World) (v : Value) (l : List UInt8) : Prop := w.ownsRow base 5 1 v l.length (bytesV l)

theorem Own.nil (base : Nat) (w : World) : Own base w (.slice none 0 0) [] := World.ownsRow_nil w base _ 1

/-- what is owned reads back as a string -/
theorem Own.conv {base : Nat} {w : World} {v : Value} {l : List UInt8} (h : Own base w v l) : (convert 96 9 v).run Tryd.prog w = .ok (.string ⟨l.toArray⟩) w := by
  have h0 := h
  rcases h.2 with ⟨rfl, hl⟩ | ⟨g, cap, cur, rfl, hg, hh, hn, hc, hs, ht⟩
  · have : l = [] := List.length_eq_zero_iff.1 hl
    subst this
    exact run_convert_bytes_nil (P := Tryd.prog) w 96 5 Tryd.underlying96 Tryd.underlying5 0 0 9 Tryd.underlying9
  · refine run_convert_bytes_back (P := Tryd.prog) w 96 9 5 ⟨g, 0, none⟩ cap l Tryd.underlying96 Tryd.underlying5 Tryd.underlying9 fun j hj => ?_
    exact h0.cells (g := g) rfl j _ (by simp [bytesV, hj])

namespace Oct

/-- a number's bytes, with so much fuel -/
def putF : Nat → Nat → List UInt8
  | 0, n => [UInt8.ofNat n]
  | f + 1, n => if 127 < n then UInt8.ofNat (n % 128 + 128) :: putF f (n / 128) else [UInt8.ofNat n]
def putL (n : Nat) : List UInt8 := putF 10 n

theorem putF_length (f : Nat) : ∀ n, (putF f n).length ≤ f + 1 := by
  induction f with
  | zero => intro n; simp [putF]
  | succ f ih =>
    intro n
    rw [putF]
    split
    · have := ih (n / 128); simp; omega
    · simp

theorem putL_length (n : Nat) : (putL n).length ≤ 11 := putF_length 10 n

theorem or128 (m : Nat) : bits .or .u8 ((m : Int) % 256) 128 = ((UInt8.ofNat (m % 128 + 128)).toNat : Int) := by
  rw [show ((m : Int) % 256) = ((m % 256 : Nat) : Int) by omega, show (128 : Int) = ((128 : Nat) : Int) from rfl, u8_or_nat _ _ (by omega) (by omega), UInt8.toNat_ofNat', Nat.mod_eq_of_lt (show m % 128 + 128 < 2 ^ 8 by omega)]
  congr 1
  have h : ∀ a : Fin 256, a.val ||| 128 = a.val % 128 + 128 := by decide +kernel
  have := h ⟨m % 256, by omega⟩
  simp only at this
  omega

theorem low8 (m : Nat) : ((m : Int) % 256) = ((UInt8.ofNat m).toNat : Int) := by
  rw [UInt8.toNat_ofNat']; omega

def Puts (base : Nat) (w : World) (l : List UInt8) (e : Ending) (w' : World) : Prop := ∃ v, e = .returned v ∧ Own base w' v l ∧ Below base w w'

set_option maxHeartbeats 1000000 in
set_option maxRecDepth 4000 in
theorem put_any (base : Nat) (v0 : Value) (xs : List UInt8) (n : Nat) (hn : n < 18446744073709551616) (w : World) (hv : Own base w v0 xs) (hb : base ≤ w.heap.size) (hl : xs.length ≤ 1000000000) :
    Calls Tryd.prog 39 #[v0, .int .u64 (n : Int)] w (Puts base w (xs ++ putL n)) := by
  obtain ⟨i0, hi, hz0, hz1, hz2⟩ := info_parts info_u8
  have hn2 : n < 128 ^ 11 := by omega
  have HN := Lib.hid hn2
  have HV := Lib.hid hv
  clear hn2 hv
  go_enter Tryd.func39, Tryd.ntmps39
  go_wp2
  go_loopw [0, 1] (fun b i wr => ∃ (f m : Nat) (ys : List UInt8), f ≤ 10 ∧ i = .int .u64 (m : Int) ∧ m < 18446744073709551616 ∧ Hid (m < 128 ^ (f + 1)) ∧ Hid (Own base wr b ys) ∧ Below base w wr ∧ base ≤ wr.heap.size ∧ ys.length + f = xs.length + 10 ∧ Hid (ys ++ putF f m = xs ++ putL n))
    (fun _ i _ => (intOf i).toNat)
  case atStart => exact ⟨10, n, xs, by omega, rfl, hn, HN, HV, Below.refl _ _, hb, rfl, rfl⟩
  case round =>
    obtain ⟨f, m, ys, hf, rfl, hm, HM, HO, hbw, hbs, hlen, HE⟩ := hrel
    clear HN HV hb hn
    by_cases hlt : 127 < m
    · have hlti : (127 : Int) < (m : Int) := by omega
      have hown := HO.out
      unfold Own at hown
      have hyl : ys.length ≤ 1000000010 := by omega
      go_wp2_with (at_builtin; refine wpList_append_own _ rfl (.tmp 7) (.tmp 11) _ rfl base 5 i0 (.int .u8 0) 1 1 Tryd.underlying96 hi hz0 hz1 hz2 rfl (by decide) _ _ _ rfl (hown.alloc _) ⟨wr.heap.size, 0, none⟩ 1 1 [.int .u8 (bits .or .u8 ((m : Int) % 256) 128)] rfl rfl (cell_one_new _ _ _) (by simp [Value.oneCell']) (by unfold maxLen; omega) (by omega) (by simp; omega) ?_; intro v' w1 hown' hgrow _)
      have hb1 : Below base w w1 := (hbw.alloc hbs _).grown hgrow (by simp; omega) (fun k hk => (hown.lt k hk).1)
      have hO1 : Own base w1 v' (ys ++ [UInt8.ofNat (m % 128 + 128)]) := by
        unfold Own
        rw [bytesV_append, List.length_append]
        rw [or128] at hown'
        exact hown'
      have hf1 : 1 ≤ f := by
        rcases Nat.eq_zero_or_pos f with h0 | h0
        · subst h0; have := HM.out; simp at this; omega
        · exact h0
      obtain ⟨f', hf'⟩ : ∃ f', f = f' + 1 := ⟨f - 1, by omega⟩
      have hM1 : m / 128 < 128 ^ (f' + 1) := by
        have h := HM.out
        rw [hf', Nat.pow_succ] at h
        exact Nat.div_lt_of_lt_mul (by rw [Nat.mul_comm]; exact h)
      have hE1 : (ys ++ [UInt8.ofNat (m % 128 + 128)]) ++ putF f' (m / 128) = xs ++ putL n := by
        have h := HE.out
        rw [hf', putF, if_pos hlt] at h
        rw [← h]; simp
      go_roundw
      case rel => exact ⟨f', m / 128, ys ++ [UInt8.ofNat (m % 128 + 128)], by omega, by go_num, by omega, hM1, hO1, hb1, by have := hb1.size; have := hgrow.size; simp at this; omega, by simp; omega, hE1⟩
      case measure => simp [intOf]; omega
    · have hlti : (m : Int) ≤ 127 := by omega
      clear hm
      have hown := HO.out
      unfold Own at hown
      have hyl : ys.length ≤ 1000000010 := by omega
      go_wp2_with (at_builtin; refine wpList_append_own _ rfl (.tmp 15) (.tmp 18) _ rfl base 5 i0 (.int .u8 0) 1 1 Tryd.underlying96 hi hz0 hz1 hz2 rfl (by decide) _ _ _ rfl (hown.alloc _) ⟨wr.heap.size, 0, none⟩ 1 1 [.int .u8 ((m : Int))] rfl rfl (cell_one_new _ _ _) (by simp [Value.oneCell']) (by unfold maxLen; omega) (by omega) (by simp; omega) ?_; intro v' w1 hown' hgrow _)
      go_ret
      have hb1 : Below base w w1 := (hbw.alloc hbs _).grown hgrow (by simp; omega) (fun k hk => (hown.lt k hk).1)
      refine ⟨v', rfl, ?_, hb1⟩
      have hE : xs ++ putL n = ys ++ [UInt8.ofNat m] := by
        rw [← HE.out]
        cases f with
        | zero => rfl
        | succ f => rw [putF, if_neg (by omega)]
      unfold Own
      rw [hE, bytesV_append, List.length_append]
      have hlow : (m : Int) = ((UInt8.ofNat m).toNat : Int) := by rw [← low8]; omega
      rw [hlow] at hown'
      exact hown'

/-- what Num gives: the bytes, or none -/
theorem num_ok (n : Nat) (hn : n ≤ 281474976710656) (w : World) :
    Calls Tryd.prog 38 #[.int .u64 (n : Int)] w fun e w' => e = .returned (.tuple #[.string ⟨(putL n).toArray⟩, .int .i64 0]) ∧ Below w.heap.size w w' := by
  go_enter Tryd.func38, Tryd.ntmps38
  go_wp2_with fail
  refine (put_any w.heap.size _ [] n (by omega) _ (Own.nil _ _) (Nat.le_refl _) (by simp)).mono ?_
  rintro e w1 ⟨v, rfl, hv, hb⟩
  rw [List.nil_append] at hv
  have hc := hv.conv
  go_wp2_with fail
  go_ret2
  exact ⟨rfl, hb⟩

theorem num_bad (n : Nat) (hn : 281474976710656 < n) (w : World) :
    Calls Tryd.prog 38 #[.int .u64 (n : Int)] w fun e w' => e = .returned (.tuple #[.string ⟨#[]⟩, .int .i64 1]) ∧ w = w' := by
  go_enter Tryd.func38, Tryd.ntmps38
  go_wp2_with fail
  go_ret2
  exact ⟨rfl, rfl⟩
end Oct
end Go.Proofs.YtbgjoefpnjgdkaaDoor
