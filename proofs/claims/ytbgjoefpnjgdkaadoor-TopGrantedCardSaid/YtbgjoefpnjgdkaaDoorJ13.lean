/- Joined of 2 texts: their lemmas, one behind the other; each says below what it holds. -/
import Derived.Test.YtbgjoefpnjgdkaaDoorJ08
import Derived.Test.YtbgjoefpnjgdkaaDoorKOctSeq
import Derived.OrdersIn
import Derived.OwnWalkIn
/- onetime: the iterator of a seed's chains' starts. -/
namespace Go.Proofs.YtbgjoefpnjgdkaaDoor
open Go.RowKit Go.Shelf
set_option linter.unusedVariables false
set_option linter.unusedSimpArgs false
set_option maxRecDepth 100000
attribute [local go_sem] Oper.semAt_some
namespace One
open Sha
def startL (X kk : Nat → Int) (seed : List UInt8) (j : Nat) : List UInt8 := midL X kk (3 :: UInt8.ofNat j :: seed)
theorem startL_length (X kk : Nat → Int) (seed : List UInt8) (j : Nat) : (startL X kk seed j).length = 16 := midL_length _ _ _
abbrev encSt (X kk : Nat → Int) (seed : List UInt8) (j : Fin 68) : Array Value := #[.int .i64 (j.val : Int), .string ⟨(startL X kk seed j.val).toArray⟩]
/-- the places of a seed's chains -/
def places : List (Fin 68) := List.finRange 68
theorem places_length : places.length = 68 := by simp [places]
theorem places_take (j : Nat) (h : j < 68) : places.take (j + 1) = places.take j ++ [⟨j, h⟩] := by
  rw [List.take_succ_eq_append_getElem (by rw [places_length]; exact h)]
  simp [places]

theorem _root_.Go.Proofs.YtbgjoefpnjgdkaaDoor.Sha.Tab.low {B n : Nat} {w w' : World} {f : Nat → Int} {N : Nat} (h : Tab n w f N) (hn : n < B) (hb : Below B w w') : Tab n w' f N :=
  ⟨Nat.lt_of_lt_of_le h.size hb.size, fun j hj => by rw [hb.cell (p := ⟨n, j, none⟩) hn]; exact h.cell j hj⟩
theorem _root_.Go.Proofs.YtbgjoefpnjgdkaaDoor.Sha.Tabs.low {B : Nat} {w w' : World} {X kk : Nat → Int} (h : Tabs w X kk) (hn : 3 < B) (hn' : 0 < B) (hb : Below B w w') : Tabs w' X kk := ⟨h.x.low hn' hb, h.k.low hn hb⟩

set_option maxHeartbeats 1000000 in
theorem starts_in (F : Fence) (n : Nat) (hF : F.fn 44) (hro : F.round = none) (l : List UInt8) (w : World) :
    CallsIn F n Tryd.prog 44 #[.string ⟨l.toArray⟩] w fun e w' => e = .returned (.func (.func 93) #[] #[.pointer (some ⟨w.heap.size, 0, none⟩)]) ∧ w' = w.alloc (.cells #[.string ⟨l.toArray⟩] 9) := by
  refine callsIn_of_wp Tryd.func44 rfl hF ?_ hro
  simp only [Tryd.ntmps44, List.size_toArray, List.length_cons, List.length_nil, Nat.reduceAdd, Nat.reduceSub, Array.replicate_succ, Array.replicate_zero, List.push_toArray, List.append_toArray, List.nil_append, List.cons_append]
  gi_wp2
  go_ret
  exact ⟨rfl, rfl⟩

/-- what a round must leave as it was: what lay there before the call, and the box -/
def Kept (n0 Bn : Nat) (A B : World) : Prop := B.heap[Bn]? = A.heap[Bn]? ∧ Below n0 A B

set_option maxHeartbeats 2000000 in
theorem starts1_in (X kk : Nat → Int) (n : Nat) (hn : 3 ≤ n) (lp Bn n0 n1 : Nat) (l : List UInt8) (hl : l.length ≤ 100000) (J Jx : List (Fin 68) → World → Prop) (hJ : AbidesFrom n1 J)
    (hk0 : 3 < n0) (hb0 : 0 < n0)
    (hY : ∀ pre x W, J pre W → pre.length < 68 → YieldAt Fence.wide (n - 1) Tryd.prog lp (encSt X kk l x) W fun e W' =>
      (e = .returned (.bool true) ∧ J (pre ++ [x]) W' ∧ Kept n0 Bn W W') ∨ (e = .returned (.bool false) ∧ Jx (pre ++ [x]) W'))
    (W : World) (hBl : Bn < W.heap.size) (hBn : W.cell? ⟨Bn, 0, none⟩ = some (.string ⟨l.toArray⟩)) (hT : Tabs W X kk) (h0 : J [] W) :
    CallsIn Fence.wide n Tryd.prog 93 #[.func (.yield lp) #[] #[], .pointer (some ⟨Bn, 0, none⟩)] W fun e W' => (∃ v, e = .returned v) ∧
      ((∃ ys, ys = places ∧ J ys W') ∨ (∃ pre, pre <+: places ∧ Jx pre W')) := by
  refine callsIn_of_wp Tryd.func93 rfl trivial ?_ rfl
  simp only [Tryd.ntmps93, List.size_toArray, List.length_cons, List.length_nil, Nat.reduceAdd, Nat.reduceSub, Array.replicate_succ, Array.replicate_zero, List.push_toArray, List.append_toArray, List.nil_append, List.cons_append]
  gi_wp2
  gi_loopw [4] (fun a wr => ∃ j : Nat, j ≤ 68 ∧ a = .int .i64 (j : Int) ∧ Bn < wr.heap.size ∧ wr.cell? ⟨Bn, 0, none⟩ = some (.string ⟨l.toArray⟩) ∧ Hid (Tabs wr X kk) ∧ J (places.take j) wr)
    (fun a _ => 68 - (intOf a).toNat)
  case atStart =>
    exact ⟨0, by omega, rfl, hBl, hBn, Lib.hid hT, by simpa using h0⟩
  case round =>
    obtain ⟨j, hj, rfl, hBl, hB, HT, hJ1⟩ := hrel
    by_cases hlt : j < 68
    · have hji : (j : Int) < 68 := by omega
      have hcv : (convert 96 9 (.slice (some ⟨wr.heap.size, 0, none⟩) 1 1)).run Tryd.prog (wr.alloc (.cells #[.int .u8 (j : Int)] 5)) = .ok (.string ⟨#[UInt8.ofNat j]⟩) (wr.alloc (.cells #[.int .u8 (j : Int)] 5)) := by
        have hb : Bts (wr.alloc (.cells #[.int .u8 (j : Int)] 5)) wr.heap.size [UInt8.ofNat j] := by
          refine ⟨by simp, fun i hi => ⟨?_, ?_⟩⟩
          · have hi0 : i = 0 := by simpa using hi
            subst hi0
            rw [World.cell?_alloc_mark wr _ _ (0, 0) 0]
            have hjm : j % 256 = j := by omega
            simp [hjm]
          · exact (World.frozen?_alloc_mark wr _ _ 0 0 i).trans (by simp)
        exact hb.conv 1
      have hli : (l.length : Int) ≤ 100000 := by omega
      have hba := (Below.refl wr.heap.size wr).alloc (Nat.le_refl _) (.cells #[.int .u8 (j : Int)] 5)
      have hm := mid_any (⟨#[3]⟩ ++ ⟨#[UInt8.ofNat j]⟩ ++ ⟨l.toArray⟩) X kk (wr.alloc (.cells #[.int .u8 (j : Int)] 5)) (HT.out.below rfl hba)
      rw [show (⟨#[3]⟩ ++ ⟨#[UInt8.ofNat j]⟩ ++ ⟨l.toArray⟩ : ByteArray).data.toList = 3 :: UInt8.ofNat j :: l by simp [ByteArray.data_append]] at hm
      have HM := Lib.hid hm
      have hBa : (wr.alloc (.cells #[.int .u8 (j : Int)] 5)).cell? ⟨Bn, 0, none⟩ = some (.string ⟨l.toArray⟩) := by rw [hba.cell (p := ⟨Bn, 0, none⟩) hBl]; exact hB
      have HTK := Lib.hid (places_take j hlt)
      clear hm
      gi_wp2_with fail
      refine ⟨trivial, fun _ => by omega, (callsIn_wide.2 HM.out).mono ?_⟩
      rintro e1 w2 ⟨rfl, hb2⟩
      have hb3 : Below wr.heap.size wr w2 := hba.trans (hb2.mono (by simp))
      have hJ2 := hJ _ wr w2 none hJ1 ⟨hb3.os, hb3.tape, hb3.output, hb3.size, fun k hk _ => hb3.block k hk⟩ (fun r e => by cases e)
      obtain ⟨fn, tmps, assign, body, hy, hR⟩ := hY _ ⟨j, hlt⟩ w2 hJ2 (by rw [List.length_take, places_length]; omega)
      dsimp only [encSt] at hy
      have hs2 := hb3.size
      have hB2 : w2.heap[Bn]? = wr.heap[Bn]? := hb3.block Bn hBl
      have HT2 := Lib.hid (HT.out.below rfl hb3)
      clear hba hb2 HM hBa hcv hJ1
      rw [show midL X kk (3 :: UInt8.ofNat j :: l) = startL X kk l j from rfl]
      gi_wp2
      refine ⟨fun _ => by omega, hR.mono ?_⟩
      rintro e W3 (⟨rfl, hJ3, hk3⟩ | ⟨rfl, hJx3⟩)
      · have hB3 : W3.cell? ⟨Bn, 0, none⟩ = some (.string ⟨l.toArray⟩) := (World.cell?_of_block (a := ⟨Bn, 0, none⟩) (hk3.1.trans hB2)).trans hB
        rw [← HTK.out] at hJ3
        have hs3 := hk3.2.size
        have HT3 := Lib.hid (HT2.out.low hk0 hb0 hk3.2)
        gi_wp2
        go_roundw
        case rel => exact ⟨j + 1, by omega, by go_num, by omega, hB3, HT3, hJ3⟩
        case measure => simp [intOf]; omega
      · rw [← HTK.out] at hJx3
        gi_wp2
        refine bodyPost_ret (results_none rfl _ _ _) rfl ?_
        exact ⟨⟨_, rfl⟩, .inr ⟨_, List.take_prefix _ _, hJx3⟩⟩
    · obtain rfl : j = 68 := by omega
      rw [show places.take 68 = places from List.take_of_length_le (by rw [places_length]; omega)] at hJ1
      rw [show ((68 : Nat) : Int) = 68 from rfl]
      clear hlt hj
      gi_wp2
      refine bodyPost_end (results_none rfl _ _ _) rfl ?_
      exact ⟨⟨_, rfl⟩, .inl ⟨_, rfl, hJ1⟩⟩

theorem starts_stops (X kk : Nat → Int) (n : Nat) (hn : 3 ≤ n) (Bn n0 : Nat) (l : List UInt8) (hl : l.length ≤ 100000) (hk0 : 3 < n0) (hb0 : 0 < n0) (w : World) (hB : Bn < w.heap.size) (hn0 : n0 ≤ w.heap.size) (hc1 : w.cell? ⟨Bn, 0, none⟩ = some (.string ⟨l.toArray⟩)) (hT : Tabs w X kk) :
    SeqStopsK Fence.wide n Tryd.prog 93 #[.pointer (some ⟨Bn, 0, none⟩)] (encSt X kk l) (Kept n0 Bn) (fun ys => ys = places) (fun pre => pre <+: places) 68 w := fun lp J Jx W hW hJ _ hY h0 =>
  starts1_in X kk n hn lp Bn n0 _ l hl J Jx hJ hk0 hb0 hY W (Nat.lt_of_lt_of_le hB hW.size) ((hW.cell (p := ⟨Bn, 0, none⟩) hB).trans hc1) (hT.below rfl hW) h0
end One
end Go.Proofs.YtbgjoefpnjgdkaaDoor
/- A region that draws its order, in a fence that may be a round's: what only reads may be taken first, if a condition on the world holds behind every operation that is carried out. -/
namespace Go.Proofs.YtbgjoefpnjgdkaaDoor
open Go

section
variable {F : Fence} {n : Nat} {P : Program} {ops : Array Oper} {Q : Exit → Act → World → Prop} {S : World → Prop}

/-- In this state the operation leaves 'v' and does nothing else, in every world that meets S; and it is about to make no call. -/
structure Gives (P : Program) (ops : Array Oper) (S : World → Prop) (o : Oper) (v : Value) (a : Act) : Prop where
  yes : Region.wanted o (yielded ops a.tmps) = true
  run : ∀ w, S w → (execOp a.eval o).run P w = .ok (.value v) w
  none : ∀ w, o.about P w a.eval = none

theorem Gives.put {o : Oper} {v : Value} {a : Act} (h : Gives P ops S o v a) (hs : ∀ cs b, o.op ≠ .select cs b) (d : Option Tmp) (u : Value) (hd : ∀ t, d = some t → t ∉ o.looksAt ops) : Gives P ops S o v (a.put d u) :=
  ⟨by rw [wanted_put o a d u hd]; exact h.yes, fun w hw => by rw [execOp_put o hs a d u hd]; exact h.run w hw, fun w => by rw [about_put o w a d u hd]; exact h.none w⟩

/-- no operation is a defer statement, and none selects -/
structure Plainly (ops : Array Oper) : Prop where
  nd : ∀ (j : Nat) (o : Oper), ops[j]? = some o → ∀ c, o.op ≠ .defer c
  ns : ∀ (j : Nat) (o : Oper), ops[j]? = some o → ∀ cs b, o.op ≠ .select cs b

def plainB (o : Oper) : Bool := match o.op with
  | .defer _ => false
  | .select _ _ => false
  | _ => true

theorem Plainly.of (h : ops.all plainB = true) : Plainly ops := by
  have hall : ∀ (j : Nat) (o : Oper), ops[j]? = some o → plainB o = true := fun j o hj => by
    rw [Array.all_eq_true'] at h
    exact h o (Array.mem_of_getElem? hj)
  refine ⟨fun j o hj c e => ?_, fun j o hj cs b e => ?_⟩
  all_goals
    have := hall j o hj
    unfold plainB at this
    rw [e] at this
    cases this

theorem Gives.wpOpIn (hp : Plainly ops) {i : Nat} {o : Oper} {v : Value} {a : Act} (hi : ops[i]? = some o) (h : Gives P ops S o v a) {K : Act → World → Prop} {w : World} (hS : S w) (hK : K (a.put o.dst v) w) : wpOpIn F n P ops Q i K a w := by
  unfold Go.wpOpIn
  simp only [hi, h.yes, if_true, Oper.wpIn]
  rw [Oper.semAt_plain F _ _ (hp.nd i o hi), h.run w hS]
  exact ⟨fun f hf => absurd hf (by rw [h.none w]; simp), hK⟩

/-- whatever order is picked from here on, S holding behind every operation -/
def HeldIn (F : Fence) (n : Nat) (P : Program) (ops : Array Oper) (Q : Exit → Act → World → Prop) (S : World → Prop) : Nat → Array Bool → Act → World → Prop
  | 0, listed, a, w => Region.ready .any ops listed = [] ∧ Q .normal a w
  | fuel + 1, listed, a, w => (Region.ready .any ops listed = [] → Q .normal a w) ∧
    ∀ i ∈ Region.ready .any ops listed, wpOpIn F n P ops Q i (fun a' w' => S w' ∧ HeldIn F n P ops Q S fuel (listed.setIfInBounds i true) a' w') a w

theorem HeldIn.any : ∀ (fuel : Nat) (listed : Array Bool) (a : Act) (w : World), HeldIn F n P ops Q S fuel listed a w → wpAnyIn F n P .any ops Q fuel listed a w
  | 0, _, _, _, h => h
  | fuel + 1, _, _, _, h => ⟨h.1, fun i hi => wpOpIn_mono (fun a' w' h' => HeldIn.any fuel _ a' w' h'.2) (h.2 i hi)⟩

/-- an operation apart from one that gives: it does not matter whether the value lies there already -/
theorem wpOpIn_apart (hp : Plainly ops) {i j : Nat} {oi oj : Oper} {v : Value} (hi : ops[i]? = some oi) (hj : ops[j]? = some oj) (hap : oi.apart ops oj = true)
    (hQ : ∀ c a w, Q (.panic c) (a.put oi.dst v) w → Q (.panic c) a w) {K : Act → World → Prop} {a : Act} {w : World}
    (hy : Gives P ops S oi v a) (h : wpOpIn F n P ops Q j K (a.put oi.dst v) w) :
    wpOpIn F n P ops Q j (fun a' w' => Gives P ops S oi v a' ∧ K (a'.put oi.dst v) w') a w := by
  obtain ⟨h1, h2, h3⟩ := Oper.apart_spec hap
  have keep : ∀ u, Gives P ops S oi v (a.put oj.dst u) := fun u => hy.put (hp.ns i oi hi) oj.dst u h3
  unfold Go.wpOpIn at h ⊢
  simp only [hj] at h ⊢
  rw [wanted_put oj a oi.dst v h1, about_put oj w a oi.dst v h1] at h
  by_cases hw : Region.wanted oj (yielded ops a.tmps) = true
  · rw [if_pos hw] at h ⊢
    unfold Oper.wpIn at h ⊢
    rw [about_put oj w a oi.dst v h1] at h
    obtain ⟨ha, h⟩ := h
    refine ⟨ha, ?_⟩
    rw [Oper.semAt_plain F _ _ (hp.nd j oj hj), execOp_put oj (hp.ns j oj hj) a oi.dst v h1] at h
    rw [Oper.semAt_plain F _ _ (hp.nd j oj hj)]
    have hQ' : ∀ (u : Value) (w'' : World) (d : List Deferred), K (({ a with defers := d }.put oi.dst v).put oj.dst u) w'' → K (({ a with defers := d }.put oj.dst u).put oi.dst v) w'' := fun u w'' d hk => by
      rw [← Act.put_comm _ v u h2]; exact hk
    rcases hr : (execOp a.eval oj).run P w with ⟨x, w'⟩ | ⟨x, w'⟩ <;> rw [hr] at h
    · cases x <;> simp only [Oper.uponIn] at h ⊢
      case value u => exact ⟨keep u, hQ' u w' a.defers h⟩
      case skip => exact ⟨keep undef, hQ' undef w' a.defers h⟩
      case defer d =>
        have hg : Gives P ops S oi v { a with defers := d :: a.defers } := ⟨hy.yes, hy.run, hy.none⟩
        refine ⟨hg.put (hp.ns i oi hi) oj.dst undef h3, hQ' undef w' (d :: a.defers) ?_⟩
        rw [← Act.put_defers]; exact h
      case enter f args =>
        refine ⟨h.1, CallsIn.mono h.2 fun e w'' he => ?_⟩
        cases e with
        | returned u => exact ⟨keep u, hQ' u w'' a.defers he⟩
        | panicked c => exact hQ _ _ _ he
        | outgrown => exact he
      case row row args => exact ⟨h.1, RowsIn.mono h.2 fun u w'' he => ⟨keep u, hQ' u w'' a.defers he⟩⟩
      case round l f tmps assign body =>
        refine ⟨h.1, RoundIn.mono h.2 fun e w'' he => ?_⟩
        cases e with
        | returned u => exact ⟨keep u, hQ' u w'' a.defers he⟩
        | panicked c => exact hQ _ _ _ he
        | outgrown => exact he
    · cases x <;> simp only [Oper.uponIn] at h ⊢
      case panic u => exact hQ _ _ _ h
  · rw [if_neg hw] at h ⊢
    refine ⟨h.1, keep undef, ?_⟩
    rw [← Act.put_comm a v undef h2]; exact h.2

theorem HeldIn.first (hp : Plainly ops) {i : Nat} {oi : Oper} {v : Value} (hi : ops[i]? = some oi) (hQ : ∀ c a w, Q (.panic c) (a.put oi.dst v) w → Q (.panic c) a w) (fuel : Nat) :
    ∀ (listed : Array Bool) (a : Act) (w : World),
      (∀ j oj, ops[j]? = some oj → j ≠ i → listed.getD j true = false → (∀ e ∈ oj.after, Region.binds .any e = true → e.on ≠ i) → oi.apart ops oj = true) →
      i ∈ Region.ready .any ops listed → Gives P ops S oi v a → S w →
      HeldIn F n P ops Q S fuel (listed.setIfInBounds i true) (a.put oi.dst v) w → HeldIn F n P ops Q S (fuel + 1) listed a w := by
  induction fuel with
  | zero =>
    intro listed a w _ hr hy hS H
    refine ⟨fun h => absurd hr (by rw [h]; exact List.not_mem_nil), fun j hj => ?_⟩
    by_cases hji : j = i
    · rw [hji]; exact hy.wpOpIn hp hi hS ⟨hS, H⟩
    · have := ready_mono hj hji
      rw [H.1] at this
      exact absurd this List.not_mem_nil
  | succ fuel ih =>
    intro listed a w hfree hr hy hS H
    refine ⟨fun h => absurd hr (by rw [h]; exact List.not_mem_nil), fun j hj => ?_⟩
    by_cases hji : j = i
    · rw [hji]; exact hy.wpOpIn hp hi hS ⟨hS, H⟩
    · obtain ⟨hjun, oj, hoj, hall⟩ := mem_ready.1 hj
      have hnot : ∀ e ∈ oj.after, Region.binds .any e = true → e.on ≠ i := by
        intro e he hb heq
        have h1 := hall e he hb
        have h0 := (mem_ready.1 hr).1
        rw [heq] at h1
        rcases Nat.lt_or_ge i listed.size with h' | h'
        · simp [h'] at h0 h1; rw [h0] at h1; cases h1
        · simp [Array.getElem?_eq_none h'] at h1
      have h2 := wpOpIn_apart hp hi hoj (hfree j oj hoj hji hjun hnot) hQ hy (H.2 j (ready_mono hj hji))
      refine wpOpIn_mono (fun a' w' h3 => ⟨h3.2.1, ih (listed.setIfInBounds j true) a' w' ?_ (ready_mono hr (Ne.symm hji)) h3.1 h3.2.1 ?_⟩) h2
      · intro k ok hk hki hun hno
        refine hfree k ok hk hki ?_ hno
        by_cases hjk : j = k
        · rw [← hjk]; exact hjun
        · rw [getD_set_ne true hjk] at hun; exact hun
      · rw [Array.setIfInBounds_comm _ _ hji]
        exact h3.2.2

/-- take number i first -/
theorem HeldIn.take (hp : Plainly ops) (i : Nat) (oi : Oper) (v : Value) {fuel : Nat} {listed : Array Bool} {a : Act} {w : World} (hi : ops[i]? = some oi)
    (hf : Region.free .any ops listed i = true) (hr : (Region.ready .any ops listed).contains i = true)
    (hQ : ∀ c a w, Q (.panic c) (a.put oi.dst v) w → Q (.panic c) a w) (hS : S w) (hy : Gives P ops S oi v a)
    (h : HeldIn F n P ops Q S fuel (listed.setIfInBounds i true) (a.put oi.dst v) w) : HeldIn F n P ops Q S (fuel + 1) listed a w :=
  HeldIn.first hp hi hQ fuel listed a w (Region.free_spec hi hf) (by simpa using hr) hy hS h

/-- whichever comes up -/
def HeldAll (F : Fence) (n : Nat) (P : Program) (ops : Array Oper) (Q : Exit → Act → World → Prop) (S : World → Prop) (fuel : Nat) (listed : Array Bool) (a : Act) (w : World) (rs : List Nat) : Prop :=
  ∀ i ∈ rs, wpOpIn F n P ops Q i (fun a' w' => S w' ∧ HeldIn F n P ops Q S fuel (listed.setIfInBounds i true) a' w') a w

theorem HeldIn.all {fuel : Nat} {listed : Array Bool} {a : Act} {w : World} (rs : List Nat) (hr : Region.ready .any ops listed = rs) (hne : rs ≠ [])
    (h : HeldAll F n P ops Q S fuel listed a w rs) : HeldIn F n P ops Q S (fuel + 1) listed a w :=
  ⟨fun h0 => absurd (hr ▸ h0) hne, hr ▸ h⟩

theorem HeldAll.nil {fuel : Nat} {listed : Array Bool} {a : Act} {w : World} : HeldAll F n P ops Q S fuel listed a w [] := fun _ h => absurd h List.not_mem_nil

theorem HeldAll.cons {fuel : Nat} {listed : Array Bool} {a : Act} {w : World} {i : Nat} {o : Oper} {rs : List Nat} (ho : ops[i]? = some o)
    (hw : Region.wanted o (yielded ops a.tmps) = true)
    (h : ∀ K : Act → World → Prop, (∀ a w, S w → HeldIn F n P ops Q S fuel (listed.setIfInBounds i true) a w → K a w) → Oper.wpIn F n P o a w K Q)
    (hs : HeldAll F n P ops Q S fuel listed a w rs) : HeldAll F n P ops Q S fuel listed a w (i :: rs) := by
  intro j hj
  rcases List.mem_cons.1 hj with e | hj
  · rw [e]
    unfold Go.wpOpIn
    rw [ho]
    simp only [hw, if_true]
    exact h _ (fun a w s k => ⟨s, k⟩)
  · exact hs j hj

theorem HeldIn.done {listed : Array Bool} {a : Act} {w : World} (hr : Region.ready .any ops listed = []) (h : Q .normal a w) : ∀ fuel, HeldIn F n P ops Q S fuel listed a w
  | 0 => ⟨hr, h⟩
  | _ + 1 => ⟨fun _ => h, by rw [hr]; exact fun _ h => absurd h List.not_mem_nil⟩

/-- the beginning -/
theorem wpIn_region_held (S : World → Prop) {id : Nat} {a : Act} {w : World} (hm : P.follows .mixedOrders = true)
    (h : HeldIn F n P ops Q S ops.size (Array.replicate ops.size false) a w.drew) : (Code.region id ops true).wpIn F n P Q a w :=
  wpIn_region_any hm (HeldIn.any _ _ _ _ h)

end
end Go.Proofs.YtbgjoefpnjgdkaaDoor
