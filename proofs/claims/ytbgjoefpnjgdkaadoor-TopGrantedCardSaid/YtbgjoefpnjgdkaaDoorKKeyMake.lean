/- key.Make: a ring of a key. -/
import Derived.Test.YtbgjoefpnjgdkaaDoorJ26
import Derived.Test.YtbgjoefpnjgdkaaDoorJ28
import Derived.Test.YtbgjoefpnjgdkaaDoorJ30
import Derived.Test.YtbgjoefpnjgdkaaDoorKTopOnce
import Derived.Deep.Onto
namespace Go.Proofs.YtbgjoefpnjgdkaaDoor
open Go.RowKit
set_option linter.unusedVariables false
set_option linter.unusedSimpArgs false
set_option maxRecDepth 100000
/-- append as it stands: the walk does not open it -/
def appKeyMake (ats : Array TypeId) (ty : TypeId) (args : Array Value) : Sem Value := Builtin.append_ ats ty args
theorem appKeyMake_fold (ats : Array TypeId) (ty : TypeId) (args : Array Value) : Builtin.append_ ats ty args = appKeyMake ats ty args := rfl
attribute [local go_sem ↓] appKeyMake_fold
namespace Key
open Sha Tree Go.Proofs.YtbgjoefpnjgdkaaDoor.One
theorem shl_small (k : Nat) (hk : k ≤ 3) : wrap64 (2 ^ k) = ((2 ^ k : Nat) : Int) := by
  have h : k = 0 ∨ k = 1 ∨ k = 2 ∨ k = 3 := by omega
  rcases h with rfl | rfl | rfl | rfl <;> simp [wrap64]
theorem grownBy_set (w : World) (b i : Nat) (v : Value) : w.grownBy (w.setCell ⟨b, i, none⟩ v) (some b) := ⟨rfl, rfl, rfl, by simp [World.setCell], fun k hk hne => Below.heap_setCell _ _ _ _ (fun e => hne (by rw [e]))⟩
/-- a ring's cells -/
def ringC (s : List UInt8) (high next : Int) (v : Value) (R : List UInt8) : List Value := [.string ⟨s.toArray⟩, .int .i64 high, .int .i64 next, v] ++ bytesV R
/-- the public sums of a key's places -/
def pubsL (X kk : Nat → Int) (s : List UInt8) (n : Nat) : List (List UInt8) := (List.range n).map fun i => publicL X kk (seedL X kk s i)
theorem pubsL_length (X kk : Nat → Int) (s : List UInt8) (n : Nat) : (pubsL X kk s n).length = n := by simp [pubsL]
theorem pubsL_succ (X kk : Nat → Int) (s : List UInt8) (n : Nat) : pubsL X kk s (n + 1) = pubsL X kk s n ++ [publicL X kk (seedL X kk s n)] := by rw [pubsL, List.range_succ, List.map_append]; rfl
theorem pubsL_each (X kk : Nat → Int) (s : List UInt8) (n : Nat) : ∀ l ∈ pubsL X kk s n, l.length = 32 := by
  intro l hl
  obtain ⟨i, _, rfl⟩ := List.mem_map.1 hl
  exact Top.publicL_length _ _ _
theorem seedL_length (X kk : Nat → Int) (s : List UInt8) (i : Nat) : (seedL X kk s i).length = 16 := midL_length _ _ _

set_option maxHeartbeats 4000000 in
theorem make_ok (X kk : Nat → Int) (s : List UInt8) (k : Nat) (hk : k ≤ 3) (hs0 : 0 < s.length) (hs : s.length ≤ 64) (next : Int) (N : Nat) (hN : N = 2 ^ k) (w : World) (hT : Tabs w X kk)
    (hck : ∀ w, Calls Tryd.prog 99 #[keyV s (k : Int) next] w fun e w' => e = .returned (.int .i64 0) ∧ Below w.heap.size w w') :
    Calls Tryd.prog 51 #[keyV s (k : Int) next] w fun e w' => ∃ g v, e = .returned (.tuple #[.pointer (some ⟨g, 0, none⟩), .int .i64 0]) ∧ w.heap.size ≤ g ∧ Blk w' g (ringC s (k : Int) next v (rootL X kk k (pubsL X kk s N))) ∧ OwnH w.heap.size w' v (pubsL X kk s N) ∧ Below w.heap.size w w' := by
  obtain ⟨i0, hin, hz0, hz1, hz2⟩ := info_parts info_hash
  have HCK := Lib.hid hck
  have HT := Lib.hid hT
  have hN8 : N ≤ 8 := by rw [hN]; exact Nat.le_trans (Nat.pow_le_pow_right (by omega) hk) (by decide)
  have hN1 : 1 ≤ N := by rw [hN]; exact Nat.one_le_two_pow
  have hshl : wrap64 (2 ^ k) = (N : Int) := by
    rw [hN]; exact shl_small k hk
  have HSH := Lib.hid hshl
  have HK := Lib.hid hk
  have HN := Lib.hid hN
  have hkz : (k : Int) ≤ 3 := by omega
  clear hck hT hk hshl hN
  unfold keyV at *
  have b0 := Blk.new w #[.string ⟨s.toArray⟩, .int .i64 (k : Int), .int .i64 next] 43
  have B0 := (Below.refl w.heap.size w).alloc (Nat.le_refl _) (.cells #[.string ⟨s.toArray⟩, .int .i64 (k : Int), .int .i64 next] 43)
  go_enter Tryd.func51, Tryd.ntmps51
  go_wp2_with fail
  generalize w.alloc (.cells #[.string ⟨s.toArray⟩, .int .i64 (k : Int), .int .i64 next] 43) = wa at *
  refine (HCK.out _).mono ?_
  rintro e w1 ⟨rfl, hb1⟩
  have B1 := B0.trans (hb1.mono B0.size)
  have b1 := b0.low hb1
  clear b0 B0 hb1
  have k0 := b1.cell 0 rfl
  have k1 := b1.cell 1 rfl
  have k2 := b1.cell 2 rfl
  have hw0 := b1.size
  go_wp2_with fail
  have b2 : Blk (w1.alloc (.cells #[.string ⟨s.toArray⟩, .int .i64 (k : Int), .int .i64 next, .slice none 0 0, Value.int .u8 0, Value.int .u8 0, Value.int .u8 0, Value.int .u8 0, Value.int .u8 0, Value.int .u8 0, Value.int .u8 0, Value.int .u8 0, Value.int .u8 0, Value.int .u8 0, Value.int .u8 0, Value.int .u8 0, Value.int .u8 0, Value.int .u8 0, Value.int .u8 0, Value.int .u8 0, Value.int .u8 0, Value.int .u8 0, Value.int .u8 0, Value.int .u8 0, Value.int .u8 0, Value.int .u8 0, Value.int .u8 0, Value.int .u8 0, Value.int .u8 0, Value.int .u8 0, Value.int .u8 0, Value.int .u8 0, Value.int .u8 0, Value.int .u8 0, Value.int .u8 0, Value.int .u8 0] 125)) w1.heap.size (ringC s (k : Int) next (.slice none 0 0) (List.replicate 32 0)) := Blk.new w1 _ _
  have B2 := B1.alloc B1.size (.cells #[.string ⟨s.toArray⟩, .int .i64 (k : Int), .int .i64 next, .slice none 0 0, Value.int .u8 0, Value.int .u8 0, Value.int .u8 0, Value.int .u8 0, Value.int .u8 0, Value.int .u8 0, Value.int .u8 0, Value.int .u8 0, Value.int .u8 0, Value.int .u8 0, Value.int .u8 0, Value.int .u8 0, Value.int .u8 0, Value.int .u8 0, Value.int .u8 0, Value.int .u8 0, Value.int .u8 0, Value.int .u8 0, Value.int .u8 0, Value.int .u8 0, Value.int .u8 0, Value.int .u8 0, Value.int .u8 0, Value.int .u8 0, Value.int .u8 0, Value.int .u8 0, Value.int .u8 0, Value.int .u8 0, Value.int .u8 0, Value.int .u8 0, Value.int .u8 0, Value.int .u8 0] 125)
  have b1' := b1.alloc (.cells #[.string ⟨s.toArray⟩, .int .i64 (k : Int), .int .i64 next, .slice none 0 0, Value.int .u8 0, Value.int .u8 0, Value.int .u8 0, Value.int .u8 0, Value.int .u8 0, Value.int .u8 0, Value.int .u8 0, Value.int .u8 0, Value.int .u8 0, Value.int .u8 0, Value.int .u8 0, Value.int .u8 0, Value.int .u8 0, Value.int .u8 0, Value.int .u8 0, Value.int .u8 0, Value.int .u8 0, Value.int .u8 0, Value.int .u8 0, Value.int .u8 0, Value.int .u8 0, Value.int .u8 0, Value.int .u8 0, Value.int .u8 0, Value.int .u8 0, Value.int .u8 0, Value.int .u8 0, Value.int .u8 0, Value.int .u8 0, Value.int .u8 0, Value.int .u8 0, Value.int .u8 0] 125)
  generalize w1.alloc (.cells #[.string ⟨s.toArray⟩, .int .i64 (k : Int), .int .i64 next, .slice none 0 0, Value.int .u8 0, Value.int .u8 0, Value.int .u8 0, Value.int .u8 0, Value.int .u8 0, Value.int .u8 0, Value.int .u8 0, Value.int .u8 0, Value.int .u8 0, Value.int .u8 0, Value.int .u8 0, Value.int .u8 0, Value.int .u8 0, Value.int .u8 0, Value.int .u8 0, Value.int .u8 0, Value.int .u8 0, Value.int .u8 0, Value.int .u8 0, Value.int .u8 0, Value.int .u8 0, Value.int .u8 0, Value.int .u8 0, Value.int .u8 0, Value.int .u8 0, Value.int .u8 0, Value.int .u8 0, Value.int .u8 0, Value.int .u8 0, Value.int .u8 0, Value.int .u8 0, Value.int .u8 0] 125) = w2 at *
  generalize wrap64 (2 ^ k) = sh at *
  obtain rfl : sh = (N : Int) := HSH.out
  clear HSH k0 k1 k2
  have z2 : w1.heap.size < w2.heap.size := b2.size
  have hw1 := B1.size
  go_loopw [20] (fun x wr => ∃ (j : Nat) (v : Value), j ≤ N ∧ x = .int .i64 (j : Int) ∧ Hid (Blk wr w1.heap.size (ringC s (k : Int) next v (List.replicate 32 0))) ∧ Hid (OwnH (w1.heap.size + 1) wr v (pubsL X kk s j)) ∧ Hid (Blk wr w.heap.size [.string ⟨s.toArray⟩, .int .i64 (k : Int), .int .i64 next]) ∧ Hid (Below w.heap.size w wr)) (fun x _ => N - (intOf x).toNat)
  case atStart => exact ⟨0, _, by omega, rfl, Lib.hid b2, Lib.hid (OwnH.nil _ _), Lib.hid b1', Lib.hid B2⟩
  case round =>
    obtain ⟨j, v, hj, rfl, HR, HO, HKB, HB⟩ := hrel
    clear b1 b1' b2 B1 B2
    by_cases hlt : j < N
    · have hji : (j : Int) < (N : Int) := by omega
      have hj0 : (0 : Int) ≤ (j : Int) := by omega
      have hmo : Tryd.prog.follows .mixedOrders = true := by kernel_rfl
      have S0 : wr.drew.cell? ⟨w1.heap.size, 3, none⟩ = some v ∧ wr.drew.cell? ⟨w.heap.size, 0, none⟩ = some (.string ⟨s.toArray⟩) ∧ wr.drew.cell? ⟨w.heap.size, 1, none⟩ = some (.int .i64 (k : Int)) ∧ wr.drew.cell? ⟨w.heap.size, 2, none⟩ = some (.int .i64 next) := ⟨HR.out.drew.cell 3 rfl, HKB.out.drew.cell 0 rfl, HKB.out.drew.cell 1 rfl, HKB.out.drew.cell 2 rfl⟩
      have HTr : Tabs wr.drew X kk := HT.out.below rfl HB.out.drew
      go_wp2_with fail
      refine wp_region_heldX (fun w' => w'.cell? ⟨w1.heap.size, 3, none⟩ = some v ∧ w'.cell? ⟨w.heap.size, 0, none⟩ = some (.string ⟨s.toArray⟩) ∧ w'.cell? ⟨w.heap.size, 1, none⟩ = some (.int .i64 (k : Int)) ∧ w'.cell? ⟨w.heap.size, 2, none⟩ = some (.int .i64 next)) [10, 13] hmo ?_
      refine HeldX.move 0 (v := .pointer (some ⟨w1.heap.size, 0, none⟩)) rfl (by kernel_rfl) (by kernel_rfl) (by kernel_rfl) (by kernel_rfl) (fun _ _ _ h => h) S0 (.inl ⟨by kernel_rfl, fun w h => by go_simp⟩) ?_
      go_simp
      refine HeldX.move 1 (v := .pointer (some ⟨w1.heap.size, 0, none⟩)) rfl (by kernel_rfl) (by kernel_rfl) (by kernel_rfl) (by kernel_rfl) (fun _ _ _ h => h) S0 (.inl ⟨by kernel_rfl, fun w h => by go_simp⟩) ?_
      go_simp
      refine HeldX.move 2 (v := .pointer (some ⟨w1.heap.size, 0, none⟩)) rfl (by kernel_rfl) (by kernel_rfl) (by kernel_rfl) (by kernel_rfl) (fun _ _ _ h => h) S0 (.inl ⟨by kernel_rfl, fun w h => by go_simp⟩) ?_
      go_simp
      refine HeldX.move 3 (v := .pointer (some ⟨w1.heap.size, 3, none⟩)) rfl (by kernel_rfl) (by kernel_rfl) (by kernel_rfl) (by kernel_rfl) (fun _ _ _ h => h) S0 (.inl ⟨by kernel_rfl, fun w h => by go_simp⟩) ?_
      go_simp
      refine HeldX.take 4 (v := v) rfl (by kernel_rfl) (by kernel_rfl) (by kernel_rfl) (by kernel_rfl) (fun _ _ _ h => h) S0 (.inl ⟨by kernel_rfl, fun w h => by have h1 := h.1; go_simp⟩) ?_
      go_simp
      refine HeldX.take 5 (v := .agg #[.string ⟨s.toArray⟩, .int .i64 (k : Int), .int .i64 next]) rfl (by kernel_rfl) (by kernel_rfl) (by kernel_rfl) (by kernel_rfl) (fun _ _ _ h => h) S0 (.inl ⟨by kernel_rfl, fun w h => by have h1 := h.2.1; have h2 := h.2.2.1; have h3 := h.2.2.2; go_simp⟩) ?_
      go_simp
      refine HeldX.move 6 (v := .int .i64 (j : Int)) rfl (by kernel_rfl) (by kernel_rfl) (by kernel_rfl) (by kernel_rfl) (fun _ _ _ h => h) S0 (.inl ⟨by kernel_rfl, fun w h => by go_simp⟩) ?_
      go_simp
      refine HeldX.one 7 (by kernel_rfl) rfl (by kernel_rfl) (fun K hK => ?_)
      go_simp
      refine (seed_any X kk s (k : Int) next j (by omega) hs _ HTr).mono ?_
      rintro e w3 ⟨rfl, hb3⟩
      have r3 := HR.out.drew.low hb3
      have q3 := HKB.out.drew.low hb3
      have B3 : Below w.heap.size w w3 := HB.out.drew.trans (hb3.mono HB.out.size)
      have o3 : OwnH (w1.heap.size + 1) w3 v (pubsL X kk s j) := Top.ownH_low HO.out ((Below.refl _ wr).drew.trans hb3)
      refine hK _ _ ⟨r3.cell 3 rfl, q3.cell 0 rfl, q3.cell 1 rfl, q3.cell 2 rfl⟩ ?_
      clear hK K
      refine HeldX.one 8 (by kernel_rfl) rfl (by kernel_rfl) (fun K hK => ?_)
      go_simp
      refine (public_any X kk (seedL X kk s j) (by rw [seedL_length]; omega) _ (HT.out.below rfl B3)).mono ?_
      rintro e w4 ⟨rfl, hb4⟩
      have r4 := r3.low hb4
      have q4 := q3.low hb4
      have B4 : Below w.heap.size w w4 := B3.trans (hb4.mono B3.size)
      have o4 := Top.ownH_low o3 hb4
      refine hK _ _ ⟨r4.cell 3 rfl, q4.cell 0 rfl, q4.cell 1 rfl, q4.cell 2 rfl⟩ ?_
      clear hK K
      clear r3 q3 B3 o3 hb3 hb4
      have HPS := Lib.hid (pubsL_succ X kk s j)
      have HPE := Lib.hid (pubsL_each X kk s j)
      have hpl := pubsL_length X kk s j
      have hy32 := Top.publicL_length X kk (seedL X kk s j)
      generalize publicL X kk (seedL X kk s j) = y at *
      have hfold : (bytesV y).zipIdx.foldl (fun cs x => cs.setIfInBounds x.snd x.fst) #[Value.int .u8 0, Value.int .u8 0, Value.int .u8 0, Value.int .u8 0, Value.int .u8 0, Value.int .u8 0, Value.int .u8 0, Value.int .u8 0, Value.int .u8 0, Value.int .u8 0, Value.int .u8 0, Value.int .u8 0, Value.int .u8 0, Value.int .u8 0, Value.int .u8 0, Value.int .u8 0, Value.int .u8 0, Value.int .u8 0, Value.int .u8 0, Value.int .u8 0, Value.int .u8 0, Value.int .u8 0, Value.int .u8 0, Value.int .u8 0, Value.int .u8 0, Value.int .u8 0, Value.int .u8 0, Value.int .u8 0, Value.int .u8 0, Value.int .u8 0, Value.int .u8 0, Value.int .u8 0] = (bytesV y).toArray := Tree.fold_all _ _ (by rw [bytesV_length, hy32]; rfl)
      have hbl : (bytesV y).length = 32 := by rw [bytesV_length, hy32]
      have r5 := r4.alloc (.cells (bytesV y).toArray 30)
      have q5 := q4.alloc (.cells (bytesV y).toArray 30)
      have B5 := B4.alloc B4.size (.cells (bytesV y).toArray 30)
      have hr4 := r4.size
      refine HeldX.one 9 (by kernel_rfl) rfl (by kernel_rfl) (fun K hK => ?_)
      go_simp
      refine hK _ _ ⟨r5.cell 3 rfl, q5.cell 0 rfl, q5.cell 1 rfl, q5.cell 2 rfl⟩ ?_
      clear hK K
      have hOA : (w4.alloc (.cells (bytesV y).toArray 30)).ownsRow (w1.heap.size + 1) 30 32 v j ((pubsL X kk s j).flatMap bytesV) := by
        have h := o4
        rw [OwnH, hpl] at h
        exact h.alloc _
      obtain ⟨v', w5, hr, ho5, hg5, -⟩ := run_append_own (P := Tryd.prog) (w4.alloc (.cells (bytesV y).toArray 30)) (w1.heap.size + 1) 33 33 30 i0 (.agg (Array.replicate 32 (.int .u8 0))) 32 32 Tryd.underlying33 hin hz0 hz1 hz2 (by simp [Value.cells]) (by decide) v j _ hOA ⟨w4.heap.size, 0, none⟩ 1 1 (bytesV y) (by rw [hbl]) (World.news_of_block (World.alloc_heap_new w4 _)) (bytesV_cell y) (by unfold maxLen; omega) (by omega) (by simp; omega)
      rw [appKeyMake_fold] at hr
      obtain ⟨p', n', c', rfl⟩ : ∃ p n c, v' = .slice p n c := by
        rcases ho5.2 with ⟨h, _⟩ | ⟨g, c, cur, h, _⟩
        · exact ⟨_, _, _, h⟩
        · exact ⟨_, _, _, h⟩
      have hrow : ∀ k, v.ownBlock = some k → w1.heap.size + 1 ≤ k := fun k e => (World.ownsRow.lt hOA k e).1
      have r6 := r5.grown hg5 (fun e => by have := hrow _ e; omega)
      have q6 := q5.grown hg5 (fun e => by have := hrow _ e; omega)
      have B6 := B5.grown hg5 B5.size (fun k e => by have := hrow _ e; omega)
      have k6 := r6.cell 3 rfl
      have f6 := r6.froz 3 (by simp [ringC])
      have e6 := r6.size
      refine HeldX.last 10 (by kernel_rfl) (by kernel_rfl) rfl (by kernel_rfl) (fun K hK => ?_)
      go_simp
      refine hK _ _ ?_
      clear hK K
      refine HeldX.last 11 (by kernel_rfl) (by kernel_rfl) rfl (by kernel_rfl) (fun K hK => ?_)
      go_simp
      refine hK _ _ ?_
      clear hK K
      refine HeldX.last 12 (by kernel_rfl) (by kernel_rfl) rfl (by kernel_rfl) (fun K hK => ?_)
      go_simp
      refine hK _ _ ?_
      clear hK K
      refine HeldX.last 13 (by kernel_rfl) (by kernel_rfl) rfl (by kernel_rfl) (fun K hK => ?_)
      go_simp
      refine hK _ _ ?_
      clear hK K
      have r7 := r6.set 3 (by simp [ringC]) (.slice p' n' c')
      have q7 := q6.far (b := w1.heap.size) (by omega) 3 (.slice p' n' c')
      have B7 := B6.setCell (p := ⟨w1.heap.size, 3, none⟩) hw1 (.slice p' n' c')
      have o7 : OwnH (w1.heap.size + 1) (w5.setCell ⟨w1.heap.size, 3, none⟩ (.slice p' n' c')) (.slice p' n' c') (pubsL X kk s (j + 1)) := by
        rw [HPS.out, OwnH, List.length_append, hpl, List.flatMap_append, List.flatMap_singleton]
        refine World.ownsRow.kept ho5 (grownBy_set w5 w1.heap.size 3 (.slice p' n' c')) ?_
        by_cases h0 : (Value.slice p' n' c').ownBlock = none
        · exact .inl h0
        · right
          intro e
          have := (World.ownsRow.lt ho5 _ e).1
          omega
      refine HeldX.done (by kernel_rfl) ?_ _
      go_wp2_with fail
      go_roundw
      case rel => exact ⟨j + 1, _, by omega, by go_num, Lib.hid r7, Lib.hid o7, Lib.hid q7, Lib.hid B7⟩
      case measure => simp [intOf]; omega
    · obtain rfl : j = N := by omega
      clear hlt hj
      have hlk : (pubsL X kk s j).length = 2 ^ k := (pubsL_length X kk s j).trans HN.out
      have hle := pubsL_each X kk s j
      have hrow := OwnH.row HO.out hle (by rw [pubsL_length]; exact hN1)
      have HRT := Lib.hid (root_any X kk _ _ k HK.out hlk hle wr hrow (HT.out.below rfl HB.out))
      have hr32 := Top.rootL_length X kk k _ hlk hle
      have hpl := pubsL_length X kk s j
      have ho := HO.out
      clear HO hlk hle hrow
      generalize hPL : pubsL X kk s j = PL at *
      have HPL := Lib.hid hPL
      clear hPL
      generalize hRe : rootL X kk k PL = R at *
      have HRe := Lib.hid hRe
      clear hRe
      have k3 := HR.out.cell 3 rfl
      have l3 := HR.out.size
      go_wp2_with fail
      refine HRT.out.mono ?_
      rintro e w3 ⟨rfl, hb3⟩
      have r3 := HR.out.low hb3
      have B3 := HB.out.trans (hb3.mono HB.out.size)
      have o3 := Top.ownH_low ho hb3
      have l3' := r3.size
      have hbl : (bytesV R).length = 32 := by rw [bytesV_length, hr32]
      have HIA : Hid ((Tryd.prog.info? 30).map (·.size) = some (bytesV R).toArray.size) := by rw [List.size_toArray, hbl]; exact Lib.hid (by kernel_rfl)
      have HIR : Hid ((Tryd.prog.info? 30).map (·.size) = some (bytesV R).length) := by rw [hbl]; exact Lib.hid (by kernel_rfl)
      have HSZ : Hid ((bytesV R).toArray.size = 32) := by rw [List.size_toArray, hbl]; exact Lib.hid rfl
      have A4 := HashAt.new w3 R hr32 30
      have r4 := r3.alloc (.cells (bytesV R).toArray 30)
      have o4 := Top.ownH_low o3 ((Below.refl _ _).alloc (Nat.le_refl _) (.cells (bytesV R).toArray 30))
      have B4 := B3.alloc B3.size (.cells (bytesV R).toArray 30)
      clear hb3
      have HA4 := Lib.hid A4.at_
      have hrl : (ringC s (k : Int) next v (List.replicate 32 0)).length = 36 := rfl
      have HTH : Hid ((w3.alloc (.cells (bytesV R).toArray 30)).there w1.heap.size 4 (bytesV R).toArray.size) := by rw [HSZ.out]; exact Lib.hid (r4.partThere 4 32 (by rw [hrl]; decide))
      clear hrl
      go_wp2_with (first | (refine wpList_store_new (o := ⟨none, .store 30 (.tmp 7) (.tmp 43), _, _, _, _⟩) rfl 30 (.tmp 7) (.tmp 43) rfl _ (bytesV R).toArray ?_ ?_ HIA.out ?_ (bytesV_one _) ?_; rfl; rfl; exact (show _ = 32 from rfl).trans HSZ.out.symm) | (with_reducible refine wpList_load_mid rfl 30 _ rfl w3.heap.size 0 rfl (bytesV R) _ HA4.out Tryd.underlying30 rfl HIR.out ?_) | (with_reducible refine wpList_store_mid rfl 30 _ _ rfl w1.heap.size 4 (bytesV R).toArray rfl rfl HTH.out HIA.out (bytesV_one _) ?_))
      have r8 := Blk.tail (a := [.string ⟨s.toArray⟩, .int .i64 (k : Int), .int .i64 next, v]) (b := bytesV (List.replicate 32 0)) r4 (bytesV R) (by rw [hbl]; rfl)
      refine bodyPost_ret (v := .tuple #[.pointer (some ⟨w1.heap.size, 0, none⟩), .int .i64 0]) (by simp [results, Tryd.f51, go_sem]) rfl ⟨w1.heap.size, v, rfl, hw1, by rw [HPL.out, HRe.out]; exact r8, ?_, Sha.below_setCells hw1 _ _ _ B4⟩
      rw [HPL.out]
      have hg := bag_sets w1.heap.size (bytesV R) 4 (w3.alloc (.cells (bytesV R).toArray 30)) _ ⟨rfl, rfl, rfl, Nat.le_refl _, fun _ _ _ => rfl⟩
      refine World.ownsRow.mono (World.ownsRow.kept o4 hg ?_) (by omega)
      by_cases h0 : v.ownBlock = none
      · exact .inl h0
      · right
        intro e
        have := (World.ownsRow.lt o4 _ e).1
        omega
end Key
end Go.Proofs.YtbgjoefpnjgdkaaDoor
