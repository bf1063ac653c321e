/- cmp.Compare at kinds and texts, cmp.Or, state.order. -/
import Derived.Test.YtbgjoefpnjgdkaaDoorLeftPlain
import Derived.Test.YtbgjoefpnjgdkaaDoorBlk
import Derived.Test.YtbgjoefpnjgdkaaDoorHeldOut
import Derived.Laws.Cover1
namespace Go.Proofs.YtbgjoefpnjgdkaaDoor
open Go.RowKit
set_option linter.unusedVariables false
set_option linter.unusedSimpArgs false
set_option maxRecDepth 100000
namespace Left
theorem isnan_k (a : Nat) (w : World) : Calls Tryd.prog 154 #[.int .u8 (a : Int)] w fun e w' => e = .returned (.bool false) ∧ w' = w := by
  go_enter Tryd.func154, Tryd.ntmps154
  go_wp2_with fail
  go_ret
  exact ⟨by simp, rfl⟩
theorem isnan_s (a : List UInt8) (w : World) : Calls Tryd.prog 155 #[.string ⟨a.toArray⟩] w fun e w' => e = .returned (.bool false) ∧ w' = w := by
  go_enter Tryd.func155, Tryd.ntmps155
  go_wp2_with fail
  go_ret
  exact ⟨by simp, rfl⟩
theorem compare_k (a b : Nat) (w : World) : Calls Tryd.prog 127 #[.int .u8 (a : Int), .int .u8 (b : Int)] w fun e w' => e = .returned (.int .i64 (cmpK a b)) ∧ w' = w := by
  have H1 : Hid (cmpK a b = if a < b then -1 else if b < a then 1 else 0) := Lib.hid rfl
  rcases Nat.lt_trichotomy a b with h | h | h
  · have HR := Lib.hid (show cmpK a b = -1 by rw [H1.out, if_pos h])
    have i1 : (a : Int) < (b : Int) := by omega
    clear h H1
    go_enter Tryd.func127, Tryd.ntmps127
    go_wp2_with (go_at_call 154; refine (isnan_k _ _).mono ?_; rintro e w' ⟨rfl, rfl⟩)
    go_ret
    exact ⟨by rw [HR.out]; rfl, rfl⟩
  · have HR := Lib.hid (show cmpK a b = 0 by rw [H1.out, if_neg (by omega), if_neg (by omega)])
    clear H1
    subst h
    go_enter Tryd.func127, Tryd.ntmps127
    go_wp2_with (go_at_call 154; refine (isnan_k _ _).mono ?_; rintro e w' ⟨rfl, rfl⟩)
    go_ret
    exact ⟨by rw [HR.out]; rfl, rfl⟩
  · have HR := Lib.hid (show cmpK a b = 1 by rw [H1.out, if_neg (by omega), if_pos h])
    have i1 : ¬ (a : Int) < (b : Int) := by omega
    have i2 : (b : Int) < (a : Int) := by omega
    clear h H1
    go_enter Tryd.func127, Tryd.ntmps127
    go_wp2_with (go_at_call 154; refine (isnan_k _ _).mono ?_; rintro e w' ⟨rfl, rfl⟩)
    go_ret
    exact ⟨by rw [HR.out]; rfl, rfl⟩
theorem ba_loop (l : List UInt8) : ∀ (k : Nat) (i : Nat) (r : List UInt8), i + k = l.length → ByteArray.toList.loop ⟨l.toArray⟩ i r = r.reverse ++ l.drop i
  | 0, i, r, h => by
    rw [ByteArray.toList.loop, if_neg (by simp [ByteArray.size]; omega), List.drop_eq_nil_of_le (by omega), List.append_nil]
  | k + 1, i, r, h => by
    rw [ByteArray.toList.loop, if_pos (by simp [ByteArray.size]; omega), ba_loop l k (i + 1) _ (by omega), List.reverse_cons, List.append_assoc, List.drop_eq_getElem_cons (show i < l.length by omega)]
    have e : (ByteArray.mk l.toArray).get! i = l[i]'(by omega) := by
      simp [ByteArray.get!, getElem!_def, List.getElem?_eq_getElem (show i < l.length by omega)]
    rw [e]; rfl
theorem ba_toList (l : List UInt8) : (ByteArray.mk l.toArray).toList = l := by
  unfold ByteArray.toList
  rw [ba_loop l l.length 0 [] (by omega)]; rfl
theorem less_irrefl : ∀ a : List UInt8, Op.bytesLess a a = false
  | [] => rfl
  | a :: r => by simp [Op.bytesLess, less_irrefl r]
theorem compare_s (a b : List UInt8) (w : World) : Calls Tryd.prog 128 #[.string ⟨a.toArray⟩, .string ⟨b.toArray⟩] w fun e w' => e = .returned (.int .i64 (cmpS a b)) ∧ w' = w := by
  have H1 : Hid (cmpS a b = if Op.bytesLess a b = true then -1 else if a = b then 0 else 1) := Lib.hid rfl
  have ta := ba_toList a
  have tb := ba_toList b
  by_cases h : Op.bytesLess a b = true
  · have HR := Lib.hid (show cmpS a b = -1 by rw [H1.out, if_pos h])
    clear H1
    go_enter Tryd.func128, Tryd.ntmps128
    go_wp2_with (go_at_call 155; refine (isnan_s _ _).mono ?_; rintro e w' ⟨rfl, rfl⟩)
    go_ret
    exact ⟨by rw [HR.out]; rfl, rfl⟩
  · have hf : Op.bytesLess a b = false := by simpa using h
    by_cases h2 : a = b
    · have HR := Lib.hid (show cmpS a b = 0 by rw [H1.out, if_neg h, if_pos h2])
      clear H1 h
      subst h2
      have hq : (a == a) = true := by simp
      go_enter Tryd.func128, Tryd.ntmps128
      go_wp2_with (go_at_call 155; refine (isnan_s _ _).mono ?_; rintro e w' ⟨rfl, rfl⟩)
      go_ret
      exact ⟨by rw [HR.out]; rfl, rfl⟩
    · have HR := Lib.hid (show cmpS a b = 1 by rw [H1.out, if_neg h, if_neg h2])
      have hq : (a == b) = false := by simpa using h2
      clear H1 h h2
      go_enter Tryd.func128, Tryd.ntmps128
      go_wp2_with (go_at_call 155; refine (isnan_s _ _).mono ?_; rintro e w' ⟨rfl, rfl⟩)
      go_ret
      exact ⟨by rw [HR.out]; rfl, rfl⟩
theorem or_any (c1 c2 : Int) (g : Nat) (w : World) (h0 : w.cell? ⟨g, 0, none⟩ = some (.int .i64 c1)) (h1 : w.cell? ⟨g, 1, none⟩ = some (.int .i64 c2)) :
    Calls Tryd.prog 101 #[.slice (some ⟨g, 0, none⟩) 2 2] w fun e w' => e = .returned (.int .i64 (if c1 ≠ 0 then c1 else c2)) ∧ w' = w := by
  by_cases k1 : c1 = 0
  · subst k1
    rw [if_neg (by simp)]
    by_cases k2 : c2 = 0
    · subst k2
      go_enter Tryd.func101, Tryd.ntmps101
      go_wp2_with fail
      go_loop [8] (fun i => i = .int .i64 0 ∨ i = .int .i64 1 ∨ i = .int .i64 2) (fun i => 2 - (intOf i).toNat)
      case atStart => exact .inl rfl
      case round =>
        rcases hrel with rfl | rfl | rfl
        · go_wp2_with fail
          go_round
          case rel => exact .inr (.inl rfl)
          case measure => decide
        · go_wp2_with fail
          go_round
          case rel => exact .inr (.inr rfl)
          case measure => decide
        · go_wp2_with fail
          go_ret
          exact ⟨rfl, rfl⟩
    · have kd : (c2 == 0) = false := by simpa using k2
      go_enter Tryd.func101, Tryd.ntmps101
      go_wp2_with fail
      go_loop [8] (fun i => i = .int .i64 0 ∨ i = .int .i64 1) (fun i => 2 - (intOf i).toNat)
      case atStart => exact .inl rfl
      case round =>
        rcases hrel with rfl | rfl
        · go_wp2_with fail
          go_round
          case rel => exact .inr rfl
          case measure => decide
        · go_wp2_with fail
          go_ret
          exact ⟨rfl, rfl⟩
  · rw [if_pos k1]
    have kd : (c1 == 0) = false := by simpa using k1
    go_enter Tryd.func101, Tryd.ntmps101
    go_wp2_with fail
    go_loop [8] (fun i => i = .int .i64 0) (fun i => 2 - (intOf i).toNat)
    case atStart => rfl
    case round =>
      subst hrel
      go_wp2_with fail
      go_ret
      exact ⟨rfl, rfl⟩

theorem or_some (c1 c2 c3 : Int) (g : Nat) (w : World) (h : (if c1 ≠ 0 then c1 else c2) = c3) (h0 : w.cell? ⟨g, 0, none⟩ = some (.int .i64 c1)) (h1 : w.cell? ⟨g, 1, none⟩ = some (.int .i64 c2)) :
    Calls Tryd.prog 101 #[.slice (some ⟨g, 0, none⟩) 2 2] w fun e w' => e = .returned (.int .i64 c3) ∧ w' = w := h ▸ or_any c1 c2 g w h0 h1

def ordK (ka : Nat) (a : List UInt8) (kb : Nat) (b : List UInt8) : Int := if cmpK ka kb ≠ 0 then cmpK ka kb else cmpS a b
theorem ordI_ordK (e f : Named.Ev) : ordI e f = ordK e.kind e.key f.kind f.key := rfl
set_option maxHeartbeats 4000000 in
theorem order_any (ka kb : Nat) (a b : List UInt8) (x2 x3 x4 x5 x6 x7 y2 y3 y4 y5 y6 y7 : Value) (w : World) :
    Calls Tryd.prog 87 #[.agg #[.int .u8 (ka : Int), .string ⟨a.toArray⟩, x2, x3, x4, x5, x6, x7], .agg #[.int .u8 (kb : Int), .string ⟨b.toArray⟩, y2, y3, y4, y5, y6, y7]] w fun e w' => e = .returned (.int .i64 (ordK ka a kb b)) ∧ Below w.heap.size w w' := by
  have HR : Hid (ordK ka a kb b = if cmpK ka kb ≠ 0 then cmpK ka kb else cmpS a b) := Lib.hid rfl
  have HK := Lib.hid (fun w => compare_k ka kb w)
  have HS := Lib.hid (fun w => compare_s a b w)
  generalize cmpK ka kb = c1 at *
  generalize cmpS a b = c2 at *
  generalize ordK ka a kb b = c3 at *
  have A0 := (Blk.new w #[.int .u8 (ka : Int), .string ⟨a.toArray⟩, x2, x3, x4, x5, x6, x7] 91).alloc (.cells #[.int .u8 (kb : Int), .string ⟨b.toArray⟩, y2, y3, y4, y5, y6, y7] 91)
  have A1 := Blk.new (w.alloc (.cells #[.int .u8 (ka : Int), .string ⟨a.toArray⟩, x2, x3, x4, x5, x6, x7] 91)) #[.int .u8 (kb : Int), .string ⟨b.toArray⟩, y2, y3, y4, y5, y6, y7] 91
  have B := ((Below.refl w.heap.size w).alloc (Nat.le_refl _) (.cells #[.int .u8 (ka : Int), .string ⟨a.toArray⟩, x2, x3, x4, x5, x6, x7] 91)).alloc (by simp) (.cells #[.int .u8 (kb : Int), .string ⟨b.toArray⟩, y2, y3, y4, y5, y6, y7] 91)
  simp only [World.size_alloc] at A1
  go_enter Tryd.func87, Tryd.ntmps87
  go_wp2_with fail
  generalize (w.alloc (.cells #[.int .u8 (ka : Int), .string ⟨a.toArray⟩, x2, x3, x4, x5, x6, x7] 91)).alloc (.cells #[.int .u8 (kb : Int), .string ⟨b.toArray⟩, y2, y3, y4, y5, y6, y7] 91) = w1 at *
  have hmo : Tryd.prog.follows .mixedOrders = true := by kernel_rfl
  have A0 := A0.drew
  have A1 := A1.drew
  have B := B.drew
  have S0 : (fun w' => w'.cell? ⟨w.heap.size, 0, none⟩ = some (.int .u8 (ka : Int)) ∧ w'.cell? ⟨w.heap.size, 1, none⟩ = some (.string ⟨a.toArray⟩) ∧ w'.cell? ⟨w.heap.size + 1, 0, none⟩ = some (.int .u8 (kb : Int)) ∧ w'.cell? ⟨w.heap.size + 1, 1, none⟩ = some (.string ⟨b.toArray⟩)) w1.drew := ⟨A0.cell 0 rfl, A0.cell 1 rfl, A1.cell 0 rfl, A1.cell 1 rfl⟩
  refine wp_region_heldX (fun w' => w'.cell? ⟨w.heap.size, 0, none⟩ = some (.int .u8 (ka : Int)) ∧ w'.cell? ⟨w.heap.size, 1, none⟩ = some (.string ⟨a.toArray⟩) ∧ w'.cell? ⟨w.heap.size + 1, 0, none⟩ = some (.int .u8 (kb : Int)) ∧ w'.cell? ⟨w.heap.size + 1, 1, none⟩ = some (.string ⟨b.toArray⟩)) [] hmo ?_
  generalize w1.drew = wd at *
  refine HeldX.move 0 (v := .pointer (some ⟨w.heap.size, 0, none⟩)) rfl (by kernel_rfl) (by kernel_rfl) (by kernel_rfl) (by kernel_rfl) (fun _ _ _ h => h) S0 (.inl ⟨by kernel_rfl, fun w h => by go_simp⟩) ?_
  go_simp
  refine HeldX.take 1 (v := .int .u8 (ka : Int)) rfl (by kernel_rfl) (by kernel_rfl) (by kernel_rfl) (by kernel_rfl) (fun _ _ _ h => h) S0 (.inl ⟨by kernel_rfl, fun w h => by have h1 := h.1; go_simp⟩) ?_
  go_simp
  refine HeldX.move 2 (v := .pointer (some ⟨w.heap.size + 1, 0, none⟩)) rfl (by kernel_rfl) (by kernel_rfl) (by kernel_rfl) (by kernel_rfl) (fun _ _ _ h => h) S0 (.inl ⟨by kernel_rfl, fun w h => by go_simp⟩) ?_
  go_simp
  refine HeldX.take 3 (v := .int .u8 (kb : Int)) rfl (by kernel_rfl) (by kernel_rfl) (by kernel_rfl) (by kernel_rfl) (fun _ _ _ h => h) S0 (.inl ⟨by kernel_rfl, fun w h => by have h1 := h.2.2.1; go_simp⟩) ?_
  go_simp
  refine HeldX.move 5 (v := .pointer (some ⟨w.heap.size, 1, none⟩)) rfl (by kernel_rfl) (by kernel_rfl) (by kernel_rfl) (by kernel_rfl) (fun _ _ _ h => h) S0 (.inl ⟨by kernel_rfl, fun w h => by go_simp⟩) ?_
  go_simp
  refine HeldX.take 6 (v := .string ⟨a.toArray⟩) rfl (by kernel_rfl) (by kernel_rfl) (by kernel_rfl) (by kernel_rfl) (fun _ _ _ h => h) S0 (.inl ⟨by kernel_rfl, fun w h => by have h1 := h.2.1; go_simp⟩) ?_
  go_simp
  refine HeldX.move 7 (v := .pointer (some ⟨w.heap.size + 1, 1, none⟩)) rfl (by kernel_rfl) (by kernel_rfl) (by kernel_rfl) (by kernel_rfl) (fun _ _ _ h => h) S0 (.inl ⟨by kernel_rfl, fun w h => by go_simp⟩) ?_
  go_simp
  refine HeldX.take 8 (v := .string ⟨b.toArray⟩) rfl (by kernel_rfl) (by kernel_rfl) (by kernel_rfl) (by kernel_rfl) (fun _ _ _ h => h) S0 (.inl ⟨by kernel_rfl, fun w h => by have h1 := h.2.2.2; go_simp⟩) ?_
  go_simp
  refine HeldX.one 4 (by kernel_rfl) rfl (by kernel_rfl) (fun K hK => ?_)
  go_simp
  refine (HK.out _).mono ?_
  rintro e w2 ⟨rfl, rfl⟩
  refine hK _ _ S0 ?_
  clear hK K
  refine HeldX.one 9 (by kernel_rfl) rfl (by kernel_rfl) (fun K hK => ?_)
  go_simp
  refine (HS.out _).mono ?_
  rintro e w3 ⟨rfl, rfl⟩
  refine hK _ _ S0 ?_
  clear hK K
  refine HeldX.one 10 (by kernel_rfl) rfl (by kernel_rfl) (fun K hK => ?_)
  go_simp
  have A2 := Blk.new w3 #[.int .i64 c1, .int .i64 c2] 3
  have B2 := B.alloc B.size (.cells #[.int .i64 c1, .int .i64 c2] 3)
  have A0 := A0.alloc (.cells #[.int .i64 c1, .int .i64 c2] 3)
  have A1 := A1.alloc (.cells #[.int .i64 c1, .int .i64 c2] 3)
  have S0 : (fun w' => w'.cell? ⟨w.heap.size, 0, none⟩ = some (.int .u8 (ka : Int)) ∧ w'.cell? ⟨w.heap.size, 1, none⟩ = some (.string ⟨a.toArray⟩) ∧ w'.cell? ⟨w.heap.size + 1, 0, none⟩ = some (.int .u8 (kb : Int)) ∧ w'.cell? ⟨w.heap.size + 1, 1, none⟩ = some (.string ⟨b.toArray⟩)) (w3.alloc (.cells #[.int .i64 c1, .int .i64 c2] 3)) := ⟨A0.cell 0 rfl, A0.cell 1 rfl, A1.cell 0 rfl, A1.cell 1 rfl⟩
  refine hK _ _ S0 ?_
  clear hK K
  generalize w3.alloc (.cells #[.int .i64 c1, .int .i64 c2] 3) = w4 at *
  refine HeldX.one 11 (by kernel_rfl) rfl (by kernel_rfl) (fun K hK => ?_)
  go_simp
  refine (or_some c1 c2 c3 _ _ HR.out.symm (A2.cell 0 rfl) (A2.cell 1 rfl)).mono ?_
  rintro e w5 ⟨rfl, rfl⟩
  refine hK _ _ S0 ?_
  clear hK K
  refine HeldX.one 12 (by kernel_rfl) rfl (by kernel_rfl) (fun K hK => ?_)
  go_simp
  refine hK _ _ S0 ?_
  clear hK K
  refine HeldX.done (by kernel_rfl) ?_ _
  go_wp2_with fail
  go_ret
  exact ⟨rfl, B2⟩
end Left
end Go.Proofs.YtbgjoefpnjgdkaaDoor
