/- The law TopAbove, by the contracts of what it calls. -/
import Derived.Test.YtbgjoefpnjgdkaaDoorAboveParse
import Derived.Test.YtbgjoefpnjgdkaaDoorAboveLaw
import Derived.Test.YtbgjoefpnjgdkaaDoorAboveMember
import Derived.Test.YtbgjoefpnjgdkaaDoorTopBegins
namespace Go.Proofs.YtbgjoefpnjgdkaaDoor
open Go.RowKit
set_option linter.unusedVariables false
set_option linter.unusedSimpArgs false
set_option maxRecDepth 100000
namespace Above
open Named Oct
theorem strAt {w : World} {p : Option Addr} {n cap : Nat} {ls : List (List UInt8)} (h : StrRow w (.slice p n cap) ls) {j : Nat} (hj : j < ls.length) : ∃ b o, p = some ⟨b, o, none⟩ ∧ b < w.heap.size ∧ w.cell? ⟨b, o + j, none⟩ = some (.string ⟨(ls[j]).toArray⟩) := by
  rcases h with ⟨p', cap', h1, rfl⟩ | ⟨b, o, cap', h1, h2, h3⟩
  · exact absurd hj (Nat.not_lt_zero _)
  · injection h1 with e1 e2 e3
    exact ⟨b, o, e1, h2, h3 j hj⟩
theorem LRow.far {w w' : World} {g : Nat} {v : Value} {ts : List (List UInt8 × Int)} {n : Int} (h : LRow w v ts) (G : w.grownBy w' (some g)) (hc : w.cell? ⟨g, 0, none⟩ = some (.int .i64 n)) : LRow w' v ts := by
  rcases h with h | ⟨b, cap, h1, h2, h3⟩
  · exact .inl h
  · refine .inr ⟨b, cap, h1, Nat.lt_of_lt_of_le h2 G.size, fun j hj => ?_⟩
    have hne : (some b : Option Nat) ≠ some g := by
      intro e
      injection e with e
      subst e
      have h0 := (h3 0 (by omega)).1
      rw [Nat.zero_mul, hc] at h0
      cases h0
    have hbl := G.block b h2 hne
    exact ⟨(World.cell?_of_block (a := ⟨b, j * 2, none⟩) hbl).trans (h3 j hj).1, (World.cell?_of_block (a := ⟨b, j * 2 + 1, none⟩) hbl).trans (h3 j hj).2⟩
set_option maxHeartbeats 32000000 in
theorem above_walk (s : ByteArray) (hs : s.size ≤ 1048576) (vb vu : Value) (bs xs : List (List UInt8)) (a b : List UInt8) (w : World) (hb : StrRow w vb bs) (hx : StrRow w vu xs) (hbl : bs.length ≤ 9223372036854775807) (hxl : xs.length ≤ 9223372036854775807) (hP : VarsP w)
    (HCH : Hid (∀ (n0 n1 n2 n3 n4 n5 m0 m1 m2 m3 m4 m5 : Int) (va vb : Value) (us ts : List (List UInt8 × Int)) (x : List UInt8) (w : World), LRow w va us → LRow w vb ts → us.length ≤ 1048577 → ts.length ≤ 1048577 → (∀ u ∈ us, u.1.length ≤ 1048576) → (∀ u ∈ ts, u.1.length ≤ 1048576) → Vars w →
      Calls Tryd.prog 30 #[levV n0 n1 n2 n3 n4 n5 va, levV m0 m1 m2 m3 m4 m5 vb, .string ⟨x.toArray⟩] w fun e w' => (∃ c : Int, e = .returned (.int .i64 c) ∧ (c = 0 → (n0 = m0 ∨ m0 ≤ ofL n0 us x) ∧ ∀ y ∈ changedL us ts, ofL m0 ts y ≤ ofL n0 us x)) ∧ Below w.heap.size w w')) :
    Calls Tryd.prog 7 #[.string s, vb, vu, .string ⟨a.toArray⟩, .string ⟨b.toArray⟩] w fun e w' => e = .returned (.bool true) ∧ Below w.heap.size w w' := by
  obtain ⟨pb, cb, rfl⟩ := StrRow.form hb
  obtain ⟨px, cx, rfl⟩ := StrRow.form hx
  have HSB := Lib.hid hb
  have HSX := Lib.hid hx
  have HP := Lib.hid hP
  have hbi : (bs.length : Int) ≤ 9223372036854775807 := by omega
  have hxi : (xs.length : Int) ≤ 9223372036854775807 := by omega
  clear hb hx hP
  go_enter Tryd.func7, Tryd.ntmps7
  go_wp2_with fail
  refine (Top.begins_any _).mono ?_
  rintro e w1 ⟨rfl, B1⟩
  go_wp2_with fail
  refine (lparse_any s hs w1 (HP.out.low B1)).mono ?_
  rintro e w2 ⟨hres, hb2⟩
  have B2 := B1.trans (hb2.mono B1.size)
  clear hb2 B1
  rcases hres with ⟨n0, n1, n2, n3, n4, n5, v, us, rfl, hu, hul, huu⟩ | rfl
  · obtain ⟨pu, cu, rfl⟩ := hu.form
    unfold levV
    have X := Blk.new w2 #[.int .i64 n0, .int .i64 n1, .int .i64 n2, .int .i64 n3, .int .i64 n4, .int .i64 n5, .slice pu us.length cu] 72
    have hba := (Below.refl w2.heap.size w2).alloc (Nat.le_refl _) (.cells #[.int .i64 n0, .int .i64 n1, .int .i64 n2, .int .i64 n3, .int .i64 n4, .int .i64 n5, .slice pu us.length cu] 72)
    have B3 := B2.trans (hba.mono B2.size)
    have HU0 := Lib.hid (hu.low hba)
    have HSU := Lib.hid huu
    have hg1 := B2.size
    have hui : (us.length : Int) ≤ 1048577 := by omega
    clear hu huu hba
    by_cases hlong : (4096 : Int) < (s.size : Int)
    · go_wp2_with fail
      go_ret
      exact ⟨rfl, B3⟩
    · by_cases hmany : (20 : Int) < (bs.length : Int)
      · go_wp2_with fail
        go_ret
        exact ⟨rfl, B3⟩
      · go_wp2_with fail
        generalize w2.alloc (.cells #[.int .i64 n0, .int .i64 n1, .int .i64 n2, .int .i64 n3, .int .i64 n4, .int .i64 n5, .slice pu us.length cu] 72) = w3 at *
        generalize w2.heap.size = g1 at *
        have HX0 := Lib.hid X
        have HB0 := Lib.hid B3
        clear X B2 B3
        go_loopw [13, 60] (fun q i wr => ∃ (j : Nat) (mo : Int), j ≤ us.length ∧ i = .int .i64 (j : Int) ∧ q = .int .i64 mo ∧ n0 ≤ mo ∧ Hid (∀ k (hk : k < us.length), k < j → (us[k]).2 ≤ mo) ∧ Hid (Blk wr g1 [.int .i64 n0, .int .i64 n1, .int .i64 n2, .int .i64 n3, .int .i64 n4, .int .i64 n5, .slice pu us.length cu]) ∧ Hid (LRow wr (.slice pu us.length cu) us) ∧ Hid (Below w.heap.size w wr)) (fun _ i _ => us.length - (intOf i).toNat)
        case atStart => exact ⟨0, n0, by omega, rfl, rfl, Int.le_refl _, Lib.hid (fun k hk h => absurd h (by omega)), HX0, HU0, HB0⟩
        case round =>
          obtain ⟨j, mo, hj, rfl, rfl, hmo0, HMX, HX, HU, HB⟩ := hrel
          by_cases hlt : j < us.length
          · obtain ⟨bk, rfl, -, hbl2, hc0, hc1⟩ := HU.out.at hlt
            have hji : (j : Int) < (us.length : Int) := by omega
            have hgj : Hid (∀ k (hk : k < us.length), k < j + 1 → (us[k]).2 ≤ max mo (us[j]).2) := Lib.hid (fun k hk h => by
              by_cases hkj : k = j
              · subst hkj; omega
              · have := HMX.out k hk (by omega); omega)
            generalize us[j] = u at *
            obtain ⟨ux, un⟩ := u
            dsimp only at hc0 hc1 hgj
            have hba := (Below.refl wr.heap.size wr).alloc (Nat.le_refl _) (.cells #[.string ⟨ux.toArray⟩, .int .i64 un] 76)
            have HX2 := Lib.hid (HX.out.low hba)
            have HU2 := Lib.hid (HU.out.low hba)
            have HB2 := Lib.hid (HB.out.trans (hba.mono HB.out.size))
            clear hba
            go_wp2_with fail
            go_roundw
            case rel => exact ⟨j + 1, max mo un, by omega, by go_num, by first | rfl | (simp; done), by omega, hgj, HX2, HU2, HB2⟩
            case measure => simp [intOf]; omega
          · obtain rfl : j = us.length := by omega
            have HMO := Lib.hid (fun y => ofL_le hmo0 (fun u hu => by obtain ⟨k, hk, rfl⟩ := List.mem_iff_getElem.1 hu; exact HMX.out k hk hk) y)
            clear hlt hj HMX
            go_wp2_with fail
            go_loopw [71] (fun i wr => ∃ (j : Nat) (n0 n1 n2 n3 n4 n5 : Int) (pu : Option Addr) (cu : Nat) (us : List (List UInt8 × Int)), j ≤ bs.length ∧ i = .int .i64 (j : Int) ∧ us.length ≤ 1048577 ∧ n0 ≤ mo ∧ Hid (∀ u ∈ us, u.1.length ≤ 1048576) ∧ Hid (∀ y, ofL n0 us y ≤ mo) ∧ Hid (Blk wr g1 [.int .i64 n0, .int .i64 n1, .int .i64 n2, .int .i64 n3, .int .i64 n4, .int .i64 n5, .slice pu us.length cu]) ∧ Hid (LRow wr (.slice pu us.length cu) us) ∧ Hid (Below w.heap.size w wr)) (fun i _ => bs.length - (intOf i).toNat)
            case atStart => exact ⟨0, n0, n1, n2, n3, n4, n5, pu, cu, us, by omega, rfl, hul, hmo0, HSU, HMO, HX, HU, HB⟩
            case round =>
              clear HX HU HB HMO HSU hmo0 HX0 HU0 HB0 hui hul
              obtain ⟨j, n0, n1, n2, n3, n4, n5, pu, cu, us, hj, rfl, hul, hmo0, HSU, HMO, HX, HU, HB⟩ := hrel
              by_cases hlt : j < bs.length
              · obtain ⟨b2, o2, rfl, hb2l, hc2⟩ := strAt HSB.out hlt
                have hji : (j : Int) < (bs.length : Int) := by omega
                have ct := (HB.out.cell (p := ⟨b2, o2 + j, none⟩) hb2l).trans hc2
                clear hc2
                generalize bs[j] = tx at *
                have htz : (ByteArray.mk tx.toArray).size = tx.length := by simp [ByteArray.size]
                by_cases hxj : j < xs.length
                · have hxji : (j : Int) < (xs.length : Int) := by omega
                  by_cases htl4 : (4096 : Int) < (tx.length : Int)
                  · have hfz := hji
                    have hmo : Tryd.prog.follows .mixedOrders = true := by kernel_rfl
                    have HQ := Lib.hid (fun y w' (hb : Below wr.heap.size wr w') => ofL_any n0 n1 n2 n3 n4 n5 (.slice pu us.length cu) us y w' (HU.out.low hb) hul)
                    have hpa := HMO.out a
                    have hpb := HMO.out b
                    unfold levV at HQ
                    have HQA := Lib.hid (fun w' hb => HQ.out a w' hb)
                    have HQB := Lib.hid (fun w' hb => HQ.out b w' hb)
                    clear HQ HMO
                    generalize ofL n0 us a = pa at *
                    generalize ofL n0 us b = pb at *
                    have B0 := Below.refl wr.heap.size wr
                    have X := HX.out
                    have WB := HB.out
                    have x0 := X.cell 0 rfl
                    have x1 := X.cell 1 rfl
                    have x2 := X.cell 2 rfl
                    have x3 := X.cell 3 rfl
                    have x4 := X.cell 4 rfl
                    have x5 := X.cell 5 rfl
                    have x6 := X.cell 6 rfl
                    have zx := X.size
                    go_wp2_with fail
                    refine (HQA.out _ B0).mono ?_
                    rintro e z1 ⟨rfl, hbz⟩
                    have X := X.low hbz
                    have B0 := B0.trans (hbz.mono B0.size)
                    clear hbz
                    clear x0 x1 x2 x3 x4 x5 x6
                    have x0 := X.cell 0 rfl
                    have x1 := X.cell 1 rfl
                    have x2 := X.cell 2 rfl
                    have x3 := X.cell 3 rfl
                    have x4 := X.cell 4 rfl
                    have x5 := X.cell 5 rfl
                    have x6 := X.cell 6 rfl
                    go_wp2_with fail
                    refine (HQB.out _ B0).mono ?_
                    rintro e z2 ⟨rfl, hbz⟩
                    have X := X.low hbz
                    have B0 := B0.trans (hbz.mono B0.size)
                    clear hbz
                    clear x0 x1 x2 x3 x4 x5 x6
                    have x0 := X.cell 0 rfl
                    have x1 := X.cell 1 rfl
                    have x2 := X.cell 2 rfl
                    have x3 := X.cell 3 rfl
                    have x4 := X.cell 4 rfl
                    have x5 := X.cell 5 rfl
                    have x6 := X.cell 6 rfl
                    go_wp2_with fail
                    refine (HQA.out _ B0).mono ?_
                    rintro e z3 ⟨rfl, hbz⟩
                    have X := X.low hbz
                    have B0 := B0.trans (hbz.mono B0.size)
                    clear hbz
                    clear x0 x1 x2 x3 x4 x5 x6
                    go_wp2_with fail
                    have X := X.drew
                    have B0 := B0.drew
                    have S4 : (fun w' => w'.cell? ⟨g1, 0, none⟩ = some (.int .i64 n0) ∧ w'.cell? ⟨g1, 1, none⟩ = some (.int .i64 n1) ∧ w'.cell? ⟨g1, 2, none⟩ = some (.int .i64 n2) ∧ w'.cell? ⟨g1, 3, none⟩ = some (.int .i64 n3) ∧ w'.cell? ⟨g1, 4, none⟩ = some (.int .i64 n4) ∧ w'.cell? ⟨g1, 5, none⟩ = some (.int .i64 n5) ∧ w'.cell? ⟨g1, 6, none⟩ = some (.slice pu us.length cu)) z3.drew := ⟨X.cell 0 rfl, X.cell 1 rfl, X.cell 2 rfl, X.cell 3 rfl, X.cell 4 rfl, X.cell 5 rfl, X.cell 6 rfl⟩
                    refine wp_region_heldX (fun w' => w'.cell? ⟨g1, 0, none⟩ = some (.int .i64 n0) ∧ w'.cell? ⟨g1, 1, none⟩ = some (.int .i64 n1) ∧ w'.cell? ⟨g1, 2, none⟩ = some (.int .i64 n2) ∧ w'.cell? ⟨g1, 3, none⟩ = some (.int .i64 n3) ∧ w'.cell? ⟨g1, 4, none⟩ = some (.int .i64 n4) ∧ w'.cell? ⟨g1, 5, none⟩ = some (.int .i64 n5) ∧ w'.cell? ⟨g1, 6, none⟩ = some (.slice pu us.length cu)) [] hmo ?_
                    generalize z3.drew = zd at *
                    refine HeldX.move 0 (v := .int .i64 pa) rfl (by kernel_rfl) (by kernel_rfl) (by kernel_rfl) (by kernel_rfl) (fun _ _ _ h => h) S4 (.inl ⟨by kernel_rfl, fun w h => by go_simp⟩) ?_
                    go_simp
                    refine HeldX.move 1 (v := .pointer (some ⟨g1, 4, none⟩)) rfl (by kernel_rfl) (by kernel_rfl) (by kernel_rfl) (by kernel_rfl) (fun _ _ _ h => h) S4 (.inl ⟨by kernel_rfl, fun w h => by go_simp⟩) ?_
                    go_simp
                    refine HeldX.take 2 (v := .int .i64 n4) rfl (by kernel_rfl) (by kernel_rfl) (by kernel_rfl) (by kernel_rfl) (fun _ _ _ h => h) S4 (.inl ⟨by kernel_rfl, fun w h => by have h4 := h.2.2.2.2.1; go_simp⟩) ?_
                    go_simp
                    refine HeldX.move 3 (v := .bool (decide (n4 ≤ pa))) rfl (by kernel_rfl) (by kernel_rfl) (by kernel_rfl) (by kernel_rfl) (fun _ _ _ h => h) S4 (.inl ⟨by kernel_rfl, fun w h => by go_simp⟩) ?_
                    go_simp
                    refine HeldX.move 4 (v := .int .i64 pa) rfl (by kernel_rfl) (by kernel_rfl) (by kernel_rfl) (by kernel_rfl) (fun _ _ _ h => h) S4 (.inl ⟨by kernel_rfl, fun w h => by go_simp⟩) ?_
                    go_simp
                    refine HeldX.move 5 (v := .pointer (some ⟨g1, 3, none⟩)) rfl (by kernel_rfl) (by kernel_rfl) (by kernel_rfl) (by kernel_rfl) (fun _ _ _ h => h) S4 (.inl ⟨by kernel_rfl, fun w h => by go_simp⟩) ?_
                    go_simp
                    refine HeldX.take 6 (v := .int .i64 n3) rfl (by kernel_rfl) (by kernel_rfl) (by kernel_rfl) (by kernel_rfl) (fun _ _ _ h => h) S4 (.inl ⟨by kernel_rfl, fun w h => by have h3 := h.2.2.2.1; go_simp⟩) ?_
                    go_simp
                    refine HeldX.move 7 (v := .bool (decide (n3 ≤ pa))) rfl (by kernel_rfl) (by kernel_rfl) (by kernel_rfl) (by kernel_rfl) (fun _ _ _ h => h) S4 (.inl ⟨by kernel_rfl, fun w h => by go_simp⟩) ?_
                    go_simp
                    refine HeldX.move 8 (v := .int .i64 pa) rfl (by kernel_rfl) (by kernel_rfl) (by kernel_rfl) (by kernel_rfl) (fun _ _ _ h => h) S4 (.inl ⟨by kernel_rfl, fun w h => by go_simp⟩) ?_
                    go_simp
                    refine HeldX.take 9 (v := .agg #[.int .i64 n0, .int .i64 n1, .int .i64 n2, .int .i64 n3, .int .i64 n4, .int .i64 n5, .slice pu us.length cu]) rfl (by kernel_rfl) (by kernel_rfl) (by kernel_rfl) (by kernel_rfl) (fun _ _ _ h => h) S4 (.inl ⟨by kernel_rfl, fun w h => by have h0 := h.1; have h1 := h.2.1; have h2 := h.2.2.1; have h3 := h.2.2.2.1; have h4 := h.2.2.2.2.1; have h5 := h.2.2.2.2.2.1; have h6 := h.2.2.2.2.2.2; go_simp⟩) ?_
                    go_simp
                    refine HeldX.move 10 (v := .string ⟨b.toArray⟩) rfl (by kernel_rfl) (by kernel_rfl) (by kernel_rfl) (by kernel_rfl) (fun _ _ _ h => h) S4 (.inl ⟨by kernel_rfl, fun w h => by go_simp⟩) ?_
                    go_simp
                    refine HeldX.all [11, 14] (by kernel_rfl) (by simp) (HeldXAll.cons rfl (by kernel_rfl) (fun K hK => ?_) (HeldXAll.cons rfl (by kernel_rfl) (fun K hK => ?_) HeldXAll.nil))
                    · go_simp
                      refine (HQB.out _ B0).mono ?_
                      rintro e za ⟨rfl, hbz⟩
                      have X := X.low hbz
                      have B0 := B0.trans (hbz.mono B0.size)
                      refine hK _ _ ⟨X.cell 0 rfl, X.cell 1 rfl, X.cell 2 rfl, X.cell 3 rfl, X.cell 4 rfl, X.cell 5 rfl, X.cell 6 rfl⟩ ?_
                      clear hK K hbz
                      have hab : Hid (decide (pb < pa) = decide (pb < pa)) := Lib.hid rfl
                      refine HeldX.move 12 (v := .bool (decide (pb < pa))) rfl (by kernel_rfl) (by kernel_rfl) (by kernel_rfl) (by kernel_rfl) (fun _ _ _ h => h) (⟨X.cell 0 rfl, X.cell 1 rfl, X.cell 2 rfl, X.cell 3 rfl, X.cell 4 rfl, X.cell 5 rfl, X.cell 6 rfl⟩) (.inl ⟨by kernel_rfl, fun w h => by go_simp⟩) ?_
                      go_simp
                      generalize habq : decide (pb < pa) = ab at *
                      have HAB := Lib.hid habq
                      clear habq hab
                      refine HeldX.move 13 (v := .agg #[.string ⟨#[112, 117, 98, 108, 105, 99]⟩, .string ⟨#[106, 111, 105, 110]⟩, .string ⟨#[106, 111, 105, 110]⟩, .string ⟨#[98, 97, 110]⟩, .bool false, .bool false, .bool (decide (n3 ≤ pa)), .bool (decide (n4 ≤ pa)), .bool ab]) rfl (by kernel_rfl) (by kernel_rfl) (by kernel_rfl) (by kernel_rfl) (fun _ _ _ h => h) (⟨X.cell 0 rfl, X.cell 1 rfl, X.cell 2 rfl, X.cell 3 rfl, X.cell 4 rfl, X.cell 5 rfl, X.cell 6 rfl⟩) (.inl ⟨by kernel_rfl, fun w h => by go_simp⟩) ?_
                      go_simp
                      refine HeldX.one 14 (by kernel_rfl) rfl (by kernel_rfl) (fun K hK => ?_)
                      go_simp
                      have hbz := (Below.refl za.heap.size za).alloc (Nat.le_refl _) (.cells #[.string ⟨#[]⟩, .string ⟨#[]⟩, .string ⟨#[]⟩, .string ⟨#[]⟩, .bool false, .bool false, .bool false, .bool false, .bool false] 80)
                      have sX := X.size
                      have M := Blk.new za #[.string ⟨#[]⟩, .string ⟨#[]⟩, .string ⟨#[]⟩, .string ⟨#[]⟩, .bool false, .bool false, .bool false, .bool false, .bool false] 80
                      have X := X.low hbz
                      have hgB := B0.size
                      have B0 := B0.trans (hbz.mono B0.size)
                      refine hK _ _ ⟨X.cell 0 rfl, X.cell 1 rfl, X.cell 2 rfl, X.cell 3 rfl, X.cell 4 rfl, X.cell 5 rfl, X.cell 6 rfl⟩ ?_
                      clear hK K hbz
                      generalize za.alloc (.cells #[.string ⟨#[]⟩, .string ⟨#[]⟩, .string ⟨#[]⟩, .string ⟨#[]⟩, .bool false, .bool false, .bool false, .bool false, .bool false] 80) = zb at *
                      generalize za.heap.size = g2 at *
                      have q0 := M.cell 0 rfl
                      have fq0 := M.froz 0 (by simp)
                      have q1 := M.cell 1 rfl
                      have fq1 := M.froz 1 (by simp)
                      have q2 := M.cell 2 rfl
                      have fq2 := M.froz 2 (by simp)
                      have q3 := M.cell 3 rfl
                      have fq3 := M.froz 3 (by simp)
                      have q4 := M.cell 4 rfl
                      have fq4 := M.froz 4 (by simp)
                      have q5 := M.cell 5 rfl
                      have fq5 := M.froz 5 (by simp)
                      have q6 := M.cell 6 rfl
                      have fq6 := M.froz 6 (by simp)
                      have q7 := M.cell 7 rfl
                      have fq7 := M.froz 7 (by simp)
                      have q8 := M.cell 8 rfl
                      have fq8 := M.froz 8 (by simp)
                      have zq := M.size
                      refine HeldX.one 15 (by kernel_rfl) rfl (by kernel_rfl) (fun K hK => ?_)
                      go_simp
                      have M := (((((((((M.set 0 (by simp) (.string ⟨#[112, 117, 98, 108, 105, 99]⟩)).set 1 (by simp) (.string ⟨#[106, 111, 105, 110]⟩)).set 2 (by simp) (.string ⟨#[106, 111, 105, 110]⟩)).set 3 (by simp) (.string ⟨#[98, 97, 110]⟩)).set 4 (by simp) (.bool false)).set 5 (by simp) (.bool false)).set 6 (by simp) (.bool (decide (n3 ≤ pa)))).set 7 (by simp) (.bool (decide (n4 ≤ pa)))).set 8 (by simp) (.bool ab))
                      have G := gb_trans (gb_trans (gb_trans (gb_trans (gb_trans (gb_trans (gb_trans (gb_trans (gb_set zb g2 0 (.string ⟨#[112, 117, 98, 108, 105, 99]⟩)) (gb_set (zb.setCell ⟨g2, 0, none⟩ (.string ⟨#[112, 117, 98, 108, 105, 99]⟩)) g2 1 (.string ⟨#[106, 111, 105, 110]⟩))) (gb_set ((zb.setCell ⟨g2, 0, none⟩ (.string ⟨#[112, 117, 98, 108, 105, 99]⟩)).setCell ⟨g2, 1, none⟩ (.string ⟨#[106, 111, 105, 110]⟩)) g2 2 (.string ⟨#[106, 111, 105, 110]⟩))) (gb_set (((zb.setCell ⟨g2, 0, none⟩ (.string ⟨#[112, 117, 98, 108, 105, 99]⟩)).setCell ⟨g2, 1, none⟩ (.string ⟨#[106, 111, 105, 110]⟩)).setCell ⟨g2, 2, none⟩ (.string ⟨#[106, 111, 105, 110]⟩)) g2 3 (.string ⟨#[98, 97, 110]⟩))) (gb_set ((((zb.setCell ⟨g2, 0, none⟩ (.string ⟨#[112, 117, 98, 108, 105, 99]⟩)).setCell ⟨g2, 1, none⟩ (.string ⟨#[106, 111, 105, 110]⟩)).setCell ⟨g2, 2, none⟩ (.string ⟨#[106, 111, 105, 110]⟩)).setCell ⟨g2, 3, none⟩ (.string ⟨#[98, 97, 110]⟩)) g2 4 (.bool false))) (gb_set (((((zb.setCell ⟨g2, 0, none⟩ (.string ⟨#[112, 117, 98, 108, 105, 99]⟩)).setCell ⟨g2, 1, none⟩ (.string ⟨#[106, 111, 105, 110]⟩)).setCell ⟨g2, 2, none⟩ (.string ⟨#[106, 111, 105, 110]⟩)).setCell ⟨g2, 3, none⟩ (.string ⟨#[98, 97, 110]⟩)).setCell ⟨g2, 4, none⟩ (.bool false)) g2 5 (.bool false))) (gb_set ((((((zb.setCell ⟨g2, 0, none⟩ (.string ⟨#[112, 117, 98, 108, 105, 99]⟩)).setCell ⟨g2, 1, none⟩ (.string ⟨#[106, 111, 105, 110]⟩)).setCell ⟨g2, 2, none⟩ (.string ⟨#[106, 111, 105, 110]⟩)).setCell ⟨g2, 3, none⟩ (.string ⟨#[98, 97, 110]⟩)).setCell ⟨g2, 4, none⟩ (.bool false)).setCell ⟨g2, 5, none⟩ (.bool false)) g2 6 (.bool (decide (n3 ≤ pa))))) (gb_set (((((((zb.setCell ⟨g2, 0, none⟩ (.string ⟨#[112, 117, 98, 108, 105, 99]⟩)).setCell ⟨g2, 1, none⟩ (.string ⟨#[106, 111, 105, 110]⟩)).setCell ⟨g2, 2, none⟩ (.string ⟨#[106, 111, 105, 110]⟩)).setCell ⟨g2, 3, none⟩ (.string ⟨#[98, 97, 110]⟩)).setCell ⟨g2, 4, none⟩ (.bool false)).setCell ⟨g2, 5, none⟩ (.bool false)).setCell ⟨g2, 6, none⟩ (.bool (decide (n3 ≤ pa)))) g2 7 (.bool (decide (n4 ≤ pa))))) (gb_set ((((((((zb.setCell ⟨g2, 0, none⟩ (.string ⟨#[112, 117, 98, 108, 105, 99]⟩)).setCell ⟨g2, 1, none⟩ (.string ⟨#[106, 111, 105, 110]⟩)).setCell ⟨g2, 2, none⟩ (.string ⟨#[106, 111, 105, 110]⟩)).setCell ⟨g2, 3, none⟩ (.string ⟨#[98, 97, 110]⟩)).setCell ⟨g2, 4, none⟩ (.bool false)).setCell ⟨g2, 5, none⟩ (.bool false)).setCell ⟨g2, 6, none⟩ (.bool (decide (n3 ≤ pa)))).setCell ⟨g2, 7, none⟩ (.bool (decide (n4 ≤ pa)))) g2 8 (.bool ab))
                      have X := X.grown G (fun e => by injection e with e; omega)
                      have B0 := B0.grown G B0.size (fun k e => by injection e with e; omega)
                      refine hK _ _ ⟨X.cell 0 rfl, X.cell 1 rfl, X.cell 2 rfl, X.cell 3 rfl, X.cell 4 rfl, X.cell 5 rfl, X.cell 6 rfl⟩ ?_
                      clear hK K G q0 fq0 q1 fq1 q2 fq2 q3 fq3 q4 fq4 q5 fq5 q6 fq6 q7 fq7 q8 fq8 zq
                      generalize (((((((((zb.setCell ⟨g2, 0, none⟩ (.string ⟨#[112, 117, 98, 108, 105, 99]⟩)).setCell ⟨g2, 1, none⟩ (.string ⟨#[106, 111, 105, 110]⟩)).setCell ⟨g2, 2, none⟩ (.string ⟨#[106, 111, 105, 110]⟩)).setCell ⟨g2, 3, none⟩ (.string ⟨#[98, 97, 110]⟩)).setCell ⟨g2, 4, none⟩ (.bool false)).setCell ⟨g2, 5, none⟩ (.bool false)).setCell ⟨g2, 6, none⟩ (.bool (decide (n3 ≤ pa)))).setCell ⟨g2, 7, none⟩ (.bool (decide (n4 ≤ pa)))).setCell ⟨g2, 8, none⟩ (.bool ab)) = y1 at *
                      refine HeldX.done (by kernel_rfl) ?_ _
                      have q0 := M.cell 0 rfl
                      have q1 := M.cell 1 rfl
                      have q2 := M.cell 2 rfl
                      have q3 := M.cell 3 rfl
                      have q4 := M.cell 4 rfl
                      have q5 := M.cell 5 rfl
                      have q6 := M.cell 6 rfl
                      have q7 := M.cell 7 rfl
                      have q8 := M.cell 8 rfl
                      go_wp2_with fail
                      refine (allowed_ban (decide (n3 ≤ pa)) (decide (n4 ≤ pa)) ab y1).mono ?_
                      rintro e y2 ⟨rfl, hbz⟩
                      have X := X.low hbz
                      have M := M.low hbz
                      have B0 := B0.trans (hbz.mono B0.size)
                      clear hbz q0 q1 q2 q3 q4 q5 q6 q7 q8
                      have q0 := M.cell 0 rfl
                      have fq0 := M.froz 0 (by simp)
                      have q1 := M.cell 1 rfl
                      have fq1 := M.froz 1 (by simp)
                      have q2 := M.cell 2 rfl
                      have fq2 := M.froz 2 (by simp)
                      have q3 := M.cell 3 rfl
                      have fq3 := M.froz 3 (by simp)
                      have q4 := M.cell 4 rfl
                      have fq4 := M.froz 4 (by simp)
                      have q5 := M.cell 5 rfl
                      have fq5 := M.froz 5 (by simp)
                      have q6 := M.cell 6 rfl
                      have fq6 := M.froz 6 (by simp)
                      have q7 := M.cell 7 rfl
                      have fq7 := M.froz 7 (by simp)
                      have q8 := M.cell 8 rfl
                      have fq8 := M.froz 8 (by simp)
                      have zq := M.size
                      cases ab with
                      | false =>
                        generalize decide (n3 ≤ pa) = k3 at *
                        generalize decide (n4 ≤ pa) = k4 at *
                        cases k3 <;> cases k4
                        all_goals
                          go_wp2_with fail
                          have M := M.set 3 (by simp) (.string ⟨#[108, 101, 97, 118, 101]⟩)
                          have G := gb_set y2 g2 3 (.string ⟨#[108, 101, 97, 118, 101]⟩)
                          have X := X.grown G (fun e => by injection e with e; omega)
                          have B0 := B0.grown G B0.size (fun k e => by injection e with e; omega)
                          clear G zq q0 fq0 q1 fq1 q2 fq2 q3 fq3 q4 fq4 q5 fq5 q6 fq6 q7 fq7 q8 fq8
                          generalize y2.setCell ⟨g2, 3, none⟩ (.string ⟨#[108, 101, 97, 118, 101]⟩) = y3 at *
                          refine (allowed_leave _ _ _ y3).mono ?_
                          rintro e y4 ⟨rfl, hbz⟩
                          have X := X.low hbz
                          have B0 := B0.trans (hbz.mono B0.size)
                          clear hbz
                          go_wp2_with fail
                          go_ret
                          exact ⟨by first | rfl | (simp; done) | (simp; omega), WB.trans (B0.mono WB.size)⟩
                      | true =>
                        have hq := of_decide_eq_true HAB.out
                        generalize decide (n3 ≤ pa) = k3 at *
                        generalize decide (n4 ≤ pa) = k4 at *
                        cases k3 <;> cases k4
                        all_goals
                          go_wp2_with fail
                          have M := M.set 3 (by simp) (.string ⟨#[108, 101, 97, 118, 101]⟩)
                          have G := gb_set y2 g2 3 (.string ⟨#[108, 101, 97, 118, 101]⟩)
                          have X := X.grown G (fun e => by injection e with e; omega)
                          have B0 := B0.grown G B0.size (fun k e => by injection e with e; omega)
                          clear G zq q0 fq0 q1 fq1 q2 fq2 q3 fq3 q4 fq4 q5 fq5 q6 fq6 q7 fq7 q8 fq8
                          generalize y2.setCell ⟨g2, 3, none⟩ (.string ⟨#[108, 101, 97, 118, 101]⟩) = y3 at *
                          refine (allowed_leave _ _ _ y3).mono ?_
                          rintro e y4 ⟨rfl, hbz⟩
                          have X := X.low hbz
                          have B0 := B0.trans (hbz.mono B0.size)
                          clear hbz
                          have x0 := X.cell 0 rfl
                          have x1 := X.cell 1 rfl
                          have x2 := X.cell 2 rfl
                          have x3 := X.cell 3 rfl
                          have x4 := X.cell 4 rfl
                          have x5 := X.cell 5 rfl
                          have x6 := X.cell 6 rfl
                          go_wp2_with (go_at_call 31; refine (HQB.out _ B0).mono ?_; rintro e y5 ⟨rfl, hbz⟩; replace B0 := B0.trans (hbz.mono B0.size))
                          go_ret
                          exact ⟨by first | rfl | (simp; done) | (simp; omega), WB.trans (B0.mono WB.size)⟩
                    · go_simp
                      have hbz := (Below.refl zd.heap.size zd).alloc (Nat.le_refl _) (.cells #[.string ⟨#[]⟩, .string ⟨#[]⟩, .string ⟨#[]⟩, .string ⟨#[]⟩, .bool false, .bool false, .bool false, .bool false, .bool false] 80)
                      have sX := X.size
                      have M := Blk.new zd #[.string ⟨#[]⟩, .string ⟨#[]⟩, .string ⟨#[]⟩, .string ⟨#[]⟩, .bool false, .bool false, .bool false, .bool false, .bool false] 80
                      have X := X.low hbz
                      have hgB := B0.size
                      have B0 := B0.trans (hbz.mono B0.size)
                      refine hK _ _ ⟨X.cell 0 rfl, X.cell 1 rfl, X.cell 2 rfl, X.cell 3 rfl, X.cell 4 rfl, X.cell 5 rfl, X.cell 6 rfl⟩ ?_
                      clear hK K hbz
                      generalize zd.alloc (.cells #[.string ⟨#[]⟩, .string ⟨#[]⟩, .string ⟨#[]⟩, .string ⟨#[]⟩, .bool false, .bool false, .bool false, .bool false, .bool false] 80) = za at *
                      generalize zd.heap.size = g2 at *
                      refine HeldX.one 11 (by kernel_rfl) rfl (by kernel_rfl) (fun K hK => ?_)
                      go_simp
                      refine (HQB.out _ B0).mono ?_
                      rintro e zb ⟨rfl, hbz⟩
                      have X := X.low hbz
                      have B0 := B0.trans (hbz.mono B0.size)
                      have M := M.low hbz
                      refine hK _ _ ⟨X.cell 0 rfl, X.cell 1 rfl, X.cell 2 rfl, X.cell 3 rfl, X.cell 4 rfl, X.cell 5 rfl, X.cell 6 rfl⟩ ?_
                      clear hK K hbz
                      have hab : Hid (decide (pb < pa) = decide (pb < pa)) := Lib.hid rfl
                      refine HeldX.move 12 (v := .bool (decide (pb < pa))) rfl (by kernel_rfl) (by kernel_rfl) (by kernel_rfl) (by kernel_rfl) (fun _ _ _ h => h) (⟨X.cell 0 rfl, X.cell 1 rfl, X.cell 2 rfl, X.cell 3 rfl, X.cell 4 rfl, X.cell 5 rfl, X.cell 6 rfl⟩) (.inl ⟨by kernel_rfl, fun w h => by go_simp⟩) ?_
                      go_simp
                      generalize habq : decide (pb < pa) = ab at *
                      have HAB := Lib.hid habq
                      clear habq hab
                      refine HeldX.move 13 (v := .agg #[.string ⟨#[112, 117, 98, 108, 105, 99]⟩, .string ⟨#[106, 111, 105, 110]⟩, .string ⟨#[106, 111, 105, 110]⟩, .string ⟨#[98, 97, 110]⟩, .bool false, .bool false, .bool (decide (n3 ≤ pa)), .bool (decide (n4 ≤ pa)), .bool ab]) rfl (by kernel_rfl) (by kernel_rfl) (by kernel_rfl) (by kernel_rfl) (fun _ _ _ h => h) (⟨X.cell 0 rfl, X.cell 1 rfl, X.cell 2 rfl, X.cell 3 rfl, X.cell 4 rfl, X.cell 5 rfl, X.cell 6 rfl⟩) (.inl ⟨by kernel_rfl, fun w h => by go_simp⟩) ?_
                      go_simp
                      have q0 := M.cell 0 rfl
                      have fq0 := M.froz 0 (by simp)
                      have q1 := M.cell 1 rfl
                      have fq1 := M.froz 1 (by simp)
                      have q2 := M.cell 2 rfl
                      have fq2 := M.froz 2 (by simp)
                      have q3 := M.cell 3 rfl
                      have fq3 := M.froz 3 (by simp)
                      have q4 := M.cell 4 rfl
                      have fq4 := M.froz 4 (by simp)
                      have q5 := M.cell 5 rfl
                      have fq5 := M.froz 5 (by simp)
                      have q6 := M.cell 6 rfl
                      have fq6 := M.froz 6 (by simp)
                      have q7 := M.cell 7 rfl
                      have fq7 := M.froz 7 (by simp)
                      have q8 := M.cell 8 rfl
                      have fq8 := M.froz 8 (by simp)
                      have zq := M.size
                      refine HeldX.one 15 (by kernel_rfl) rfl (by kernel_rfl) (fun K hK => ?_)
                      go_simp
                      have M := (((((((((M.set 0 (by simp) (.string ⟨#[112, 117, 98, 108, 105, 99]⟩)).set 1 (by simp) (.string ⟨#[106, 111, 105, 110]⟩)).set 2 (by simp) (.string ⟨#[106, 111, 105, 110]⟩)).set 3 (by simp) (.string ⟨#[98, 97, 110]⟩)).set 4 (by simp) (.bool false)).set 5 (by simp) (.bool false)).set 6 (by simp) (.bool (decide (n3 ≤ pa)))).set 7 (by simp) (.bool (decide (n4 ≤ pa)))).set 8 (by simp) (.bool ab))
                      have G := gb_trans (gb_trans (gb_trans (gb_trans (gb_trans (gb_trans (gb_trans (gb_trans (gb_set zb g2 0 (.string ⟨#[112, 117, 98, 108, 105, 99]⟩)) (gb_set (zb.setCell ⟨g2, 0, none⟩ (.string ⟨#[112, 117, 98, 108, 105, 99]⟩)) g2 1 (.string ⟨#[106, 111, 105, 110]⟩))) (gb_set ((zb.setCell ⟨g2, 0, none⟩ (.string ⟨#[112, 117, 98, 108, 105, 99]⟩)).setCell ⟨g2, 1, none⟩ (.string ⟨#[106, 111, 105, 110]⟩)) g2 2 (.string ⟨#[106, 111, 105, 110]⟩))) (gb_set (((zb.setCell ⟨g2, 0, none⟩ (.string ⟨#[112, 117, 98, 108, 105, 99]⟩)).setCell ⟨g2, 1, none⟩ (.string ⟨#[106, 111, 105, 110]⟩)).setCell ⟨g2, 2, none⟩ (.string ⟨#[106, 111, 105, 110]⟩)) g2 3 (.string ⟨#[98, 97, 110]⟩))) (gb_set ((((zb.setCell ⟨g2, 0, none⟩ (.string ⟨#[112, 117, 98, 108, 105, 99]⟩)).setCell ⟨g2, 1, none⟩ (.string ⟨#[106, 111, 105, 110]⟩)).setCell ⟨g2, 2, none⟩ (.string ⟨#[106, 111, 105, 110]⟩)).setCell ⟨g2, 3, none⟩ (.string ⟨#[98, 97, 110]⟩)) g2 4 (.bool false))) (gb_set (((((zb.setCell ⟨g2, 0, none⟩ (.string ⟨#[112, 117, 98, 108, 105, 99]⟩)).setCell ⟨g2, 1, none⟩ (.string ⟨#[106, 111, 105, 110]⟩)).setCell ⟨g2, 2, none⟩ (.string ⟨#[106, 111, 105, 110]⟩)).setCell ⟨g2, 3, none⟩ (.string ⟨#[98, 97, 110]⟩)).setCell ⟨g2, 4, none⟩ (.bool false)) g2 5 (.bool false))) (gb_set ((((((zb.setCell ⟨g2, 0, none⟩ (.string ⟨#[112, 117, 98, 108, 105, 99]⟩)).setCell ⟨g2, 1, none⟩ (.string ⟨#[106, 111, 105, 110]⟩)).setCell ⟨g2, 2, none⟩ (.string ⟨#[106, 111, 105, 110]⟩)).setCell ⟨g2, 3, none⟩ (.string ⟨#[98, 97, 110]⟩)).setCell ⟨g2, 4, none⟩ (.bool false)).setCell ⟨g2, 5, none⟩ (.bool false)) g2 6 (.bool (decide (n3 ≤ pa))))) (gb_set (((((((zb.setCell ⟨g2, 0, none⟩ (.string ⟨#[112, 117, 98, 108, 105, 99]⟩)).setCell ⟨g2, 1, none⟩ (.string ⟨#[106, 111, 105, 110]⟩)).setCell ⟨g2, 2, none⟩ (.string ⟨#[106, 111, 105, 110]⟩)).setCell ⟨g2, 3, none⟩ (.string ⟨#[98, 97, 110]⟩)).setCell ⟨g2, 4, none⟩ (.bool false)).setCell ⟨g2, 5, none⟩ (.bool false)).setCell ⟨g2, 6, none⟩ (.bool (decide (n3 ≤ pa)))) g2 7 (.bool (decide (n4 ≤ pa))))) (gb_set ((((((((zb.setCell ⟨g2, 0, none⟩ (.string ⟨#[112, 117, 98, 108, 105, 99]⟩)).setCell ⟨g2, 1, none⟩ (.string ⟨#[106, 111, 105, 110]⟩)).setCell ⟨g2, 2, none⟩ (.string ⟨#[106, 111, 105, 110]⟩)).setCell ⟨g2, 3, none⟩ (.string ⟨#[98, 97, 110]⟩)).setCell ⟨g2, 4, none⟩ (.bool false)).setCell ⟨g2, 5, none⟩ (.bool false)).setCell ⟨g2, 6, none⟩ (.bool (decide (n3 ≤ pa)))).setCell ⟨g2, 7, none⟩ (.bool (decide (n4 ≤ pa)))) g2 8 (.bool ab))
                      have X := X.grown G (fun e => by injection e with e; omega)
                      have B0 := B0.grown G B0.size (fun k e => by injection e with e; omega)
                      refine hK _ _ ⟨X.cell 0 rfl, X.cell 1 rfl, X.cell 2 rfl, X.cell 3 rfl, X.cell 4 rfl, X.cell 5 rfl, X.cell 6 rfl⟩ ?_
                      clear hK K G q0 fq0 q1 fq1 q2 fq2 q3 fq3 q4 fq4 q5 fq5 q6 fq6 q7 fq7 q8 fq8 zq
                      generalize (((((((((zb.setCell ⟨g2, 0, none⟩ (.string ⟨#[112, 117, 98, 108, 105, 99]⟩)).setCell ⟨g2, 1, none⟩ (.string ⟨#[106, 111, 105, 110]⟩)).setCell ⟨g2, 2, none⟩ (.string ⟨#[106, 111, 105, 110]⟩)).setCell ⟨g2, 3, none⟩ (.string ⟨#[98, 97, 110]⟩)).setCell ⟨g2, 4, none⟩ (.bool false)).setCell ⟨g2, 5, none⟩ (.bool false)).setCell ⟨g2, 6, none⟩ (.bool (decide (n3 ≤ pa)))).setCell ⟨g2, 7, none⟩ (.bool (decide (n4 ≤ pa)))).setCell ⟨g2, 8, none⟩ (.bool ab)) = y1 at *
                      refine HeldX.done (by kernel_rfl) ?_ _
                      have q0 := M.cell 0 rfl
                      have q1 := M.cell 1 rfl
                      have q2 := M.cell 2 rfl
                      have q3 := M.cell 3 rfl
                      have q4 := M.cell 4 rfl
                      have q5 := M.cell 5 rfl
                      have q6 := M.cell 6 rfl
                      have q7 := M.cell 7 rfl
                      have q8 := M.cell 8 rfl
                      go_wp2_with fail
                      refine (allowed_ban (decide (n3 ≤ pa)) (decide (n4 ≤ pa)) ab y1).mono ?_
                      rintro e y2 ⟨rfl, hbz⟩
                      have X := X.low hbz
                      have M := M.low hbz
                      have B0 := B0.trans (hbz.mono B0.size)
                      clear hbz q0 q1 q2 q3 q4 q5 q6 q7 q8
                      have q0 := M.cell 0 rfl
                      have fq0 := M.froz 0 (by simp)
                      have q1 := M.cell 1 rfl
                      have fq1 := M.froz 1 (by simp)
                      have q2 := M.cell 2 rfl
                      have fq2 := M.froz 2 (by simp)
                      have q3 := M.cell 3 rfl
                      have fq3 := M.froz 3 (by simp)
                      have q4 := M.cell 4 rfl
                      have fq4 := M.froz 4 (by simp)
                      have q5 := M.cell 5 rfl
                      have fq5 := M.froz 5 (by simp)
                      have q6 := M.cell 6 rfl
                      have fq6 := M.froz 6 (by simp)
                      have q7 := M.cell 7 rfl
                      have fq7 := M.froz 7 (by simp)
                      have q8 := M.cell 8 rfl
                      have fq8 := M.froz 8 (by simp)
                      have zq := M.size
                      cases ab with
                      | false =>
                        generalize decide (n3 ≤ pa) = k3 at *
                        generalize decide (n4 ≤ pa) = k4 at *
                        cases k3 <;> cases k4
                        all_goals
                          go_wp2_with fail
                          have M := M.set 3 (by simp) (.string ⟨#[108, 101, 97, 118, 101]⟩)
                          have G := gb_set y2 g2 3 (.string ⟨#[108, 101, 97, 118, 101]⟩)
                          have X := X.grown G (fun e => by injection e with e; omega)
                          have B0 := B0.grown G B0.size (fun k e => by injection e with e; omega)
                          clear G zq q0 fq0 q1 fq1 q2 fq2 q3 fq3 q4 fq4 q5 fq5 q6 fq6 q7 fq7 q8 fq8
                          generalize y2.setCell ⟨g2, 3, none⟩ (.string ⟨#[108, 101, 97, 118, 101]⟩) = y3 at *
                          refine (allowed_leave _ _ _ y3).mono ?_
                          rintro e y4 ⟨rfl, hbz⟩
                          have X := X.low hbz
                          have B0 := B0.trans (hbz.mono B0.size)
                          clear hbz
                          go_wp2_with fail
                          go_ret
                          exact ⟨by first | rfl | (simp; done) | (simp; omega), WB.trans (B0.mono WB.size)⟩
                      | true =>
                        have hq := of_decide_eq_true HAB.out
                        generalize decide (n3 ≤ pa) = k3 at *
                        generalize decide (n4 ≤ pa) = k4 at *
                        cases k3 <;> cases k4
                        all_goals
                          go_wp2_with fail
                          have M := M.set 3 (by simp) (.string ⟨#[108, 101, 97, 118, 101]⟩)
                          have G := gb_set y2 g2 3 (.string ⟨#[108, 101, 97, 118, 101]⟩)
                          have X := X.grown G (fun e => by injection e with e; omega)
                          have B0 := B0.grown G B0.size (fun k e => by injection e with e; omega)
                          clear G zq q0 fq0 q1 fq1 q2 fq2 q3 fq3 q4 fq4 q5 fq5 q6 fq6 q7 fq7 q8 fq8
                          generalize y2.setCell ⟨g2, 3, none⟩ (.string ⟨#[108, 101, 97, 118, 101]⟩) = y3 at *
                          refine (allowed_leave _ _ _ y3).mono ?_
                          rintro e y4 ⟨rfl, hbz⟩
                          have X := X.low hbz
                          have B0 := B0.trans (hbz.mono B0.size)
                          clear hbz
                          have x0 := X.cell 0 rfl
                          have x1 := X.cell 1 rfl
                          have x2 := X.cell 2 rfl
                          have x3 := X.cell 3 rfl
                          have x4 := X.cell 4 rfl
                          have x5 := X.cell 5 rfl
                          have x6 := X.cell 6 rfl
                          go_wp2_with (go_at_call 31; refine (HQB.out _ B0).mono ?_; rintro e y5 ⟨rfl, hbz⟩; replace B0 := B0.trans (hbz.mono B0.size))
                          go_ret
                          exact ⟨by first | rfl | (simp; done) | (simp; omega), WB.trans (B0.mono WB.size)⟩
                  · go_wp2_with fail
                    refine (lparse_any ⟨tx.toArray⟩ (by rw [htz]; omega) wr (HP.out.low HB.out)).mono ?_
                    rintro e w5 ⟨hres, hb5⟩
                    have HX5 := Lib.hid (HX.out.low hb5)
                    have HU5 := Lib.hid (HU.out.low hb5)
                    have HB5 := Lib.hid (HB.out.trans (hb5.mono HB.out.size))
                    clear hb5 ct
                    rcases hres with ⟨m0, m1, m2, m3, m4, m5, v, ts, rfl, ht, htl, htt⟩ | rfl
                    · obtain ⟨pt, ct, rfl⟩ := ht.form
                      unfold levV
                      have Y := Blk.new w5 #[.int .i64 m0, .int .i64 m1, .int .i64 m2, .int .i64 m3, .int .i64 m4, .int .i64 m5, .slice pt ts.length ct] 72
                      have hba := (Below.refl w5.heap.size w5).alloc (Nat.le_refl _) (.cells #[.int .i64 m0, .int .i64 m1, .int .i64 m2, .int .i64 m3, .int .i64 m4, .int .i64 m5, .slice pt ts.length ct] 72)
                      have sX := HX5.out.size
                      have HX6 := Lib.hid (HX5.out.low hba)
                      have HU6 := Lib.hid (HU5.out.low hba)
                      have HT6 := Lib.hid (ht.low hba)
                      have HB6 := Lib.hid (HB5.out.trans (hba.mono HB5.out.size))
                      have HTT := Lib.hid htt
                      clear ht htt hba
                      obtain ⟨b3, o3, rfl, hb3l, hc3⟩ := strAt HSX.out hxj
                      generalize xs[j] = x at *
                      go_wp2_with fail
                      generalize w5.alloc (.cells #[.int .i64 m0, .int .i64 m1, .int .i64 m2, .int .i64 m3, .int .i64 m4, .int .i64 m5, .slice pt ts.length ct] 72) = w6 at *
                      generalize w5.heap.size = g3 at *
                      have hmo : Tryd.prog.follows .mixedOrders = true := by kernel_rfl
                      have c3 := (HB6.out.cell (p := ⟨b3, o3 + j, none⟩) hb3l).trans hc3
                      have S17 : (fun w' => w'.cell? ⟨g1, 0, none⟩ = some (.int .i64 n0) ∧ w'.cell? ⟨g1, 1, none⟩ = some (.int .i64 n1) ∧ w'.cell? ⟨g1, 2, none⟩ = some (.int .i64 n2) ∧ w'.cell? ⟨g1, 3, none⟩ = some (.int .i64 n3) ∧ w'.cell? ⟨g1, 4, none⟩ = some (.int .i64 n4) ∧ w'.cell? ⟨g1, 5, none⟩ = some (.int .i64 n5) ∧ w'.cell? ⟨g1, 6, none⟩ = some (.slice pu us.length cu) ∧ w'.cell? ⟨g3, 0, none⟩ = some (.int .i64 m0) ∧ w'.cell? ⟨g3, 1, none⟩ = some (.int .i64 m1) ∧ w'.cell? ⟨g3, 2, none⟩ = some (.int .i64 m2) ∧ w'.cell? ⟨g3, 3, none⟩ = some (.int .i64 m3) ∧ w'.cell? ⟨g3, 4, none⟩ = some (.int .i64 m4) ∧ w'.cell? ⟨g3, 5, none⟩ = some (.int .i64 m5) ∧ w'.cell? ⟨g3, 6, none⟩ = some (.slice pt ts.length ct) ∧ w'.cell? ⟨b3, o3 + j, none⟩ = some (.string ⟨x.toArray⟩)) w6.drew := ⟨HX6.out.drew.cell 0 rfl, HX6.out.drew.cell 1 rfl, HX6.out.drew.cell 2 rfl, HX6.out.drew.cell 3 rfl, HX6.out.drew.cell 4 rfl, HX6.out.drew.cell 5 rfl, HX6.out.drew.cell 6 rfl, Y.drew.cell 0 rfl, Y.drew.cell 1 rfl, Y.drew.cell 2 rfl, Y.drew.cell 3 rfl, Y.drew.cell 4 rfl, Y.drew.cell 5 rfl, Y.drew.cell 6 rfl, c3⟩
                      refine wp_region_heldX (fun w' => w'.cell? ⟨g1, 0, none⟩ = some (.int .i64 n0) ∧ w'.cell? ⟨g1, 1, none⟩ = some (.int .i64 n1) ∧ w'.cell? ⟨g1, 2, none⟩ = some (.int .i64 n2) ∧ w'.cell? ⟨g1, 3, none⟩ = some (.int .i64 n3) ∧ w'.cell? ⟨g1, 4, none⟩ = some (.int .i64 n4) ∧ w'.cell? ⟨g1, 5, none⟩ = some (.int .i64 n5) ∧ w'.cell? ⟨g1, 6, none⟩ = some (.slice pu us.length cu) ∧ w'.cell? ⟨g3, 0, none⟩ = some (.int .i64 m0) ∧ w'.cell? ⟨g3, 1, none⟩ = some (.int .i64 m1) ∧ w'.cell? ⟨g3, 2, none⟩ = some (.int .i64 m2) ∧ w'.cell? ⟨g3, 3, none⟩ = some (.int .i64 m3) ∧ w'.cell? ⟨g3, 4, none⟩ = some (.int .i64 m4) ∧ w'.cell? ⟨g3, 5, none⟩ = some (.int .i64 m5) ∧ w'.cell? ⟨g3, 6, none⟩ = some (.slice pt ts.length ct) ∧ w'.cell? ⟨b3, o3 + j, none⟩ = some (.string ⟨x.toArray⟩)) [] hmo ?_
                      refine HeldX.move 0 (v := .int .i64 0) rfl (by kernel_rfl) (by kernel_rfl) (by kernel_rfl) (by kernel_rfl) (fun _ _ _ h => h) S17 (.inl ⟨by kernel_rfl, fun w h => by go_simp⟩) ?_
                      go_simp
                      refine HeldX.move 1 (v := .bool true) rfl (by kernel_rfl) (by kernel_rfl) (by kernel_rfl) (by kernel_rfl) (fun _ _ _ h => h) S17 (.inl ⟨by kernel_rfl, fun w h => by go_simp⟩) ?_
                      go_simp
                      refine HeldX.move 2 (v := .bool true) rfl (by kernel_rfl) (by kernel_rfl) (by kernel_rfl) (by kernel_rfl) (fun _ _ _ h => h) S17 (.inl ⟨by kernel_rfl, fun w h => by go_simp⟩) ?_
                      go_simp
                      refine HeldX.take 3 (v := .agg #[.int .i64 n0, .int .i64 n1, .int .i64 n2, .int .i64 n3, .int .i64 n4, .int .i64 n5, .slice pu us.length cu]) rfl (by kernel_rfl) (by kernel_rfl) (by kernel_rfl) (by kernel_rfl) (fun _ _ _ h => h) S17 (.inl ⟨by kernel_rfl, fun w h => by have h0 := h.1; have h1 := h.2.1; have h2 := h.2.2.1; have h3 := h.2.2.2.1; have h4 := h.2.2.2.2.1; have h5 := h.2.2.2.2.2.1; have h6 := h.2.2.2.2.2.2.1; go_simp⟩) ?_
                      go_simp
                      refine HeldX.take 4 (v := .agg #[.int .i64 m0, .int .i64 m1, .int .i64 m2, .int .i64 m3, .int .i64 m4, .int .i64 m5, .slice pt ts.length ct]) rfl (by kernel_rfl) (by kernel_rfl) (by kernel_rfl) (by kernel_rfl) (fun _ _ _ h => h) S17 (.inl ⟨by kernel_rfl, fun w h => by have h7 := h.2.2.2.2.2.2.2.1; have h8 := h.2.2.2.2.2.2.2.2.1; have h9 := h.2.2.2.2.2.2.2.2.2.1; have h10 := h.2.2.2.2.2.2.2.2.2.2.1; have h11 := h.2.2.2.2.2.2.2.2.2.2.2.1; have h12 := h.2.2.2.2.2.2.2.2.2.2.2.2.1; have h13 := h.2.2.2.2.2.2.2.2.2.2.2.2.2.1; go_simp⟩) ?_
                      go_simp
                      refine HeldX.move 5 (v := .slice (some ⟨b3, o3, none⟩) xs.length cx) rfl (by kernel_rfl) (by kernel_rfl) (by kernel_rfl) (by kernel_rfl) (fun _ _ _ h => h) S17 (.inl ⟨by kernel_rfl, fun w h => by go_simp⟩) ?_
                      go_simp
                      refine HeldX.move 6 (v := .int .i64 (j : Int)) rfl (by kernel_rfl) (by kernel_rfl) (by kernel_rfl) (by kernel_rfl) (fun _ _ _ h => h) S17 (.inl ⟨by kernel_rfl, fun w h => by go_simp⟩) ?_
                      go_simp
                      refine HeldX.move 7 (v := .pointer (some ⟨b3, o3 + j, none⟩)) rfl (by kernel_rfl) (by kernel_rfl) (by kernel_rfl) (by kernel_rfl) (fun _ _ _ h => h) S17 (.inl ⟨by kernel_rfl, fun w h => by go_simp⟩) ?_
                      go_simp
                      refine HeldX.take 8 (v := .string ⟨x.toArray⟩) rfl (by kernel_rfl) (by kernel_rfl) (by kernel_rfl) (by kernel_rfl) (fun _ _ _ h => h) S17 (.inl ⟨by kernel_rfl, fun w h => by have h1 := h.2.2.2.2.2.2.2.2.2.2.2.2.2.2; go_simp⟩) ?_
                      go_simp
                      have HC := Lib.hid (HCH.out n0 n1 n2 n3 n4 n5 m0 m1 m2 m3 m4 m5 (.slice pu us.length cu) (.slice pt ts.length ct) us ts x w6.drew (HU6.out.low (Below.refl _ _).drew) (HT6.out.low (Below.refl _ _).drew) hul htl HSU.out HTT.out (HP.out.low HB6.out.drew).v)
                      unfold levV at HC
                      refine HeldX.one 9 (by kernel_rfl) rfl (by kernel_rfl) (fun K hK => ?_)
                      go_simp
                      refine HC.out.mono ?_
                      rintro e w7 ⟨⟨c, rfl, hok⟩, hb7⟩
                      have hb7 : Below w6.heap.size w6 w7 := (Below.refl _ w6).drew.trans hb7
                      have HX7 := Lib.hid (HX6.out.low hb7)
                      have HU7 := Lib.hid (HU6.out.low hb7)
                      have HT7 := Lib.hid (HT6.out.low hb7)
                      have HB7 := Lib.hid (HB6.out.trans (hb7.mono HB6.out.size))
                      have Y7 := Y.low hb7
                      have HOK := Lib.hid hok
                      refine hK _ _ ⟨HX7.out.cell 0 rfl, HX7.out.cell 1 rfl, HX7.out.cell 2 rfl, HX7.out.cell 3 rfl, HX7.out.cell 4 rfl, HX7.out.cell 5 rfl, HX7.out.cell 6 rfl, Y7.cell 0 rfl, Y7.cell 1 rfl, Y7.cell 2 rfl, Y7.cell 3 rfl, Y7.cell 4 rfl, Y7.cell 5 rfl, Y7.cell 6 rfl, (HB7.out.cell (p := ⟨b3, o3 + j, none⟩) hb3l).trans hc3⟩ ?_
                      have HC3 := Lib.hid hc3
                      clear hK K hok hb7 c3 hc3 Y S17
                      by_cases hc0 : c = 0
                      · have HOK2 := Lib.hid (HOK.out hc0)
                        have HCZ := Lib.hid hc0
                        clear hc0 HOK
                        refine HeldX.move 10 (v := .bool true) rfl (by kernel_rfl) (by kernel_rfl) (by kernel_rfl) (by kernel_rfl) (fun _ _ _ h => h) (⟨HX7.out.cell 0 rfl, HX7.out.cell 1 rfl, HX7.out.cell 2 rfl, HX7.out.cell 3 rfl, HX7.out.cell 4 rfl, HX7.out.cell 5 rfl, HX7.out.cell 6 rfl, Y7.cell 0 rfl, Y7.cell 1 rfl, Y7.cell 2 rfl, Y7.cell 3 rfl, Y7.cell 4 rfl, Y7.cell 5 rfl, Y7.cell 6 rfl, (HB7.out.cell (p := ⟨b3, o3 + j, none⟩) hb3l).trans HC3.out⟩) (.inl ⟨by kernel_rfl, fun w h => by go_simp; exact HCZ.out⟩) ?_
                        go_simp
                        refine HeldX.move 11 (v := .bool true) rfl (by kernel_rfl) (by kernel_rfl) (by kernel_rfl) (by kernel_rfl) (fun _ _ _ h => h) (⟨HX7.out.cell 0 rfl, HX7.out.cell 1 rfl, HX7.out.cell 2 rfl, HX7.out.cell 3 rfl, HX7.out.cell 4 rfl, HX7.out.cell 5 rfl, HX7.out.cell 6 rfl, Y7.cell 0 rfl, Y7.cell 1 rfl, Y7.cell 2 rfl, Y7.cell 3 rfl, Y7.cell 4 rfl, Y7.cell 5 rfl, Y7.cell 6 rfl, (HB7.out.cell (p := ⟨b3, o3 + j, none⟩) hb3l).trans HC3.out⟩) (.inl ⟨by kernel_rfl, fun w h => by go_simp⟩) ?_
                        go_simp
                        refine HeldX.done (by kernel_rfl) ?_ _
                        have X7 := HX7.out
                        have y0 := Y7.cell 0 rfl
                        have y1 := Y7.cell 1 rfl
                        have y2 := Y7.cell 2 rfl
                        have y3 := Y7.cell 3 rfl
                        have y4 := Y7.cell 4 rfl
                        have y5 := Y7.cell 5 rfl
                        have y6 := Y7.cell 6 rfl
                        have x0 := X7.cell 0 rfl
                        have fx0 := X7.froz 0 (by simp)
                        have x1 := X7.cell 1 rfl
                        have fx1 := X7.froz 1 (by simp)
                        have x2 := X7.cell 2 rfl
                        have fx2 := X7.froz 2 (by simp)
                        have x3 := X7.cell 3 rfl
                        have fx3 := X7.froz 3 (by simp)
                        have x4 := X7.cell 4 rfl
                        have fx4 := X7.froz 4 (by simp)
                        have x5 := X7.cell 5 rfl
                        have fx5 := X7.froz 5 (by simp)
                        have x6 := X7.cell 6 rfl
                        have fx6 := X7.froz 6 (by simp)
                        have z7 := X7.size
                        have zy := Y7.size
                        go_wp2_with fail
                        have G := gb_trans (gb_trans (gb_trans (gb_trans (gb_trans (gb_trans (gb_set w7 g1 0 (.int .i64 m0)) (gb_set (w7.setCell ⟨g1, 0, none⟩ (.int .i64 m0)) g1 1 (.int .i64 m1))) (gb_set ((w7.setCell ⟨g1, 0, none⟩ (.int .i64 m0)).setCell ⟨g1, 1, none⟩ (.int .i64 m1)) g1 2 (.int .i64 m2))) (gb_set (((w7.setCell ⟨g1, 0, none⟩ (.int .i64 m0)).setCell ⟨g1, 1, none⟩ (.int .i64 m1)).setCell ⟨g1, 2, none⟩ (.int .i64 m2)) g1 3 (.int .i64 m3))) (gb_set ((((w7.setCell ⟨g1, 0, none⟩ (.int .i64 m0)).setCell ⟨g1, 1, none⟩ (.int .i64 m1)).setCell ⟨g1, 2, none⟩ (.int .i64 m2)).setCell ⟨g1, 3, none⟩ (.int .i64 m3)) g1 4 (.int .i64 m4))) (gb_set (((((w7.setCell ⟨g1, 0, none⟩ (.int .i64 m0)).setCell ⟨g1, 1, none⟩ (.int .i64 m1)).setCell ⟨g1, 2, none⟩ (.int .i64 m2)).setCell ⟨g1, 3, none⟩ (.int .i64 m3)).setCell ⟨g1, 4, none⟩ (.int .i64 m4)) g1 5 (.int .i64 m5))) (gb_set ((((((w7.setCell ⟨g1, 0, none⟩ (.int .i64 m0)).setCell ⟨g1, 1, none⟩ (.int .i64 m1)).setCell ⟨g1, 2, none⟩ (.int .i64 m2)).setCell ⟨g1, 3, none⟩ (.int .i64 m3)).setCell ⟨g1, 4, none⟩ (.int .i64 m4)).setCell ⟨g1, 5, none⟩ (.int .i64 m5)) g1 6 (.slice pt ts.length ct))
                        have X8 := (((((((X7.set 0 (by simp) (.int .i64 m0)).set 1 (by simp) (.int .i64 m1)).set 2 (by simp) (.int .i64 m2)).set 3 (by simp) (.int .i64 m3)).set 4 (by simp) (.int .i64 m4)).set 5 (by simp) (.int .i64 m5)).set 6 (by simp) (.slice pt ts.length ct))
                        have B8 := HB7.out.grown G HB7.out.size (fun k e => by injection e with e; omega)
                        have T8 := HT7.out
                        have hT8 : LRow (((((((w7.setCell ⟨g1, 0, none⟩ (.int .i64 m0)).setCell ⟨g1, 1, none⟩ (.int .i64 m1)).setCell ⟨g1, 2, none⟩ (.int .i64 m2)).setCell ⟨g1, 3, none⟩ (.int .i64 m3)).setCell ⟨g1, 4, none⟩ (.int .i64 m4)).setCell ⟨g1, 5, none⟩ (.int .i64 m5)).setCell ⟨g1, 6, none⟩ (.slice pt ts.length ct)) (.slice pt ts.length ct) ts := HT7.out.far G (HX7.out.cell 0 rfl)
                        clear y0 y1 y2 y3 y4 y5 y6 x0 x1 x2 x3 x4 x5 x6 fx0 fx1 fx2 fx3 fx4 fx5 fx6 z7 zy G X7
                        generalize (((((((w7.setCell ⟨g1, 0, none⟩ (.int .i64 m0)).setCell ⟨g1, 1, none⟩ (.int .i64 m1)).setCell ⟨g1, 2, none⟩ (.int .i64 m2)).setCell ⟨g1, 3, none⟩ (.int .i64 m3)).setCell ⟨g1, 4, none⟩ (.int .i64 m4)).setCell ⟨g1, 5, none⟩ (.int .i64 m5)).setCell ⟨g1, 6, none⟩ (.slice pt ts.length ct)) = w8 at *
                        have hck := change_keeps hmo0 HMO.out (HMO.out x) HOK2.out.1 HOK2.out.2
                        go_roundw
                        case rel => exact ⟨j + 1, m0, m1, m2, m3, m4, m5, pt, ct, ts, by omega, by go_num, htl, hck.1, HTT, Lib.hid hck.2, Lib.hid X8, Lib.hid hT8, Lib.hid B8⟩
                        case measure => simp [intOf]; omega
                      · have HCZ := Lib.hid hc0
                        clear hc0
                        refine HeldX.move 10 (v := .bool false) rfl (by kernel_rfl) (by kernel_rfl) (by kernel_rfl) (by kernel_rfl) (fun _ _ _ h => h) (⟨HX7.out.cell 0 rfl, HX7.out.cell 1 rfl, HX7.out.cell 2 rfl, HX7.out.cell 3 rfl, HX7.out.cell 4 rfl, HX7.out.cell 5 rfl, HX7.out.cell 6 rfl, Y7.cell 0 rfl, Y7.cell 1 rfl, Y7.cell 2 rfl, Y7.cell 3 rfl, Y7.cell 4 rfl, Y7.cell 5 rfl, Y7.cell 6 rfl, (HB7.out.cell (p := ⟨b3, o3 + j, none⟩) hb3l).trans HC3.out⟩) (.inl ⟨by kernel_rfl, fun w h => by go_simp; exact HCZ.out⟩) ?_
                        go_simp
                        refine HeldX.move 11 (v := .bool false) rfl (by kernel_rfl) (by kernel_rfl) (by kernel_rfl) (by kernel_rfl) (fun _ _ _ h => h) (⟨HX7.out.cell 0 rfl, HX7.out.cell 1 rfl, HX7.out.cell 2 rfl, HX7.out.cell 3 rfl, HX7.out.cell 4 rfl, HX7.out.cell 5 rfl, HX7.out.cell 6 rfl, Y7.cell 0 rfl, Y7.cell 1 rfl, Y7.cell 2 rfl, Y7.cell 3 rfl, Y7.cell 4 rfl, Y7.cell 5 rfl, Y7.cell 6 rfl, (HB7.out.cell (p := ⟨b3, o3 + j, none⟩) hb3l).trans HC3.out⟩) (.inl ⟨by kernel_rfl, fun w h => by go_simp⟩) ?_
                        go_simp
                        refine HeldX.done (by kernel_rfl) ?_ _
                        go_wp2_with fail
                        go_roundw
                        case rel => exact ⟨j + 1, n0, n1, n2, n3, n4, n5, pu, cu, us, by omega, by go_num, hul, hmo0, HSU, HMO, HX7, HU7, HB7⟩
                        case measure => simp [intOf]; omega
                    · unfold levV
                      have hba := (Below.refl w5.heap.size w5).alloc (Nat.le_refl _) (.cells #[.int .i64 0, .int .i64 0, .int .i64 0, .int .i64 0, .int .i64 0, .int .i64 0, .slice none 0 0] 72)
                      have HX6 := Lib.hid (HX5.out.low hba)
                      have HU6 := Lib.hid (HU5.out.low hba)
                      have HB6 := Lib.hid (HB5.out.trans (hba.mono HB5.out.size))
                      clear hba
                      have hmo : Tryd.prog.follows .mixedOrders = true := by kernel_rfl
                      go_wp2_with fail
                      generalize w5.alloc (.cells #[.int .i64 0, .int .i64 0, .int .i64 0, .int .i64 0, .int .i64 0, .int .i64 0, .slice none 0 0] 72) = w6 at *
                      refine wp_region_heldX (fun _ => True) [] hmo ?_
                      refine HeldX.move 0 (v := .int .i64 6) rfl (by kernel_rfl) (by kernel_rfl) (by kernel_rfl) (by kernel_rfl) (fun _ _ _ h => h) trivial (.inl ⟨by kernel_rfl, fun w h => by go_simp⟩) ?_
                      go_simp
                      refine HeldX.move 1 (v := .bool false) rfl (by kernel_rfl) (by kernel_rfl) (by kernel_rfl) (by kernel_rfl) (fun _ _ _ h => h) trivial (.inl ⟨by kernel_rfl, fun w h => by go_simp⟩) ?_
                      go_simp
                      refine HeldX.move 2 (v := .bool false) rfl (by kernel_rfl) (by kernel_rfl) (by kernel_rfl) (by kernel_rfl) (fun _ _ _ h => h) trivial (.inl ⟨by kernel_rfl, fun w h => by go_simp⟩) ?_
                      go_simp
                      refine HeldX.move 3 (v := undef) rfl (by kernel_rfl) (by kernel_rfl) (by kernel_rfl) (by kernel_rfl) (fun _ _ _ h => h) trivial (.inr ⟨by kernel_rfl, rfl⟩) ?_
                      go_simp
                      refine HeldX.move 4 (v := undef) rfl (by kernel_rfl) (by kernel_rfl) (by kernel_rfl) (by kernel_rfl) (fun _ _ _ h => h) trivial (.inr ⟨by kernel_rfl, rfl⟩) ?_
                      go_simp
                      refine HeldX.move 5 (v := undef) rfl (by kernel_rfl) (by kernel_rfl) (by kernel_rfl) (by kernel_rfl) (fun _ _ _ h => h) trivial (.inr ⟨by kernel_rfl, rfl⟩) ?_
                      go_simp
                      refine HeldX.move 6 (v := undef) rfl (by kernel_rfl) (by kernel_rfl) (by kernel_rfl) (by kernel_rfl) (fun _ _ _ h => h) trivial (.inr ⟨by kernel_rfl, rfl⟩) ?_
                      go_simp
                      refine HeldX.move 7 (v := undef) rfl (by kernel_rfl) (by kernel_rfl) (by kernel_rfl) (by kernel_rfl) (fun _ _ _ h => h) trivial (.inr ⟨by kernel_rfl, rfl⟩) ?_
                      go_simp
                      refine HeldX.move 8 (v := undef) rfl (by kernel_rfl) (by kernel_rfl) (by kernel_rfl) (by kernel_rfl) (fun _ _ _ h => h) trivial (.inr ⟨by kernel_rfl, rfl⟩) ?_
                      go_simp
                      refine HeldX.move 9 (v := undef) rfl (by kernel_rfl) (by kernel_rfl) (by kernel_rfl) (by kernel_rfl) (fun _ _ _ h => h) trivial (.inr ⟨by kernel_rfl, rfl⟩) ?_
                      go_simp
                      refine HeldX.move 10 (v := undef) rfl (by kernel_rfl) (by kernel_rfl) (by kernel_rfl) (by kernel_rfl) (fun _ _ _ h => h) trivial (.inr ⟨by kernel_rfl, rfl⟩) ?_
                      go_simp
                      refine HeldX.move 11 (v := .bool false) rfl (by kernel_rfl) (by kernel_rfl) (by kernel_rfl) (by kernel_rfl) (fun _ _ _ h => h) trivial (.inl ⟨by kernel_rfl, fun w h => by go_simp⟩) ?_
                      go_simp
                      refine HeldX.done (by kernel_rfl) ?_ _
                      have hdr := (Below.refl w6.heap.size w6).drew
                      have HX7 := Lib.hid (HX6.out.low hdr)
                      have HU7 := Lib.hid (HU6.out.low hdr)
                      have HB7 := Lib.hid (HB6.out.trans (hdr.mono HB6.out.size))
                      clear hdr
                      go_wp2_with fail
                      go_roundw
                      case rel => exact ⟨j + 1, n0, n1, n2, n3, n4, n5, pu, cu, us, by omega, by go_num, hul, hmo0, HSU, HMO, HX7, HU7, HB7⟩
                      case measure => simp [intOf]; omega
                · have hxji : ¬ (j : Int) < (xs.length : Int) := by omega
                  have hmo : Tryd.prog.follows .mixedOrders = true := by kernel_rfl
                  have HQ := Lib.hid (fun y w' (hb : Below wr.heap.size wr w') => ofL_any n0 n1 n2 n3 n4 n5 (.slice pu us.length cu) us y w' (HU.out.low hb) hul)
                  have hpa := HMO.out a
                  have hpb := HMO.out b
                  unfold levV at HQ
                  have HQA := Lib.hid (fun w' hb => HQ.out a w' hb)
                  have HQB := Lib.hid (fun w' hb => HQ.out b w' hb)
                  clear HQ HMO
                  generalize ofL n0 us a = pa at *
                  generalize ofL n0 us b = pb at *
                  have B0 := Below.refl wr.heap.size wr
                  have X := HX.out
                  have WB := HB.out
                  have x0 := X.cell 0 rfl
                  have x1 := X.cell 1 rfl
                  have x2 := X.cell 2 rfl
                  have x3 := X.cell 3 rfl
                  have x4 := X.cell 4 rfl
                  have x5 := X.cell 5 rfl
                  have x6 := X.cell 6 rfl
                  have zx := X.size
                  go_wp2_with fail
                  refine (HQA.out _ B0).mono ?_
                  rintro e z1 ⟨rfl, hbz⟩
                  have X := X.low hbz
                  have B0 := B0.trans (hbz.mono B0.size)
                  clear hbz
                  clear x0 x1 x2 x3 x4 x5 x6
                  have x0 := X.cell 0 rfl
                  have x1 := X.cell 1 rfl
                  have x2 := X.cell 2 rfl
                  have x3 := X.cell 3 rfl
                  have x4 := X.cell 4 rfl
                  have x5 := X.cell 5 rfl
                  have x6 := X.cell 6 rfl
                  go_wp2_with fail
                  refine (HQB.out _ B0).mono ?_
                  rintro e z2 ⟨rfl, hbz⟩
                  have X := X.low hbz
                  have B0 := B0.trans (hbz.mono B0.size)
                  clear hbz
                  clear x0 x1 x2 x3 x4 x5 x6
                  have x0 := X.cell 0 rfl
                  have x1 := X.cell 1 rfl
                  have x2 := X.cell 2 rfl
                  have x3 := X.cell 3 rfl
                  have x4 := X.cell 4 rfl
                  have x5 := X.cell 5 rfl
                  have x6 := X.cell 6 rfl
                  go_wp2_with fail
                  refine (HQA.out _ B0).mono ?_
                  rintro e z3 ⟨rfl, hbz⟩
                  have X := X.low hbz
                  have B0 := B0.trans (hbz.mono B0.size)
                  clear hbz
                  clear x0 x1 x2 x3 x4 x5 x6
                  go_wp2_with fail
                  have X := X.drew
                  have B0 := B0.drew
                  have S4 : (fun w' => w'.cell? ⟨g1, 0, none⟩ = some (.int .i64 n0) ∧ w'.cell? ⟨g1, 1, none⟩ = some (.int .i64 n1) ∧ w'.cell? ⟨g1, 2, none⟩ = some (.int .i64 n2) ∧ w'.cell? ⟨g1, 3, none⟩ = some (.int .i64 n3) ∧ w'.cell? ⟨g1, 4, none⟩ = some (.int .i64 n4) ∧ w'.cell? ⟨g1, 5, none⟩ = some (.int .i64 n5) ∧ w'.cell? ⟨g1, 6, none⟩ = some (.slice pu us.length cu)) z3.drew := ⟨X.cell 0 rfl, X.cell 1 rfl, X.cell 2 rfl, X.cell 3 rfl, X.cell 4 rfl, X.cell 5 rfl, X.cell 6 rfl⟩
                  refine wp_region_heldX (fun w' => w'.cell? ⟨g1, 0, none⟩ = some (.int .i64 n0) ∧ w'.cell? ⟨g1, 1, none⟩ = some (.int .i64 n1) ∧ w'.cell? ⟨g1, 2, none⟩ = some (.int .i64 n2) ∧ w'.cell? ⟨g1, 3, none⟩ = some (.int .i64 n3) ∧ w'.cell? ⟨g1, 4, none⟩ = some (.int .i64 n4) ∧ w'.cell? ⟨g1, 5, none⟩ = some (.int .i64 n5) ∧ w'.cell? ⟨g1, 6, none⟩ = some (.slice pu us.length cu)) [] hmo ?_
                  generalize z3.drew = zd at *
                  refine HeldX.move 0 (v := .int .i64 pa) rfl (by kernel_rfl) (by kernel_rfl) (by kernel_rfl) (by kernel_rfl) (fun _ _ _ h => h) S4 (.inl ⟨by kernel_rfl, fun w h => by go_simp⟩) ?_
                  go_simp
                  refine HeldX.move 1 (v := .pointer (some ⟨g1, 4, none⟩)) rfl (by kernel_rfl) (by kernel_rfl) (by kernel_rfl) (by kernel_rfl) (fun _ _ _ h => h) S4 (.inl ⟨by kernel_rfl, fun w h => by go_simp⟩) ?_
                  go_simp
                  refine HeldX.take 2 (v := .int .i64 n4) rfl (by kernel_rfl) (by kernel_rfl) (by kernel_rfl) (by kernel_rfl) (fun _ _ _ h => h) S4 (.inl ⟨by kernel_rfl, fun w h => by have h4 := h.2.2.2.2.1; go_simp⟩) ?_
                  go_simp
                  refine HeldX.move 3 (v := .bool (decide (n4 ≤ pa))) rfl (by kernel_rfl) (by kernel_rfl) (by kernel_rfl) (by kernel_rfl) (fun _ _ _ h => h) S4 (.inl ⟨by kernel_rfl, fun w h => by go_simp⟩) ?_
                  go_simp
                  refine HeldX.move 4 (v := .int .i64 pa) rfl (by kernel_rfl) (by kernel_rfl) (by kernel_rfl) (by kernel_rfl) (fun _ _ _ h => h) S4 (.inl ⟨by kernel_rfl, fun w h => by go_simp⟩) ?_
                  go_simp
                  refine HeldX.move 5 (v := .pointer (some ⟨g1, 3, none⟩)) rfl (by kernel_rfl) (by kernel_rfl) (by kernel_rfl) (by kernel_rfl) (fun _ _ _ h => h) S4 (.inl ⟨by kernel_rfl, fun w h => by go_simp⟩) ?_
                  go_simp
                  refine HeldX.take 6 (v := .int .i64 n3) rfl (by kernel_rfl) (by kernel_rfl) (by kernel_rfl) (by kernel_rfl) (fun _ _ _ h => h) S4 (.inl ⟨by kernel_rfl, fun w h => by have h3 := h.2.2.2.1; go_simp⟩) ?_
                  go_simp
                  refine HeldX.move 7 (v := .bool (decide (n3 ≤ pa))) rfl (by kernel_rfl) (by kernel_rfl) (by kernel_rfl) (by kernel_rfl) (fun _ _ _ h => h) S4 (.inl ⟨by kernel_rfl, fun w h => by go_simp⟩) ?_
                  go_simp
                  refine HeldX.move 8 (v := .int .i64 pa) rfl (by kernel_rfl) (by kernel_rfl) (by kernel_rfl) (by kernel_rfl) (fun _ _ _ h => h) S4 (.inl ⟨by kernel_rfl, fun w h => by go_simp⟩) ?_
                  go_simp
                  refine HeldX.take 9 (v := .agg #[.int .i64 n0, .int .i64 n1, .int .i64 n2, .int .i64 n3, .int .i64 n4, .int .i64 n5, .slice pu us.length cu]) rfl (by kernel_rfl) (by kernel_rfl) (by kernel_rfl) (by kernel_rfl) (fun _ _ _ h => h) S4 (.inl ⟨by kernel_rfl, fun w h => by have h0 := h.1; have h1 := h.2.1; have h2 := h.2.2.1; have h3 := h.2.2.2.1; have h4 := h.2.2.2.2.1; have h5 := h.2.2.2.2.2.1; have h6 := h.2.2.2.2.2.2; go_simp⟩) ?_
                  go_simp
                  refine HeldX.move 10 (v := .string ⟨b.toArray⟩) rfl (by kernel_rfl) (by kernel_rfl) (by kernel_rfl) (by kernel_rfl) (fun _ _ _ h => h) S4 (.inl ⟨by kernel_rfl, fun w h => by go_simp⟩) ?_
                  go_simp
                  refine HeldX.all [11, 14] (by kernel_rfl) (by simp) (HeldXAll.cons rfl (by kernel_rfl) (fun K hK => ?_) (HeldXAll.cons rfl (by kernel_rfl) (fun K hK => ?_) HeldXAll.nil))
                  · go_simp
                    refine (HQB.out _ B0).mono ?_
                    rintro e za ⟨rfl, hbz⟩
                    have X := X.low hbz
                    have B0 := B0.trans (hbz.mono B0.size)
                    refine hK _ _ ⟨X.cell 0 rfl, X.cell 1 rfl, X.cell 2 rfl, X.cell 3 rfl, X.cell 4 rfl, X.cell 5 rfl, X.cell 6 rfl⟩ ?_
                    clear hK K hbz
                    have hab : Hid (decide (pb < pa) = decide (pb < pa)) := Lib.hid rfl
                    refine HeldX.move 12 (v := .bool (decide (pb < pa))) rfl (by kernel_rfl) (by kernel_rfl) (by kernel_rfl) (by kernel_rfl) (fun _ _ _ h => h) (⟨X.cell 0 rfl, X.cell 1 rfl, X.cell 2 rfl, X.cell 3 rfl, X.cell 4 rfl, X.cell 5 rfl, X.cell 6 rfl⟩) (.inl ⟨by kernel_rfl, fun w h => by go_simp⟩) ?_
                    go_simp
                    generalize habq : decide (pb < pa) = ab at *
                    have HAB := Lib.hid habq
                    clear habq hab
                    refine HeldX.move 13 (v := .agg #[.string ⟨#[112, 117, 98, 108, 105, 99]⟩, .string ⟨#[106, 111, 105, 110]⟩, .string ⟨#[106, 111, 105, 110]⟩, .string ⟨#[98, 97, 110]⟩, .bool false, .bool false, .bool (decide (n3 ≤ pa)), .bool (decide (n4 ≤ pa)), .bool ab]) rfl (by kernel_rfl) (by kernel_rfl) (by kernel_rfl) (by kernel_rfl) (fun _ _ _ h => h) (⟨X.cell 0 rfl, X.cell 1 rfl, X.cell 2 rfl, X.cell 3 rfl, X.cell 4 rfl, X.cell 5 rfl, X.cell 6 rfl⟩) (.inl ⟨by kernel_rfl, fun w h => by go_simp⟩) ?_
                    go_simp
                    refine HeldX.one 14 (by kernel_rfl) rfl (by kernel_rfl) (fun K hK => ?_)
                    go_simp
                    have hbz := (Below.refl za.heap.size za).alloc (Nat.le_refl _) (.cells #[.string ⟨#[]⟩, .string ⟨#[]⟩, .string ⟨#[]⟩, .string ⟨#[]⟩, .bool false, .bool false, .bool false, .bool false, .bool false] 80)
                    have sX := X.size
                    have M := Blk.new za #[.string ⟨#[]⟩, .string ⟨#[]⟩, .string ⟨#[]⟩, .string ⟨#[]⟩, .bool false, .bool false, .bool false, .bool false, .bool false] 80
                    have X := X.low hbz
                    have hgB := B0.size
                    have B0 := B0.trans (hbz.mono B0.size)
                    refine hK _ _ ⟨X.cell 0 rfl, X.cell 1 rfl, X.cell 2 rfl, X.cell 3 rfl, X.cell 4 rfl, X.cell 5 rfl, X.cell 6 rfl⟩ ?_
                    clear hK K hbz
                    generalize za.alloc (.cells #[.string ⟨#[]⟩, .string ⟨#[]⟩, .string ⟨#[]⟩, .string ⟨#[]⟩, .bool false, .bool false, .bool false, .bool false, .bool false] 80) = zb at *
                    generalize za.heap.size = g2 at *
                    have q0 := M.cell 0 rfl
                    have fq0 := M.froz 0 (by simp)
                    have q1 := M.cell 1 rfl
                    have fq1 := M.froz 1 (by simp)
                    have q2 := M.cell 2 rfl
                    have fq2 := M.froz 2 (by simp)
                    have q3 := M.cell 3 rfl
                    have fq3 := M.froz 3 (by simp)
                    have q4 := M.cell 4 rfl
                    have fq4 := M.froz 4 (by simp)
                    have q5 := M.cell 5 rfl
                    have fq5 := M.froz 5 (by simp)
                    have q6 := M.cell 6 rfl
                    have fq6 := M.froz 6 (by simp)
                    have q7 := M.cell 7 rfl
                    have fq7 := M.froz 7 (by simp)
                    have q8 := M.cell 8 rfl
                    have fq8 := M.froz 8 (by simp)
                    have zq := M.size
                    refine HeldX.one 15 (by kernel_rfl) rfl (by kernel_rfl) (fun K hK => ?_)
                    go_simp
                    have M := (((((((((M.set 0 (by simp) (.string ⟨#[112, 117, 98, 108, 105, 99]⟩)).set 1 (by simp) (.string ⟨#[106, 111, 105, 110]⟩)).set 2 (by simp) (.string ⟨#[106, 111, 105, 110]⟩)).set 3 (by simp) (.string ⟨#[98, 97, 110]⟩)).set 4 (by simp) (.bool false)).set 5 (by simp) (.bool false)).set 6 (by simp) (.bool (decide (n3 ≤ pa)))).set 7 (by simp) (.bool (decide (n4 ≤ pa)))).set 8 (by simp) (.bool ab))
                    have G := gb_trans (gb_trans (gb_trans (gb_trans (gb_trans (gb_trans (gb_trans (gb_trans (gb_set zb g2 0 (.string ⟨#[112, 117, 98, 108, 105, 99]⟩)) (gb_set (zb.setCell ⟨g2, 0, none⟩ (.string ⟨#[112, 117, 98, 108, 105, 99]⟩)) g2 1 (.string ⟨#[106, 111, 105, 110]⟩))) (gb_set ((zb.setCell ⟨g2, 0, none⟩ (.string ⟨#[112, 117, 98, 108, 105, 99]⟩)).setCell ⟨g2, 1, none⟩ (.string ⟨#[106, 111, 105, 110]⟩)) g2 2 (.string ⟨#[106, 111, 105, 110]⟩))) (gb_set (((zb.setCell ⟨g2, 0, none⟩ (.string ⟨#[112, 117, 98, 108, 105, 99]⟩)).setCell ⟨g2, 1, none⟩ (.string ⟨#[106, 111, 105, 110]⟩)).setCell ⟨g2, 2, none⟩ (.string ⟨#[106, 111, 105, 110]⟩)) g2 3 (.string ⟨#[98, 97, 110]⟩))) (gb_set ((((zb.setCell ⟨g2, 0, none⟩ (.string ⟨#[112, 117, 98, 108, 105, 99]⟩)).setCell ⟨g2, 1, none⟩ (.string ⟨#[106, 111, 105, 110]⟩)).setCell ⟨g2, 2, none⟩ (.string ⟨#[106, 111, 105, 110]⟩)).setCell ⟨g2, 3, none⟩ (.string ⟨#[98, 97, 110]⟩)) g2 4 (.bool false))) (gb_set (((((zb.setCell ⟨g2, 0, none⟩ (.string ⟨#[112, 117, 98, 108, 105, 99]⟩)).setCell ⟨g2, 1, none⟩ (.string ⟨#[106, 111, 105, 110]⟩)).setCell ⟨g2, 2, none⟩ (.string ⟨#[106, 111, 105, 110]⟩)).setCell ⟨g2, 3, none⟩ (.string ⟨#[98, 97, 110]⟩)).setCell ⟨g2, 4, none⟩ (.bool false)) g2 5 (.bool false))) (gb_set ((((((zb.setCell ⟨g2, 0, none⟩ (.string ⟨#[112, 117, 98, 108, 105, 99]⟩)).setCell ⟨g2, 1, none⟩ (.string ⟨#[106, 111, 105, 110]⟩)).setCell ⟨g2, 2, none⟩ (.string ⟨#[106, 111, 105, 110]⟩)).setCell ⟨g2, 3, none⟩ (.string ⟨#[98, 97, 110]⟩)).setCell ⟨g2, 4, none⟩ (.bool false)).setCell ⟨g2, 5, none⟩ (.bool false)) g2 6 (.bool (decide (n3 ≤ pa))))) (gb_set (((((((zb.setCell ⟨g2, 0, none⟩ (.string ⟨#[112, 117, 98, 108, 105, 99]⟩)).setCell ⟨g2, 1, none⟩ (.string ⟨#[106, 111, 105, 110]⟩)).setCell ⟨g2, 2, none⟩ (.string ⟨#[106, 111, 105, 110]⟩)).setCell ⟨g2, 3, none⟩ (.string ⟨#[98, 97, 110]⟩)).setCell ⟨g2, 4, none⟩ (.bool false)).setCell ⟨g2, 5, none⟩ (.bool false)).setCell ⟨g2, 6, none⟩ (.bool (decide (n3 ≤ pa)))) g2 7 (.bool (decide (n4 ≤ pa))))) (gb_set ((((((((zb.setCell ⟨g2, 0, none⟩ (.string ⟨#[112, 117, 98, 108, 105, 99]⟩)).setCell ⟨g2, 1, none⟩ (.string ⟨#[106, 111, 105, 110]⟩)).setCell ⟨g2, 2, none⟩ (.string ⟨#[106, 111, 105, 110]⟩)).setCell ⟨g2, 3, none⟩ (.string ⟨#[98, 97, 110]⟩)).setCell ⟨g2, 4, none⟩ (.bool false)).setCell ⟨g2, 5, none⟩ (.bool false)).setCell ⟨g2, 6, none⟩ (.bool (decide (n3 ≤ pa)))).setCell ⟨g2, 7, none⟩ (.bool (decide (n4 ≤ pa)))) g2 8 (.bool ab))
                    have X := X.grown G (fun e => by injection e with e; omega)
                    have B0 := B0.grown G B0.size (fun k e => by injection e with e; omega)
                    refine hK _ _ ⟨X.cell 0 rfl, X.cell 1 rfl, X.cell 2 rfl, X.cell 3 rfl, X.cell 4 rfl, X.cell 5 rfl, X.cell 6 rfl⟩ ?_
                    clear hK K G q0 fq0 q1 fq1 q2 fq2 q3 fq3 q4 fq4 q5 fq5 q6 fq6 q7 fq7 q8 fq8 zq
                    generalize (((((((((zb.setCell ⟨g2, 0, none⟩ (.string ⟨#[112, 117, 98, 108, 105, 99]⟩)).setCell ⟨g2, 1, none⟩ (.string ⟨#[106, 111, 105, 110]⟩)).setCell ⟨g2, 2, none⟩ (.string ⟨#[106, 111, 105, 110]⟩)).setCell ⟨g2, 3, none⟩ (.string ⟨#[98, 97, 110]⟩)).setCell ⟨g2, 4, none⟩ (.bool false)).setCell ⟨g2, 5, none⟩ (.bool false)).setCell ⟨g2, 6, none⟩ (.bool (decide (n3 ≤ pa)))).setCell ⟨g2, 7, none⟩ (.bool (decide (n4 ≤ pa)))).setCell ⟨g2, 8, none⟩ (.bool ab)) = y1 at *
                    refine HeldX.done (by kernel_rfl) ?_ _
                    have q0 := M.cell 0 rfl
                    have q1 := M.cell 1 rfl
                    have q2 := M.cell 2 rfl
                    have q3 := M.cell 3 rfl
                    have q4 := M.cell 4 rfl
                    have q5 := M.cell 5 rfl
                    have q6 := M.cell 6 rfl
                    have q7 := M.cell 7 rfl
                    have q8 := M.cell 8 rfl
                    go_wp2_with fail
                    refine (allowed_ban (decide (n3 ≤ pa)) (decide (n4 ≤ pa)) ab y1).mono ?_
                    rintro e y2 ⟨rfl, hbz⟩
                    have X := X.low hbz
                    have M := M.low hbz
                    have B0 := B0.trans (hbz.mono B0.size)
                    clear hbz q0 q1 q2 q3 q4 q5 q6 q7 q8
                    have q0 := M.cell 0 rfl
                    have fq0 := M.froz 0 (by simp)
                    have q1 := M.cell 1 rfl
                    have fq1 := M.froz 1 (by simp)
                    have q2 := M.cell 2 rfl
                    have fq2 := M.froz 2 (by simp)
                    have q3 := M.cell 3 rfl
                    have fq3 := M.froz 3 (by simp)
                    have q4 := M.cell 4 rfl
                    have fq4 := M.froz 4 (by simp)
                    have q5 := M.cell 5 rfl
                    have fq5 := M.froz 5 (by simp)
                    have q6 := M.cell 6 rfl
                    have fq6 := M.froz 6 (by simp)
                    have q7 := M.cell 7 rfl
                    have fq7 := M.froz 7 (by simp)
                    have q8 := M.cell 8 rfl
                    have fq8 := M.froz 8 (by simp)
                    have zq := M.size
                    cases ab with
                    | false =>
                      generalize decide (n3 ≤ pa) = k3 at *
                      generalize decide (n4 ≤ pa) = k4 at *
                      cases k3 <;> cases k4
                      all_goals
                        go_wp2_with fail
                        have M := M.set 3 (by simp) (.string ⟨#[108, 101, 97, 118, 101]⟩)
                        have G := gb_set y2 g2 3 (.string ⟨#[108, 101, 97, 118, 101]⟩)
                        have X := X.grown G (fun e => by injection e with e; omega)
                        have B0 := B0.grown G B0.size (fun k e => by injection e with e; omega)
                        clear G zq q0 fq0 q1 fq1 q2 fq2 q3 fq3 q4 fq4 q5 fq5 q6 fq6 q7 fq7 q8 fq8
                        generalize y2.setCell ⟨g2, 3, none⟩ (.string ⟨#[108, 101, 97, 118, 101]⟩) = y3 at *
                        refine (allowed_leave _ _ _ y3).mono ?_
                        rintro e y4 ⟨rfl, hbz⟩
                        have X := X.low hbz
                        have B0 := B0.trans (hbz.mono B0.size)
                        clear hbz
                        go_wp2_with fail
                        go_ret
                        exact ⟨by first | rfl | (simp; done) | (simp; omega), WB.trans (B0.mono WB.size)⟩
                    | true =>
                      have hq := of_decide_eq_true HAB.out
                      generalize decide (n3 ≤ pa) = k3 at *
                      generalize decide (n4 ≤ pa) = k4 at *
                      cases k3 <;> cases k4
                      all_goals
                        go_wp2_with fail
                        have M := M.set 3 (by simp) (.string ⟨#[108, 101, 97, 118, 101]⟩)
                        have G := gb_set y2 g2 3 (.string ⟨#[108, 101, 97, 118, 101]⟩)
                        have X := X.grown G (fun e => by injection e with e; omega)
                        have B0 := B0.grown G B0.size (fun k e => by injection e with e; omega)
                        clear G zq q0 fq0 q1 fq1 q2 fq2 q3 fq3 q4 fq4 q5 fq5 q6 fq6 q7 fq7 q8 fq8
                        generalize y2.setCell ⟨g2, 3, none⟩ (.string ⟨#[108, 101, 97, 118, 101]⟩) = y3 at *
                        refine (allowed_leave _ _ _ y3).mono ?_
                        rintro e y4 ⟨rfl, hbz⟩
                        have X := X.low hbz
                        have B0 := B0.trans (hbz.mono B0.size)
                        clear hbz
                        have x0 := X.cell 0 rfl
                        have x1 := X.cell 1 rfl
                        have x2 := X.cell 2 rfl
                        have x3 := X.cell 3 rfl
                        have x4 := X.cell 4 rfl
                        have x5 := X.cell 5 rfl
                        have x6 := X.cell 6 rfl
                        go_wp2_with (go_at_call 31; refine (HQB.out _ B0).mono ?_; rintro e y5 ⟨rfl, hbz⟩; replace B0 := B0.trans (hbz.mono B0.size))
                        go_ret
                        exact ⟨by first | rfl | (simp; done) | (simp; omega), WB.trans (B0.mono WB.size)⟩
                  · go_simp
                    have hbz := (Below.refl zd.heap.size zd).alloc (Nat.le_refl _) (.cells #[.string ⟨#[]⟩, .string ⟨#[]⟩, .string ⟨#[]⟩, .string ⟨#[]⟩, .bool false, .bool false, .bool false, .bool false, .bool false] 80)
                    have sX := X.size
                    have M := Blk.new zd #[.string ⟨#[]⟩, .string ⟨#[]⟩, .string ⟨#[]⟩, .string ⟨#[]⟩, .bool false, .bool false, .bool false, .bool false, .bool false] 80
                    have X := X.low hbz
                    have hgB := B0.size
                    have B0 := B0.trans (hbz.mono B0.size)
                    refine hK _ _ ⟨X.cell 0 rfl, X.cell 1 rfl, X.cell 2 rfl, X.cell 3 rfl, X.cell 4 rfl, X.cell 5 rfl, X.cell 6 rfl⟩ ?_
                    clear hK K hbz
                    generalize zd.alloc (.cells #[.string ⟨#[]⟩, .string ⟨#[]⟩, .string ⟨#[]⟩, .string ⟨#[]⟩, .bool false, .bool false, .bool false, .bool false, .bool false] 80) = za at *
                    generalize zd.heap.size = g2 at *
                    refine HeldX.one 11 (by kernel_rfl) rfl (by kernel_rfl) (fun K hK => ?_)
                    go_simp
                    refine (HQB.out _ B0).mono ?_
                    rintro e zb ⟨rfl, hbz⟩
                    have X := X.low hbz
                    have B0 := B0.trans (hbz.mono B0.size)
                    have M := M.low hbz
                    refine hK _ _ ⟨X.cell 0 rfl, X.cell 1 rfl, X.cell 2 rfl, X.cell 3 rfl, X.cell 4 rfl, X.cell 5 rfl, X.cell 6 rfl⟩ ?_
                    clear hK K hbz
                    have hab : Hid (decide (pb < pa) = decide (pb < pa)) := Lib.hid rfl
                    refine HeldX.move 12 (v := .bool (decide (pb < pa))) rfl (by kernel_rfl) (by kernel_rfl) (by kernel_rfl) (by kernel_rfl) (fun _ _ _ h => h) (⟨X.cell 0 rfl, X.cell 1 rfl, X.cell 2 rfl, X.cell 3 rfl, X.cell 4 rfl, X.cell 5 rfl, X.cell 6 rfl⟩) (.inl ⟨by kernel_rfl, fun w h => by go_simp⟩) ?_
                    go_simp
                    generalize habq : decide (pb < pa) = ab at *
                    have HAB := Lib.hid habq
                    clear habq hab
                    refine HeldX.move 13 (v := .agg #[.string ⟨#[112, 117, 98, 108, 105, 99]⟩, .string ⟨#[106, 111, 105, 110]⟩, .string ⟨#[106, 111, 105, 110]⟩, .string ⟨#[98, 97, 110]⟩, .bool false, .bool false, .bool (decide (n3 ≤ pa)), .bool (decide (n4 ≤ pa)), .bool ab]) rfl (by kernel_rfl) (by kernel_rfl) (by kernel_rfl) (by kernel_rfl) (fun _ _ _ h => h) (⟨X.cell 0 rfl, X.cell 1 rfl, X.cell 2 rfl, X.cell 3 rfl, X.cell 4 rfl, X.cell 5 rfl, X.cell 6 rfl⟩) (.inl ⟨by kernel_rfl, fun w h => by go_simp⟩) ?_
                    go_simp
                    have q0 := M.cell 0 rfl
                    have fq0 := M.froz 0 (by simp)
                    have q1 := M.cell 1 rfl
                    have fq1 := M.froz 1 (by simp)
                    have q2 := M.cell 2 rfl
                    have fq2 := M.froz 2 (by simp)
                    have q3 := M.cell 3 rfl
                    have fq3 := M.froz 3 (by simp)
                    have q4 := M.cell 4 rfl
                    have fq4 := M.froz 4 (by simp)
                    have q5 := M.cell 5 rfl
                    have fq5 := M.froz 5 (by simp)
                    have q6 := M.cell 6 rfl
                    have fq6 := M.froz 6 (by simp)
                    have q7 := M.cell 7 rfl
                    have fq7 := M.froz 7 (by simp)
                    have q8 := M.cell 8 rfl
                    have fq8 := M.froz 8 (by simp)
                    have zq := M.size
                    refine HeldX.one 15 (by kernel_rfl) rfl (by kernel_rfl) (fun K hK => ?_)
                    go_simp
                    have M := (((((((((M.set 0 (by simp) (.string ⟨#[112, 117, 98, 108, 105, 99]⟩)).set 1 (by simp) (.string ⟨#[106, 111, 105, 110]⟩)).set 2 (by simp) (.string ⟨#[106, 111, 105, 110]⟩)).set 3 (by simp) (.string ⟨#[98, 97, 110]⟩)).set 4 (by simp) (.bool false)).set 5 (by simp) (.bool false)).set 6 (by simp) (.bool (decide (n3 ≤ pa)))).set 7 (by simp) (.bool (decide (n4 ≤ pa)))).set 8 (by simp) (.bool ab))
                    have G := gb_trans (gb_trans (gb_trans (gb_trans (gb_trans (gb_trans (gb_trans (gb_trans (gb_set zb g2 0 (.string ⟨#[112, 117, 98, 108, 105, 99]⟩)) (gb_set (zb.setCell ⟨g2, 0, none⟩ (.string ⟨#[112, 117, 98, 108, 105, 99]⟩)) g2 1 (.string ⟨#[106, 111, 105, 110]⟩))) (gb_set ((zb.setCell ⟨g2, 0, none⟩ (.string ⟨#[112, 117, 98, 108, 105, 99]⟩)).setCell ⟨g2, 1, none⟩ (.string ⟨#[106, 111, 105, 110]⟩)) g2 2 (.string ⟨#[106, 111, 105, 110]⟩))) (gb_set (((zb.setCell ⟨g2, 0, none⟩ (.string ⟨#[112, 117, 98, 108, 105, 99]⟩)).setCell ⟨g2, 1, none⟩ (.string ⟨#[106, 111, 105, 110]⟩)).setCell ⟨g2, 2, none⟩ (.string ⟨#[106, 111, 105, 110]⟩)) g2 3 (.string ⟨#[98, 97, 110]⟩))) (gb_set ((((zb.setCell ⟨g2, 0, none⟩ (.string ⟨#[112, 117, 98, 108, 105, 99]⟩)).setCell ⟨g2, 1, none⟩ (.string ⟨#[106, 111, 105, 110]⟩)).setCell ⟨g2, 2, none⟩ (.string ⟨#[106, 111, 105, 110]⟩)).setCell ⟨g2, 3, none⟩ (.string ⟨#[98, 97, 110]⟩)) g2 4 (.bool false))) (gb_set (((((zb.setCell ⟨g2, 0, none⟩ (.string ⟨#[112, 117, 98, 108, 105, 99]⟩)).setCell ⟨g2, 1, none⟩ (.string ⟨#[106, 111, 105, 110]⟩)).setCell ⟨g2, 2, none⟩ (.string ⟨#[106, 111, 105, 110]⟩)).setCell ⟨g2, 3, none⟩ (.string ⟨#[98, 97, 110]⟩)).setCell ⟨g2, 4, none⟩ (.bool false)) g2 5 (.bool false))) (gb_set ((((((zb.setCell ⟨g2, 0, none⟩ (.string ⟨#[112, 117, 98, 108, 105, 99]⟩)).setCell ⟨g2, 1, none⟩ (.string ⟨#[106, 111, 105, 110]⟩)).setCell ⟨g2, 2, none⟩ (.string ⟨#[106, 111, 105, 110]⟩)).setCell ⟨g2, 3, none⟩ (.string ⟨#[98, 97, 110]⟩)).setCell ⟨g2, 4, none⟩ (.bool false)).setCell ⟨g2, 5, none⟩ (.bool false)) g2 6 (.bool (decide (n3 ≤ pa))))) (gb_set (((((((zb.setCell ⟨g2, 0, none⟩ (.string ⟨#[112, 117, 98, 108, 105, 99]⟩)).setCell ⟨g2, 1, none⟩ (.string ⟨#[106, 111, 105, 110]⟩)).setCell ⟨g2, 2, none⟩ (.string ⟨#[106, 111, 105, 110]⟩)).setCell ⟨g2, 3, none⟩ (.string ⟨#[98, 97, 110]⟩)).setCell ⟨g2, 4, none⟩ (.bool false)).setCell ⟨g2, 5, none⟩ (.bool false)).setCell ⟨g2, 6, none⟩ (.bool (decide (n3 ≤ pa)))) g2 7 (.bool (decide (n4 ≤ pa))))) (gb_set ((((((((zb.setCell ⟨g2, 0, none⟩ (.string ⟨#[112, 117, 98, 108, 105, 99]⟩)).setCell ⟨g2, 1, none⟩ (.string ⟨#[106, 111, 105, 110]⟩)).setCell ⟨g2, 2, none⟩ (.string ⟨#[106, 111, 105, 110]⟩)).setCell ⟨g2, 3, none⟩ (.string ⟨#[98, 97, 110]⟩)).setCell ⟨g2, 4, none⟩ (.bool false)).setCell ⟨g2, 5, none⟩ (.bool false)).setCell ⟨g2, 6, none⟩ (.bool (decide (n3 ≤ pa)))).setCell ⟨g2, 7, none⟩ (.bool (decide (n4 ≤ pa)))) g2 8 (.bool ab))
                    have X := X.grown G (fun e => by injection e with e; omega)
                    have B0 := B0.grown G B0.size (fun k e => by injection e with e; omega)
                    refine hK _ _ ⟨X.cell 0 rfl, X.cell 1 rfl, X.cell 2 rfl, X.cell 3 rfl, X.cell 4 rfl, X.cell 5 rfl, X.cell 6 rfl⟩ ?_
                    clear hK K G q0 fq0 q1 fq1 q2 fq2 q3 fq3 q4 fq4 q5 fq5 q6 fq6 q7 fq7 q8 fq8 zq
                    generalize (((((((((zb.setCell ⟨g2, 0, none⟩ (.string ⟨#[112, 117, 98, 108, 105, 99]⟩)).setCell ⟨g2, 1, none⟩ (.string ⟨#[106, 111, 105, 110]⟩)).setCell ⟨g2, 2, none⟩ (.string ⟨#[106, 111, 105, 110]⟩)).setCell ⟨g2, 3, none⟩ (.string ⟨#[98, 97, 110]⟩)).setCell ⟨g2, 4, none⟩ (.bool false)).setCell ⟨g2, 5, none⟩ (.bool false)).setCell ⟨g2, 6, none⟩ (.bool (decide (n3 ≤ pa)))).setCell ⟨g2, 7, none⟩ (.bool (decide (n4 ≤ pa)))).setCell ⟨g2, 8, none⟩ (.bool ab)) = y1 at *
                    refine HeldX.done (by kernel_rfl) ?_ _
                    have q0 := M.cell 0 rfl
                    have q1 := M.cell 1 rfl
                    have q2 := M.cell 2 rfl
                    have q3 := M.cell 3 rfl
                    have q4 := M.cell 4 rfl
                    have q5 := M.cell 5 rfl
                    have q6 := M.cell 6 rfl
                    have q7 := M.cell 7 rfl
                    have q8 := M.cell 8 rfl
                    go_wp2_with fail
                    refine (allowed_ban (decide (n3 ≤ pa)) (decide (n4 ≤ pa)) ab y1).mono ?_
                    rintro e y2 ⟨rfl, hbz⟩
                    have X := X.low hbz
                    have M := M.low hbz
                    have B0 := B0.trans (hbz.mono B0.size)
                    clear hbz q0 q1 q2 q3 q4 q5 q6 q7 q8
                    have q0 := M.cell 0 rfl
                    have fq0 := M.froz 0 (by simp)
                    have q1 := M.cell 1 rfl
                    have fq1 := M.froz 1 (by simp)
                    have q2 := M.cell 2 rfl
                    have fq2 := M.froz 2 (by simp)
                    have q3 := M.cell 3 rfl
                    have fq3 := M.froz 3 (by simp)
                    have q4 := M.cell 4 rfl
                    have fq4 := M.froz 4 (by simp)
                    have q5 := M.cell 5 rfl
                    have fq5 := M.froz 5 (by simp)
                    have q6 := M.cell 6 rfl
                    have fq6 := M.froz 6 (by simp)
                    have q7 := M.cell 7 rfl
                    have fq7 := M.froz 7 (by simp)
                    have q8 := M.cell 8 rfl
                    have fq8 := M.froz 8 (by simp)
                    have zq := M.size
                    cases ab with
                    | false =>
                      generalize decide (n3 ≤ pa) = k3 at *
                      generalize decide (n4 ≤ pa) = k4 at *
                      cases k3 <;> cases k4
                      all_goals
                        go_wp2_with fail
                        have M := M.set 3 (by simp) (.string ⟨#[108, 101, 97, 118, 101]⟩)
                        have G := gb_set y2 g2 3 (.string ⟨#[108, 101, 97, 118, 101]⟩)
                        have X := X.grown G (fun e => by injection e with e; omega)
                        have B0 := B0.grown G B0.size (fun k e => by injection e with e; omega)
                        clear G zq q0 fq0 q1 fq1 q2 fq2 q3 fq3 q4 fq4 q5 fq5 q6 fq6 q7 fq7 q8 fq8
                        generalize y2.setCell ⟨g2, 3, none⟩ (.string ⟨#[108, 101, 97, 118, 101]⟩) = y3 at *
                        refine (allowed_leave _ _ _ y3).mono ?_
                        rintro e y4 ⟨rfl, hbz⟩
                        have X := X.low hbz
                        have B0 := B0.trans (hbz.mono B0.size)
                        clear hbz
                        go_wp2_with fail
                        go_ret
                        exact ⟨by first | rfl | (simp; done) | (simp; omega), WB.trans (B0.mono WB.size)⟩
                    | true =>
                      have hq := of_decide_eq_true HAB.out
                      generalize decide (n3 ≤ pa) = k3 at *
                      generalize decide (n4 ≤ pa) = k4 at *
                      cases k3 <;> cases k4
                      all_goals
                        go_wp2_with fail
                        have M := M.set 3 (by simp) (.string ⟨#[108, 101, 97, 118, 101]⟩)
                        have G := gb_set y2 g2 3 (.string ⟨#[108, 101, 97, 118, 101]⟩)
                        have X := X.grown G (fun e => by injection e with e; omega)
                        have B0 := B0.grown G B0.size (fun k e => by injection e with e; omega)
                        clear G zq q0 fq0 q1 fq1 q2 fq2 q3 fq3 q4 fq4 q5 fq5 q6 fq6 q7 fq7 q8 fq8
                        generalize y2.setCell ⟨g2, 3, none⟩ (.string ⟨#[108, 101, 97, 118, 101]⟩) = y3 at *
                        refine (allowed_leave _ _ _ y3).mono ?_
                        rintro e y4 ⟨rfl, hbz⟩
                        have X := X.low hbz
                        have B0 := B0.trans (hbz.mono B0.size)
                        clear hbz
                        have x0 := X.cell 0 rfl
                        have x1 := X.cell 1 rfl
                        have x2 := X.cell 2 rfl
                        have x3 := X.cell 3 rfl
                        have x4 := X.cell 4 rfl
                        have x5 := X.cell 5 rfl
                        have x6 := X.cell 6 rfl
                        go_wp2_with (go_at_call 31; refine (HQB.out _ B0).mono ?_; rintro e y5 ⟨rfl, hbz⟩; replace B0 := B0.trans (hbz.mono B0.size))
                        go_ret
                        exact ⟨by first | rfl | (simp; done) | (simp; omega), WB.trans (B0.mono WB.size)⟩
              · obtain rfl : j = bs.length := by omega
                clear hlt hj
                have hmo : Tryd.prog.follows .mixedOrders = true := by kernel_rfl
                have HQ := Lib.hid (fun y w' (hb : Below wr.heap.size wr w') => ofL_any n0 n1 n2 n3 n4 n5 (.slice pu us.length cu) us y w' (HU.out.low hb) hul)
                have hpa := HMO.out a
                have hpb := HMO.out b
                unfold levV at HQ
                have HQA := Lib.hid (fun w' hb => HQ.out a w' hb)
                have HQB := Lib.hid (fun w' hb => HQ.out b w' hb)
                clear HQ HMO
                generalize ofL n0 us a = pa at *
                generalize ofL n0 us b = pb at *
                have B0 := Below.refl wr.heap.size wr
                have X := HX.out
                have WB := HB.out
                have x0 := X.cell 0 rfl
                have x1 := X.cell 1 rfl
                have x2 := X.cell 2 rfl
                have x3 := X.cell 3 rfl
                have x4 := X.cell 4 rfl
                have x5 := X.cell 5 rfl
                have x6 := X.cell 6 rfl
                have zx := X.size
                go_wp2_with fail
                refine (HQA.out _ B0).mono ?_
                rintro e z1 ⟨rfl, hbz⟩
                have X := X.low hbz
                have B0 := B0.trans (hbz.mono B0.size)
                clear hbz
                clear x0 x1 x2 x3 x4 x5 x6
                have x0 := X.cell 0 rfl
                have x1 := X.cell 1 rfl
                have x2 := X.cell 2 rfl
                have x3 := X.cell 3 rfl
                have x4 := X.cell 4 rfl
                have x5 := X.cell 5 rfl
                have x6 := X.cell 6 rfl
                go_wp2_with fail
                refine (HQB.out _ B0).mono ?_
                rintro e z2 ⟨rfl, hbz⟩
                have X := X.low hbz
                have B0 := B0.trans (hbz.mono B0.size)
                clear hbz
                clear x0 x1 x2 x3 x4 x5 x6
                have x0 := X.cell 0 rfl
                have x1 := X.cell 1 rfl
                have x2 := X.cell 2 rfl
                have x3 := X.cell 3 rfl
                have x4 := X.cell 4 rfl
                have x5 := X.cell 5 rfl
                have x6 := X.cell 6 rfl
                go_wp2_with fail
                refine (HQA.out _ B0).mono ?_
                rintro e z3 ⟨rfl, hbz⟩
                have X := X.low hbz
                have B0 := B0.trans (hbz.mono B0.size)
                clear hbz
                clear x0 x1 x2 x3 x4 x5 x6
                go_wp2_with fail
                have X := X.drew
                have B0 := B0.drew
                have S4 : (fun w' => w'.cell? ⟨g1, 0, none⟩ = some (.int .i64 n0) ∧ w'.cell? ⟨g1, 1, none⟩ = some (.int .i64 n1) ∧ w'.cell? ⟨g1, 2, none⟩ = some (.int .i64 n2) ∧ w'.cell? ⟨g1, 3, none⟩ = some (.int .i64 n3) ∧ w'.cell? ⟨g1, 4, none⟩ = some (.int .i64 n4) ∧ w'.cell? ⟨g1, 5, none⟩ = some (.int .i64 n5) ∧ w'.cell? ⟨g1, 6, none⟩ = some (.slice pu us.length cu)) z3.drew := ⟨X.cell 0 rfl, X.cell 1 rfl, X.cell 2 rfl, X.cell 3 rfl, X.cell 4 rfl, X.cell 5 rfl, X.cell 6 rfl⟩
                refine wp_region_heldX (fun w' => w'.cell? ⟨g1, 0, none⟩ = some (.int .i64 n0) ∧ w'.cell? ⟨g1, 1, none⟩ = some (.int .i64 n1) ∧ w'.cell? ⟨g1, 2, none⟩ = some (.int .i64 n2) ∧ w'.cell? ⟨g1, 3, none⟩ = some (.int .i64 n3) ∧ w'.cell? ⟨g1, 4, none⟩ = some (.int .i64 n4) ∧ w'.cell? ⟨g1, 5, none⟩ = some (.int .i64 n5) ∧ w'.cell? ⟨g1, 6, none⟩ = some (.slice pu us.length cu)) [] hmo ?_
                generalize z3.drew = zd at *
                refine HeldX.move 0 (v := .int .i64 pa) rfl (by kernel_rfl) (by kernel_rfl) (by kernel_rfl) (by kernel_rfl) (fun _ _ _ h => h) S4 (.inl ⟨by kernel_rfl, fun w h => by go_simp⟩) ?_
                go_simp
                refine HeldX.move 1 (v := .pointer (some ⟨g1, 4, none⟩)) rfl (by kernel_rfl) (by kernel_rfl) (by kernel_rfl) (by kernel_rfl) (fun _ _ _ h => h) S4 (.inl ⟨by kernel_rfl, fun w h => by go_simp⟩) ?_
                go_simp
                refine HeldX.take 2 (v := .int .i64 n4) rfl (by kernel_rfl) (by kernel_rfl) (by kernel_rfl) (by kernel_rfl) (fun _ _ _ h => h) S4 (.inl ⟨by kernel_rfl, fun w h => by have h4 := h.2.2.2.2.1; go_simp⟩) ?_
                go_simp
                refine HeldX.move 3 (v := .bool (decide (n4 ≤ pa))) rfl (by kernel_rfl) (by kernel_rfl) (by kernel_rfl) (by kernel_rfl) (fun _ _ _ h => h) S4 (.inl ⟨by kernel_rfl, fun w h => by go_simp⟩) ?_
                go_simp
                refine HeldX.move 4 (v := .int .i64 pa) rfl (by kernel_rfl) (by kernel_rfl) (by kernel_rfl) (by kernel_rfl) (fun _ _ _ h => h) S4 (.inl ⟨by kernel_rfl, fun w h => by go_simp⟩) ?_
                go_simp
                refine HeldX.move 5 (v := .pointer (some ⟨g1, 3, none⟩)) rfl (by kernel_rfl) (by kernel_rfl) (by kernel_rfl) (by kernel_rfl) (fun _ _ _ h => h) S4 (.inl ⟨by kernel_rfl, fun w h => by go_simp⟩) ?_
                go_simp
                refine HeldX.take 6 (v := .int .i64 n3) rfl (by kernel_rfl) (by kernel_rfl) (by kernel_rfl) (by kernel_rfl) (fun _ _ _ h => h) S4 (.inl ⟨by kernel_rfl, fun w h => by have h3 := h.2.2.2.1; go_simp⟩) ?_
                go_simp
                refine HeldX.move 7 (v := .bool (decide (n3 ≤ pa))) rfl (by kernel_rfl) (by kernel_rfl) (by kernel_rfl) (by kernel_rfl) (fun _ _ _ h => h) S4 (.inl ⟨by kernel_rfl, fun w h => by go_simp⟩) ?_
                go_simp
                refine HeldX.move 8 (v := .int .i64 pa) rfl (by kernel_rfl) (by kernel_rfl) (by kernel_rfl) (by kernel_rfl) (fun _ _ _ h => h) S4 (.inl ⟨by kernel_rfl, fun w h => by go_simp⟩) ?_
                go_simp
                refine HeldX.take 9 (v := .agg #[.int .i64 n0, .int .i64 n1, .int .i64 n2, .int .i64 n3, .int .i64 n4, .int .i64 n5, .slice pu us.length cu]) rfl (by kernel_rfl) (by kernel_rfl) (by kernel_rfl) (by kernel_rfl) (fun _ _ _ h => h) S4 (.inl ⟨by kernel_rfl, fun w h => by have h0 := h.1; have h1 := h.2.1; have h2 := h.2.2.1; have h3 := h.2.2.2.1; have h4 := h.2.2.2.2.1; have h5 := h.2.2.2.2.2.1; have h6 := h.2.2.2.2.2.2; go_simp⟩) ?_
                go_simp
                refine HeldX.move 10 (v := .string ⟨b.toArray⟩) rfl (by kernel_rfl) (by kernel_rfl) (by kernel_rfl) (by kernel_rfl) (fun _ _ _ h => h) S4 (.inl ⟨by kernel_rfl, fun w h => by go_simp⟩) ?_
                go_simp
                refine HeldX.all [11, 14] (by kernel_rfl) (by simp) (HeldXAll.cons rfl (by kernel_rfl) (fun K hK => ?_) (HeldXAll.cons rfl (by kernel_rfl) (fun K hK => ?_) HeldXAll.nil))
                · go_simp
                  refine (HQB.out _ B0).mono ?_
                  rintro e za ⟨rfl, hbz⟩
                  have X := X.low hbz
                  have B0 := B0.trans (hbz.mono B0.size)
                  refine hK _ _ ⟨X.cell 0 rfl, X.cell 1 rfl, X.cell 2 rfl, X.cell 3 rfl, X.cell 4 rfl, X.cell 5 rfl, X.cell 6 rfl⟩ ?_
                  clear hK K hbz
                  have hab : Hid (decide (pb < pa) = decide (pb < pa)) := Lib.hid rfl
                  refine HeldX.move 12 (v := .bool (decide (pb < pa))) rfl (by kernel_rfl) (by kernel_rfl) (by kernel_rfl) (by kernel_rfl) (fun _ _ _ h => h) (⟨X.cell 0 rfl, X.cell 1 rfl, X.cell 2 rfl, X.cell 3 rfl, X.cell 4 rfl, X.cell 5 rfl, X.cell 6 rfl⟩) (.inl ⟨by kernel_rfl, fun w h => by go_simp⟩) ?_
                  go_simp
                  generalize habq : decide (pb < pa) = ab at *
                  have HAB := Lib.hid habq
                  clear habq hab
                  refine HeldX.move 13 (v := .agg #[.string ⟨#[112, 117, 98, 108, 105, 99]⟩, .string ⟨#[106, 111, 105, 110]⟩, .string ⟨#[106, 111, 105, 110]⟩, .string ⟨#[98, 97, 110]⟩, .bool false, .bool false, .bool (decide (n3 ≤ pa)), .bool (decide (n4 ≤ pa)), .bool ab]) rfl (by kernel_rfl) (by kernel_rfl) (by kernel_rfl) (by kernel_rfl) (fun _ _ _ h => h) (⟨X.cell 0 rfl, X.cell 1 rfl, X.cell 2 rfl, X.cell 3 rfl, X.cell 4 rfl, X.cell 5 rfl, X.cell 6 rfl⟩) (.inl ⟨by kernel_rfl, fun w h => by go_simp⟩) ?_
                  go_simp
                  refine HeldX.one 14 (by kernel_rfl) rfl (by kernel_rfl) (fun K hK => ?_)
                  go_simp
                  have hbz := (Below.refl za.heap.size za).alloc (Nat.le_refl _) (.cells #[.string ⟨#[]⟩, .string ⟨#[]⟩, .string ⟨#[]⟩, .string ⟨#[]⟩, .bool false, .bool false, .bool false, .bool false, .bool false] 80)
                  have sX := X.size
                  have M := Blk.new za #[.string ⟨#[]⟩, .string ⟨#[]⟩, .string ⟨#[]⟩, .string ⟨#[]⟩, .bool false, .bool false, .bool false, .bool false, .bool false] 80
                  have X := X.low hbz
                  have hgB := B0.size
                  have B0 := B0.trans (hbz.mono B0.size)
                  refine hK _ _ ⟨X.cell 0 rfl, X.cell 1 rfl, X.cell 2 rfl, X.cell 3 rfl, X.cell 4 rfl, X.cell 5 rfl, X.cell 6 rfl⟩ ?_
                  clear hK K hbz
                  generalize za.alloc (.cells #[.string ⟨#[]⟩, .string ⟨#[]⟩, .string ⟨#[]⟩, .string ⟨#[]⟩, .bool false, .bool false, .bool false, .bool false, .bool false] 80) = zb at *
                  generalize za.heap.size = g2 at *
                  have q0 := M.cell 0 rfl
                  have fq0 := M.froz 0 (by simp)
                  have q1 := M.cell 1 rfl
                  have fq1 := M.froz 1 (by simp)
                  have q2 := M.cell 2 rfl
                  have fq2 := M.froz 2 (by simp)
                  have q3 := M.cell 3 rfl
                  have fq3 := M.froz 3 (by simp)
                  have q4 := M.cell 4 rfl
                  have fq4 := M.froz 4 (by simp)
                  have q5 := M.cell 5 rfl
                  have fq5 := M.froz 5 (by simp)
                  have q6 := M.cell 6 rfl
                  have fq6 := M.froz 6 (by simp)
                  have q7 := M.cell 7 rfl
                  have fq7 := M.froz 7 (by simp)
                  have q8 := M.cell 8 rfl
                  have fq8 := M.froz 8 (by simp)
                  have zq := M.size
                  refine HeldX.one 15 (by kernel_rfl) rfl (by kernel_rfl) (fun K hK => ?_)
                  go_simp
                  have M := (((((((((M.set 0 (by simp) (.string ⟨#[112, 117, 98, 108, 105, 99]⟩)).set 1 (by simp) (.string ⟨#[106, 111, 105, 110]⟩)).set 2 (by simp) (.string ⟨#[106, 111, 105, 110]⟩)).set 3 (by simp) (.string ⟨#[98, 97, 110]⟩)).set 4 (by simp) (.bool false)).set 5 (by simp) (.bool false)).set 6 (by simp) (.bool (decide (n3 ≤ pa)))).set 7 (by simp) (.bool (decide (n4 ≤ pa)))).set 8 (by simp) (.bool ab))
                  have G := gb_trans (gb_trans (gb_trans (gb_trans (gb_trans (gb_trans (gb_trans (gb_trans (gb_set zb g2 0 (.string ⟨#[112, 117, 98, 108, 105, 99]⟩)) (gb_set (zb.setCell ⟨g2, 0, none⟩ (.string ⟨#[112, 117, 98, 108, 105, 99]⟩)) g2 1 (.string ⟨#[106, 111, 105, 110]⟩))) (gb_set ((zb.setCell ⟨g2, 0, none⟩ (.string ⟨#[112, 117, 98, 108, 105, 99]⟩)).setCell ⟨g2, 1, none⟩ (.string ⟨#[106, 111, 105, 110]⟩)) g2 2 (.string ⟨#[106, 111, 105, 110]⟩))) (gb_set (((zb.setCell ⟨g2, 0, none⟩ (.string ⟨#[112, 117, 98, 108, 105, 99]⟩)).setCell ⟨g2, 1, none⟩ (.string ⟨#[106, 111, 105, 110]⟩)).setCell ⟨g2, 2, none⟩ (.string ⟨#[106, 111, 105, 110]⟩)) g2 3 (.string ⟨#[98, 97, 110]⟩))) (gb_set ((((zb.setCell ⟨g2, 0, none⟩ (.string ⟨#[112, 117, 98, 108, 105, 99]⟩)).setCell ⟨g2, 1, none⟩ (.string ⟨#[106, 111, 105, 110]⟩)).setCell ⟨g2, 2, none⟩ (.string ⟨#[106, 111, 105, 110]⟩)).setCell ⟨g2, 3, none⟩ (.string ⟨#[98, 97, 110]⟩)) g2 4 (.bool false))) (gb_set (((((zb.setCell ⟨g2, 0, none⟩ (.string ⟨#[112, 117, 98, 108, 105, 99]⟩)).setCell ⟨g2, 1, none⟩ (.string ⟨#[106, 111, 105, 110]⟩)).setCell ⟨g2, 2, none⟩ (.string ⟨#[106, 111, 105, 110]⟩)).setCell ⟨g2, 3, none⟩ (.string ⟨#[98, 97, 110]⟩)).setCell ⟨g2, 4, none⟩ (.bool false)) g2 5 (.bool false))) (gb_set ((((((zb.setCell ⟨g2, 0, none⟩ (.string ⟨#[112, 117, 98, 108, 105, 99]⟩)).setCell ⟨g2, 1, none⟩ (.string ⟨#[106, 111, 105, 110]⟩)).setCell ⟨g2, 2, none⟩ (.string ⟨#[106, 111, 105, 110]⟩)).setCell ⟨g2, 3, none⟩ (.string ⟨#[98, 97, 110]⟩)).setCell ⟨g2, 4, none⟩ (.bool false)).setCell ⟨g2, 5, none⟩ (.bool false)) g2 6 (.bool (decide (n3 ≤ pa))))) (gb_set (((((((zb.setCell ⟨g2, 0, none⟩ (.string ⟨#[112, 117, 98, 108, 105, 99]⟩)).setCell ⟨g2, 1, none⟩ (.string ⟨#[106, 111, 105, 110]⟩)).setCell ⟨g2, 2, none⟩ (.string ⟨#[106, 111, 105, 110]⟩)).setCell ⟨g2, 3, none⟩ (.string ⟨#[98, 97, 110]⟩)).setCell ⟨g2, 4, none⟩ (.bool false)).setCell ⟨g2, 5, none⟩ (.bool false)).setCell ⟨g2, 6, none⟩ (.bool (decide (n3 ≤ pa)))) g2 7 (.bool (decide (n4 ≤ pa))))) (gb_set ((((((((zb.setCell ⟨g2, 0, none⟩ (.string ⟨#[112, 117, 98, 108, 105, 99]⟩)).setCell ⟨g2, 1, none⟩ (.string ⟨#[106, 111, 105, 110]⟩)).setCell ⟨g2, 2, none⟩ (.string ⟨#[106, 111, 105, 110]⟩)).setCell ⟨g2, 3, none⟩ (.string ⟨#[98, 97, 110]⟩)).setCell ⟨g2, 4, none⟩ (.bool false)).setCell ⟨g2, 5, none⟩ (.bool false)).setCell ⟨g2, 6, none⟩ (.bool (decide (n3 ≤ pa)))).setCell ⟨g2, 7, none⟩ (.bool (decide (n4 ≤ pa)))) g2 8 (.bool ab))
                  have X := X.grown G (fun e => by injection e with e; omega)
                  have B0 := B0.grown G B0.size (fun k e => by injection e with e; omega)
                  refine hK _ _ ⟨X.cell 0 rfl, X.cell 1 rfl, X.cell 2 rfl, X.cell 3 rfl, X.cell 4 rfl, X.cell 5 rfl, X.cell 6 rfl⟩ ?_
                  clear hK K G q0 fq0 q1 fq1 q2 fq2 q3 fq3 q4 fq4 q5 fq5 q6 fq6 q7 fq7 q8 fq8 zq
                  generalize (((((((((zb.setCell ⟨g2, 0, none⟩ (.string ⟨#[112, 117, 98, 108, 105, 99]⟩)).setCell ⟨g2, 1, none⟩ (.string ⟨#[106, 111, 105, 110]⟩)).setCell ⟨g2, 2, none⟩ (.string ⟨#[106, 111, 105, 110]⟩)).setCell ⟨g2, 3, none⟩ (.string ⟨#[98, 97, 110]⟩)).setCell ⟨g2, 4, none⟩ (.bool false)).setCell ⟨g2, 5, none⟩ (.bool false)).setCell ⟨g2, 6, none⟩ (.bool (decide (n3 ≤ pa)))).setCell ⟨g2, 7, none⟩ (.bool (decide (n4 ≤ pa)))).setCell ⟨g2, 8, none⟩ (.bool ab)) = y1 at *
                  refine HeldX.done (by kernel_rfl) ?_ _
                  have q0 := M.cell 0 rfl
                  have q1 := M.cell 1 rfl
                  have q2 := M.cell 2 rfl
                  have q3 := M.cell 3 rfl
                  have q4 := M.cell 4 rfl
                  have q5 := M.cell 5 rfl
                  have q6 := M.cell 6 rfl
                  have q7 := M.cell 7 rfl
                  have q8 := M.cell 8 rfl
                  go_wp2_with fail
                  refine (allowed_ban (decide (n3 ≤ pa)) (decide (n4 ≤ pa)) ab y1).mono ?_
                  rintro e y2 ⟨rfl, hbz⟩
                  have X := X.low hbz
                  have M := M.low hbz
                  have B0 := B0.trans (hbz.mono B0.size)
                  clear hbz q0 q1 q2 q3 q4 q5 q6 q7 q8
                  have q0 := M.cell 0 rfl
                  have fq0 := M.froz 0 (by simp)
                  have q1 := M.cell 1 rfl
                  have fq1 := M.froz 1 (by simp)
                  have q2 := M.cell 2 rfl
                  have fq2 := M.froz 2 (by simp)
                  have q3 := M.cell 3 rfl
                  have fq3 := M.froz 3 (by simp)
                  have q4 := M.cell 4 rfl
                  have fq4 := M.froz 4 (by simp)
                  have q5 := M.cell 5 rfl
                  have fq5 := M.froz 5 (by simp)
                  have q6 := M.cell 6 rfl
                  have fq6 := M.froz 6 (by simp)
                  have q7 := M.cell 7 rfl
                  have fq7 := M.froz 7 (by simp)
                  have q8 := M.cell 8 rfl
                  have fq8 := M.froz 8 (by simp)
                  have zq := M.size
                  cases ab with
                  | false =>
                    generalize decide (n3 ≤ pa) = k3 at *
                    generalize decide (n4 ≤ pa) = k4 at *
                    cases k3 <;> cases k4
                    all_goals
                      go_wp2_with fail
                      have M := M.set 3 (by simp) (.string ⟨#[108, 101, 97, 118, 101]⟩)
                      have G := gb_set y2 g2 3 (.string ⟨#[108, 101, 97, 118, 101]⟩)
                      have X := X.grown G (fun e => by injection e with e; omega)
                      have B0 := B0.grown G B0.size (fun k e => by injection e with e; omega)
                      clear G zq q0 fq0 q1 fq1 q2 fq2 q3 fq3 q4 fq4 q5 fq5 q6 fq6 q7 fq7 q8 fq8
                      generalize y2.setCell ⟨g2, 3, none⟩ (.string ⟨#[108, 101, 97, 118, 101]⟩) = y3 at *
                      refine (allowed_leave _ _ _ y3).mono ?_
                      rintro e y4 ⟨rfl, hbz⟩
                      have X := X.low hbz
                      have B0 := B0.trans (hbz.mono B0.size)
                      clear hbz
                      go_wp2_with fail
                      go_ret
                      exact ⟨by first | rfl | (simp; done) | (simp; omega), WB.trans (B0.mono WB.size)⟩
                  | true =>
                    have hq := of_decide_eq_true HAB.out
                    generalize decide (n3 ≤ pa) = k3 at *
                    generalize decide (n4 ≤ pa) = k4 at *
                    cases k3 <;> cases k4
                    all_goals
                      go_wp2_with fail
                      have M := M.set 3 (by simp) (.string ⟨#[108, 101, 97, 118, 101]⟩)
                      have G := gb_set y2 g2 3 (.string ⟨#[108, 101, 97, 118, 101]⟩)
                      have X := X.grown G (fun e => by injection e with e; omega)
                      have B0 := B0.grown G B0.size (fun k e => by injection e with e; omega)
                      clear G zq q0 fq0 q1 fq1 q2 fq2 q3 fq3 q4 fq4 q5 fq5 q6 fq6 q7 fq7 q8 fq8
                      generalize y2.setCell ⟨g2, 3, none⟩ (.string ⟨#[108, 101, 97, 118, 101]⟩) = y3 at *
                      refine (allowed_leave _ _ _ y3).mono ?_
                      rintro e y4 ⟨rfl, hbz⟩
                      have X := X.low hbz
                      have B0 := B0.trans (hbz.mono B0.size)
                      clear hbz
                      have x0 := X.cell 0 rfl
                      have x1 := X.cell 1 rfl
                      have x2 := X.cell 2 rfl
                      have x3 := X.cell 3 rfl
                      have x4 := X.cell 4 rfl
                      have x5 := X.cell 5 rfl
                      have x6 := X.cell 6 rfl
                      go_wp2_with (go_at_call 31; refine (HQB.out _ B0).mono ?_; rintro e y5 ⟨rfl, hbz⟩; replace B0 := B0.trans (hbz.mono B0.size))
                      go_ret
                      exact ⟨by first | rfl | (simp; done) | (simp; omega), WB.trans (B0.mono WB.size)⟩
                · go_simp
                  have hbz := (Below.refl zd.heap.size zd).alloc (Nat.le_refl _) (.cells #[.string ⟨#[]⟩, .string ⟨#[]⟩, .string ⟨#[]⟩, .string ⟨#[]⟩, .bool false, .bool false, .bool false, .bool false, .bool false] 80)
                  have sX := X.size
                  have M := Blk.new zd #[.string ⟨#[]⟩, .string ⟨#[]⟩, .string ⟨#[]⟩, .string ⟨#[]⟩, .bool false, .bool false, .bool false, .bool false, .bool false] 80
                  have X := X.low hbz
                  have hgB := B0.size
                  have B0 := B0.trans (hbz.mono B0.size)
                  refine hK _ _ ⟨X.cell 0 rfl, X.cell 1 rfl, X.cell 2 rfl, X.cell 3 rfl, X.cell 4 rfl, X.cell 5 rfl, X.cell 6 rfl⟩ ?_
                  clear hK K hbz
                  generalize zd.alloc (.cells #[.string ⟨#[]⟩, .string ⟨#[]⟩, .string ⟨#[]⟩, .string ⟨#[]⟩, .bool false, .bool false, .bool false, .bool false, .bool false] 80) = za at *
                  generalize zd.heap.size = g2 at *
                  refine HeldX.one 11 (by kernel_rfl) rfl (by kernel_rfl) (fun K hK => ?_)
                  go_simp
                  refine (HQB.out _ B0).mono ?_
                  rintro e zb ⟨rfl, hbz⟩
                  have X := X.low hbz
                  have B0 := B0.trans (hbz.mono B0.size)
                  have M := M.low hbz
                  refine hK _ _ ⟨X.cell 0 rfl, X.cell 1 rfl, X.cell 2 rfl, X.cell 3 rfl, X.cell 4 rfl, X.cell 5 rfl, X.cell 6 rfl⟩ ?_
                  clear hK K hbz
                  have hab : Hid (decide (pb < pa) = decide (pb < pa)) := Lib.hid rfl
                  refine HeldX.move 12 (v := .bool (decide (pb < pa))) rfl (by kernel_rfl) (by kernel_rfl) (by kernel_rfl) (by kernel_rfl) (fun _ _ _ h => h) (⟨X.cell 0 rfl, X.cell 1 rfl, X.cell 2 rfl, X.cell 3 rfl, X.cell 4 rfl, X.cell 5 rfl, X.cell 6 rfl⟩) (.inl ⟨by kernel_rfl, fun w h => by go_simp⟩) ?_
                  go_simp
                  generalize habq : decide (pb < pa) = ab at *
                  have HAB := Lib.hid habq
                  clear habq hab
                  refine HeldX.move 13 (v := .agg #[.string ⟨#[112, 117, 98, 108, 105, 99]⟩, .string ⟨#[106, 111, 105, 110]⟩, .string ⟨#[106, 111, 105, 110]⟩, .string ⟨#[98, 97, 110]⟩, .bool false, .bool false, .bool (decide (n3 ≤ pa)), .bool (decide (n4 ≤ pa)), .bool ab]) rfl (by kernel_rfl) (by kernel_rfl) (by kernel_rfl) (by kernel_rfl) (fun _ _ _ h => h) (⟨X.cell 0 rfl, X.cell 1 rfl, X.cell 2 rfl, X.cell 3 rfl, X.cell 4 rfl, X.cell 5 rfl, X.cell 6 rfl⟩) (.inl ⟨by kernel_rfl, fun w h => by go_simp⟩) ?_
                  go_simp
                  have q0 := M.cell 0 rfl
                  have fq0 := M.froz 0 (by simp)
                  have q1 := M.cell 1 rfl
                  have fq1 := M.froz 1 (by simp)
                  have q2 := M.cell 2 rfl
                  have fq2 := M.froz 2 (by simp)
                  have q3 := M.cell 3 rfl
                  have fq3 := M.froz 3 (by simp)
                  have q4 := M.cell 4 rfl
                  have fq4 := M.froz 4 (by simp)
                  have q5 := M.cell 5 rfl
                  have fq5 := M.froz 5 (by simp)
                  have q6 := M.cell 6 rfl
                  have fq6 := M.froz 6 (by simp)
                  have q7 := M.cell 7 rfl
                  have fq7 := M.froz 7 (by simp)
                  have q8 := M.cell 8 rfl
                  have fq8 := M.froz 8 (by simp)
                  have zq := M.size
                  refine HeldX.one 15 (by kernel_rfl) rfl (by kernel_rfl) (fun K hK => ?_)
                  go_simp
                  have M := (((((((((M.set 0 (by simp) (.string ⟨#[112, 117, 98, 108, 105, 99]⟩)).set 1 (by simp) (.string ⟨#[106, 111, 105, 110]⟩)).set 2 (by simp) (.string ⟨#[106, 111, 105, 110]⟩)).set 3 (by simp) (.string ⟨#[98, 97, 110]⟩)).set 4 (by simp) (.bool false)).set 5 (by simp) (.bool false)).set 6 (by simp) (.bool (decide (n3 ≤ pa)))).set 7 (by simp) (.bool (decide (n4 ≤ pa)))).set 8 (by simp) (.bool ab))
                  have G := gb_trans (gb_trans (gb_trans (gb_trans (gb_trans (gb_trans (gb_trans (gb_trans (gb_set zb g2 0 (.string ⟨#[112, 117, 98, 108, 105, 99]⟩)) (gb_set (zb.setCell ⟨g2, 0, none⟩ (.string ⟨#[112, 117, 98, 108, 105, 99]⟩)) g2 1 (.string ⟨#[106, 111, 105, 110]⟩))) (gb_set ((zb.setCell ⟨g2, 0, none⟩ (.string ⟨#[112, 117, 98, 108, 105, 99]⟩)).setCell ⟨g2, 1, none⟩ (.string ⟨#[106, 111, 105, 110]⟩)) g2 2 (.string ⟨#[106, 111, 105, 110]⟩))) (gb_set (((zb.setCell ⟨g2, 0, none⟩ (.string ⟨#[112, 117, 98, 108, 105, 99]⟩)).setCell ⟨g2, 1, none⟩ (.string ⟨#[106, 111, 105, 110]⟩)).setCell ⟨g2, 2, none⟩ (.string ⟨#[106, 111, 105, 110]⟩)) g2 3 (.string ⟨#[98, 97, 110]⟩))) (gb_set ((((zb.setCell ⟨g2, 0, none⟩ (.string ⟨#[112, 117, 98, 108, 105, 99]⟩)).setCell ⟨g2, 1, none⟩ (.string ⟨#[106, 111, 105, 110]⟩)).setCell ⟨g2, 2, none⟩ (.string ⟨#[106, 111, 105, 110]⟩)).setCell ⟨g2, 3, none⟩ (.string ⟨#[98, 97, 110]⟩)) g2 4 (.bool false))) (gb_set (((((zb.setCell ⟨g2, 0, none⟩ (.string ⟨#[112, 117, 98, 108, 105, 99]⟩)).setCell ⟨g2, 1, none⟩ (.string ⟨#[106, 111, 105, 110]⟩)).setCell ⟨g2, 2, none⟩ (.string ⟨#[106, 111, 105, 110]⟩)).setCell ⟨g2, 3, none⟩ (.string ⟨#[98, 97, 110]⟩)).setCell ⟨g2, 4, none⟩ (.bool false)) g2 5 (.bool false))) (gb_set ((((((zb.setCell ⟨g2, 0, none⟩ (.string ⟨#[112, 117, 98, 108, 105, 99]⟩)).setCell ⟨g2, 1, none⟩ (.string ⟨#[106, 111, 105, 110]⟩)).setCell ⟨g2, 2, none⟩ (.string ⟨#[106, 111, 105, 110]⟩)).setCell ⟨g2, 3, none⟩ (.string ⟨#[98, 97, 110]⟩)).setCell ⟨g2, 4, none⟩ (.bool false)).setCell ⟨g2, 5, none⟩ (.bool false)) g2 6 (.bool (decide (n3 ≤ pa))))) (gb_set (((((((zb.setCell ⟨g2, 0, none⟩ (.string ⟨#[112, 117, 98, 108, 105, 99]⟩)).setCell ⟨g2, 1, none⟩ (.string ⟨#[106, 111, 105, 110]⟩)).setCell ⟨g2, 2, none⟩ (.string ⟨#[106, 111, 105, 110]⟩)).setCell ⟨g2, 3, none⟩ (.string ⟨#[98, 97, 110]⟩)).setCell ⟨g2, 4, none⟩ (.bool false)).setCell ⟨g2, 5, none⟩ (.bool false)).setCell ⟨g2, 6, none⟩ (.bool (decide (n3 ≤ pa)))) g2 7 (.bool (decide (n4 ≤ pa))))) (gb_set ((((((((zb.setCell ⟨g2, 0, none⟩ (.string ⟨#[112, 117, 98, 108, 105, 99]⟩)).setCell ⟨g2, 1, none⟩ (.string ⟨#[106, 111, 105, 110]⟩)).setCell ⟨g2, 2, none⟩ (.string ⟨#[106, 111, 105, 110]⟩)).setCell ⟨g2, 3, none⟩ (.string ⟨#[98, 97, 110]⟩)).setCell ⟨g2, 4, none⟩ (.bool false)).setCell ⟨g2, 5, none⟩ (.bool false)).setCell ⟨g2, 6, none⟩ (.bool (decide (n3 ≤ pa)))).setCell ⟨g2, 7, none⟩ (.bool (decide (n4 ≤ pa)))) g2 8 (.bool ab))
                  have X := X.grown G (fun e => by injection e with e; omega)
                  have B0 := B0.grown G B0.size (fun k e => by injection e with e; omega)
                  refine hK _ _ ⟨X.cell 0 rfl, X.cell 1 rfl, X.cell 2 rfl, X.cell 3 rfl, X.cell 4 rfl, X.cell 5 rfl, X.cell 6 rfl⟩ ?_
                  clear hK K G q0 fq0 q1 fq1 q2 fq2 q3 fq3 q4 fq4 q5 fq5 q6 fq6 q7 fq7 q8 fq8 zq
                  generalize (((((((((zb.setCell ⟨g2, 0, none⟩ (.string ⟨#[112, 117, 98, 108, 105, 99]⟩)).setCell ⟨g2, 1, none⟩ (.string ⟨#[106, 111, 105, 110]⟩)).setCell ⟨g2, 2, none⟩ (.string ⟨#[106, 111, 105, 110]⟩)).setCell ⟨g2, 3, none⟩ (.string ⟨#[98, 97, 110]⟩)).setCell ⟨g2, 4, none⟩ (.bool false)).setCell ⟨g2, 5, none⟩ (.bool false)).setCell ⟨g2, 6, none⟩ (.bool (decide (n3 ≤ pa)))).setCell ⟨g2, 7, none⟩ (.bool (decide (n4 ≤ pa)))).setCell ⟨g2, 8, none⟩ (.bool ab)) = y1 at *
                  refine HeldX.done (by kernel_rfl) ?_ _
                  have q0 := M.cell 0 rfl
                  have q1 := M.cell 1 rfl
                  have q2 := M.cell 2 rfl
                  have q3 := M.cell 3 rfl
                  have q4 := M.cell 4 rfl
                  have q5 := M.cell 5 rfl
                  have q6 := M.cell 6 rfl
                  have q7 := M.cell 7 rfl
                  have q8 := M.cell 8 rfl
                  go_wp2_with fail
                  refine (allowed_ban (decide (n3 ≤ pa)) (decide (n4 ≤ pa)) ab y1).mono ?_
                  rintro e y2 ⟨rfl, hbz⟩
                  have X := X.low hbz
                  have M := M.low hbz
                  have B0 := B0.trans (hbz.mono B0.size)
                  clear hbz q0 q1 q2 q3 q4 q5 q6 q7 q8
                  have q0 := M.cell 0 rfl
                  have fq0 := M.froz 0 (by simp)
                  have q1 := M.cell 1 rfl
                  have fq1 := M.froz 1 (by simp)
                  have q2 := M.cell 2 rfl
                  have fq2 := M.froz 2 (by simp)
                  have q3 := M.cell 3 rfl
                  have fq3 := M.froz 3 (by simp)
                  have q4 := M.cell 4 rfl
                  have fq4 := M.froz 4 (by simp)
                  have q5 := M.cell 5 rfl
                  have fq5 := M.froz 5 (by simp)
                  have q6 := M.cell 6 rfl
                  have fq6 := M.froz 6 (by simp)
                  have q7 := M.cell 7 rfl
                  have fq7 := M.froz 7 (by simp)
                  have q8 := M.cell 8 rfl
                  have fq8 := M.froz 8 (by simp)
                  have zq := M.size
                  cases ab with
                  | false =>
                    generalize decide (n3 ≤ pa) = k3 at *
                    generalize decide (n4 ≤ pa) = k4 at *
                    cases k3 <;> cases k4
                    all_goals
                      go_wp2_with fail
                      have M := M.set 3 (by simp) (.string ⟨#[108, 101, 97, 118, 101]⟩)
                      have G := gb_set y2 g2 3 (.string ⟨#[108, 101, 97, 118, 101]⟩)
                      have X := X.grown G (fun e => by injection e with e; omega)
                      have B0 := B0.grown G B0.size (fun k e => by injection e with e; omega)
                      clear G zq q0 fq0 q1 fq1 q2 fq2 q3 fq3 q4 fq4 q5 fq5 q6 fq6 q7 fq7 q8 fq8
                      generalize y2.setCell ⟨g2, 3, none⟩ (.string ⟨#[108, 101, 97, 118, 101]⟩) = y3 at *
                      refine (allowed_leave _ _ _ y3).mono ?_
                      rintro e y4 ⟨rfl, hbz⟩
                      have X := X.low hbz
                      have B0 := B0.trans (hbz.mono B0.size)
                      clear hbz
                      go_wp2_with fail
                      go_ret
                      exact ⟨by first | rfl | (simp; done) | (simp; omega), WB.trans (B0.mono WB.size)⟩
                  | true =>
                    have hq := of_decide_eq_true HAB.out
                    generalize decide (n3 ≤ pa) = k3 at *
                    generalize decide (n4 ≤ pa) = k4 at *
                    cases k3 <;> cases k4
                    all_goals
                      go_wp2_with fail
                      have M := M.set 3 (by simp) (.string ⟨#[108, 101, 97, 118, 101]⟩)
                      have G := gb_set y2 g2 3 (.string ⟨#[108, 101, 97, 118, 101]⟩)
                      have X := X.grown G (fun e => by injection e with e; omega)
                      have B0 := B0.grown G B0.size (fun k e => by injection e with e; omega)
                      clear G zq q0 fq0 q1 fq1 q2 fq2 q3 fq3 q4 fq4 q5 fq5 q6 fq6 q7 fq7 q8 fq8
                      generalize y2.setCell ⟨g2, 3, none⟩ (.string ⟨#[108, 101, 97, 118, 101]⟩) = y3 at *
                      refine (allowed_leave _ _ _ y3).mono ?_
                      rintro e y4 ⟨rfl, hbz⟩
                      have X := X.low hbz
                      have B0 := B0.trans (hbz.mono B0.size)
                      clear hbz
                      have x0 := X.cell 0 rfl
                      have x1 := X.cell 1 rfl
                      have x2 := X.cell 2 rfl
                      have x3 := X.cell 3 rfl
                      have x4 := X.cell 4 rfl
                      have x5 := X.cell 5 rfl
                      have x6 := X.cell 6 rfl
                      go_wp2_with (go_at_call 31; refine (HQB.out _ B0).mono ?_; rintro e y5 ⟨rfl, hbz⟩; replace B0 := B0.trans (hbz.mono B0.size))
                      go_ret
                      exact ⟨by first | rfl | (simp; done) | (simp; omega), WB.trans (B0.mono WB.size)⟩
  · have B3 := B2.alloc B2.size (.cells #[.int .i64 0, .int .i64 0, .int .i64 0, .int .i64 0, .int .i64 0, .int .i64 0, .slice none 0 0] 72)
    unfold levV
    by_cases hlong : (4096 : Int) < (s.size : Int)
    · go_wp2_with fail
      go_ret
      exact ⟨rfl, B3⟩
    · go_wp2_with fail
      go_ret
      exact ⟨rfl, B3⟩
end Above
end Go.Proofs.YtbgjoefpnjgdkaaDoor
