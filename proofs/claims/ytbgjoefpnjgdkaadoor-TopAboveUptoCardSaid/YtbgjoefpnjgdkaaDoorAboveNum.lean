/- power's reader: num. -/
import Derived.Test.YtbgjoefpnjgdkaaDoorAboveRead
namespace Go.Proofs.YtbgjoefpnjgdkaaDoor
open Go.RowKit
set_option linter.unusedVariables false
set_option linter.unusedSimpArgs false
set_option maxRecDepth 100000
namespace Above
open Named Oct
set_option maxHeartbeats 4000000 in
theorem num_reads (g : Nat) (ls : List (List UInt8)) (bad : Bool) (v : Value) (w w0 : World) (h : Rdr w g ls bad v) (hl : ls.length ≤ 1048577) (hP : VarsP w0) (hB : Below w0.heap.size w0 w) (hg : w0.heap.size ≤ g) :
    Calls Tryd.prog 74 #[.pointer (some ⟨g, 0, none⟩)] w fun e w' => ∃ (n : Int) (bad' : Bool) (v' : Value), e = .returned (.int .i64 n) ∧ Rdr w' g ls.tail bad' v' ∧ w.grownBy w' (some g) := by
  have HN := Lib.hid (next_any g ls bad v w h hl)
  have HP := Lib.hid hP
  have hgk : ∀ k, some g = some k → w0.heap.size ≤ k := fun k e => by injection e with e; omega
  clear hP h
  go_enter Tryd.func74, Tryd.ntmps74
  go_wp2_with fail
  refine HN.out.mono ?_
  rintro e w1 ⟨s, bad1, v1, rfl, hs, R1, hg1⟩
  have B1 := hB.grown hg1 hB.size hgk
  have HU := Lib.hid (uint_7 s (by omega) w1 (HP.out.low B1).v)
  have hn := uintV_le 7 s
  generalize uintV 7 s = uv at HU hn
  obtain ⟨n, ok⟩ := uv
  dsimp only at HU hn
  have hn127 : n ≤ 127 := hn
  have hni : (n : Int) ≤ 127 := by omega
  have hn0 : (0 : Int) ≤ (n : Int) := by omega
  clear HN hn
  go_wp2_with fail
  refine HU.out.mono ?_
  rintro e w2 ⟨ev, rfl, hev, hb2⟩
  have R2 := R1.low hb2
  have hg2 := gb_trans hg1 (gb_below g hb2)
  have B2 := hB.grown hg2 hB.size hgk
  have HA := Lib.hid (appendUint_any n (by omega) w2 (HP.out.low B2))
  clear HU hg1 hb2 B1 R1
  rcases hev with ⟨-, rfl⟩ | ⟨-, et, ep, rfl⟩
  · go_wp2_with fail
    refine HA.out.mono ?_
    rintro e w3 ⟨v3, l3, rfl, hb3, hbl3⟩
    have hcv := hb3.conv
    have R3 := R2.low hbl3
    have hg3 := gb_trans hg2 (gb_below g hbl3)
    have f1 := R3.box.froz 1 (by simp)
    have c1 := R3.box.cell 1 rfl
    clear HA R2 hg2 hbl3
    by_cases hls : l3 = s
    · subst hls
      go_wp2_with fail
      go_ret
      exact ⟨_, _, _, rfl, R3, hg3⟩
    · have hd : (l3 == s) = false := by simpa using hls
      clear hls
      go_wp2_with fail
      go_ret
      exact ⟨_, _, _, rfl, ⟨R3.box.set 1 (by simp) (.bool true), R3.row.grown R3.box.size (gb_set _ _ _ _), R3.short⟩, gb_trans hg3 (gb_set _ _ _ _)⟩
  · have f1 := R2.box.froz 1 (by simp)
    have c1 := R2.box.cell 1 rfl
    clear HA
    go_wp2_with fail
    go_ret
    exact ⟨_, _, _, rfl, ⟨R2.box.set 1 (by simp) (.bool true), R2.row.grown R2.box.size (gb_set _ _ _ _), R2.short⟩, gb_trans hg2 (gb_set _ _ _ _)⟩
end Above
end Go.Proofs.YtbgjoefpnjgdkaaDoor
