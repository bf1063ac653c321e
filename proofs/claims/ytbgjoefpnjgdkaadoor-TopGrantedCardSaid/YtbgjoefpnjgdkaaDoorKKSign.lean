/- key.Sign. -/
import Derived.Test.YtbgjoefpnjgdkaaDoorKKeySign
namespace Go.Proofs.YtbgjoefpnjgdkaaDoor
open Go.RowKit
set_option linter.unusedVariables false
set_option linter.unusedSimpArgs false
set_option maxRecDepth 100000
namespace Key
open Sha Tree Go.Proofs.YtbgjoefpnjgdkaaDoor.One
set_option maxHeartbeats 2000000 in
theorem ksign_bad (s : List UInt8) (high next : Int) (t : ByteArray) (w : World) (hck : ∀ w, Calls Tryd.prog 99 #[keyV s high next] w fun e w' => e = .returned (.int .i64 2) ∧ Below w.heap.size w w') :
    Calls Tryd.prog 20 #[keyV s high next, .string t] w fun e w' => (∃ K : List UInt8 × Int × Int, e = .returned (.tuple #[keyV K.1 K.2.1 K.2.2, .string ⟨#[]⟩, .int .i64 2])) ∧ Below w.heap.size w w' := by
  have HM := Lib.hid (fun (W : World) => make_bad s high next W hck)
  clear hck
  unfold keyV at *
  have B0 := (Below.refl w.heap.size w).alloc (Nat.le_refl _) (.cells #[.string ⟨s.toArray⟩, .int .i64 high, .int .i64 next] 43)
  have A0 := Blk.new w #[.string ⟨s.toArray⟩, .int .i64 high, .int .i64 next] 43
  have hz0 := World.size_alloc w (.cells #[.string ⟨s.toArray⟩, .int .i64 high, .int .i64 next] 43)
  have A1 := Blk.new (w.alloc (.cells #[.string ⟨s.toArray⟩, .int .i64 high, .int .i64 next] 43)) #[.string ⟨#[]⟩, .int .i64 0, .int .i64 0] 43
  have B1 := B0.alloc (by omega) (.cells #[.string ⟨#[]⟩, .int .i64 0, .int .i64 0] 43)
  rw [hz0] at A1
  go_enter Tryd.func20, Tryd.ntmps20
  go_wp2_with fail
  generalize (w.alloc (.cells #[.string ⟨s.toArray⟩, .int .i64 high, .int .i64 next] 43)).alloc (.cells #[.string ⟨#[]⟩, .int .i64 0, .int .i64 0] 43) = wa at *
  refine (HM.out _).mono ?_
  rintro e w1 ⟨rfl, hb1⟩
  have A2 := A1.low hb1
  have B2 := B1.trans (hb1.mono B1.size)
  have k0 := A2.cell 0 rfl
  have k1 := A2.cell 1 rfl
  have k2 := A2.cell 2 rfl
  have f0 := A2.froz 0 (by decide)
  have f1 := A2.froz 1 (by decide)
  have f2 := A2.froz 2 (by decide)
  have l2 := A2.size
  go_wp2_with fail
  refine bodyPost_ret (v := .tuple #[.agg #[.string ⟨#[]⟩, .int .i64 0, .int .i64 0], .string ⟨#[]⟩, .int .i64 2]) (by simp [results, Tryd.f20, go_sem, k0, k1, k2, l2]) rfl ⟨⟨([], 0, 0), rfl⟩, ((B2.setCell (p := ⟨w.heap.size + 1, 0, none⟩) (by simp) _).setCell (p := ⟨w.heap.size + 1, 1, none⟩) (by simp) _).setCell (p := ⟨w.heap.size + 1, 2, none⟩) (by simp) _⟩
set_option maxHeartbeats 2000000 in
theorem ksign_main (X kk : Nat → Int) (s : List UInt8) (k : Nat) (hk : k ≤ 3) (hs0 : 0 < s.length) (hs : s.length ≤ 64) (next : Int) (N : Nat) (hN : N = 2 ^ k) (t : ByteArray) (w : World) (hT : Tabs w X kk)
    (hck : ∀ w, Calls Tryd.prog 99 #[keyV s (k : Int) next] w fun e w' => e = .returned (.int .i64 0) ∧ Below w.heap.size w w') (sg : List UInt8) (n2 er : Int)
    (hsign : ∀ g base v R w, R.length = 32 → Blk w g (ringC s (k : Int) next v R) → OwnH base w v (pubsL X kk s N) → Tabs w X kk → Calls Tryd.prog 52 #[.pointer (some ⟨g, 0, none⟩), .string t] w fun e w' => e = .returned (.tuple #[.string ⟨sg.toArray⟩, .int .i64 er]) ∧ Blk w' g (ringC s (k : Int) n2 v R) ∧ Below g w w') :
    Calls Tryd.prog 20 #[keyV s (k : Int) next, .string t] w fun e w' => (∃ K : List UInt8 × Int × Int, e = .returned (.tuple #[keyV K.1 K.2.1 K.2.2, .string ⟨sg.toArray⟩, .int .i64 er])) ∧ Below w.heap.size w w' := by
  have HM := Lib.hid (fun (W : World) (h : Below w.heap.size w W) => make_ok X kk s k hk hs0 hs next N hN W (hT.below rfl h) hck)
  have hr32 := Top.rootL_length X kk k _ ((pubsL_length X kk s N).trans hN) (pubsL_each X kk s N)
  have HS := Lib.hid hsign
  have HT := Lib.hid hT
  generalize rootL X kk k (pubsL X kk s N) = R at *
  clear hck hN hk hs hs0 hsign hT
  unfold keyV at *
  have B0 := (Below.refl w.heap.size w).alloc (Nat.le_refl _) (.cells #[.string ⟨s.toArray⟩, .int .i64 (k : Int), .int .i64 next] 43)
  have A0 := Blk.new w #[.string ⟨s.toArray⟩, .int .i64 (k : Int), .int .i64 next] 43
  have hz0 := World.size_alloc w (.cells #[.string ⟨s.toArray⟩, .int .i64 (k : Int), .int .i64 next] 43)
  have A1 := Blk.new (w.alloc (.cells #[.string ⟨s.toArray⟩, .int .i64 (k : Int), .int .i64 next] 43)) #[.string ⟨#[]⟩, .int .i64 0, .int .i64 0] 43
  have B1 := B0.alloc (by omega) (.cells #[.string ⟨#[]⟩, .int .i64 0, .int .i64 0] 43)
  rw [hz0] at A1
  go_enter Tryd.func20, Tryd.ntmps20
  go_wp2_with fail
  generalize (w.alloc (.cells #[.string ⟨s.toArray⟩, .int .i64 (k : Int), .int .i64 next] 43)).alloc (.cells #[.string ⟨#[]⟩, .int .i64 0, .int .i64 0] 43) = wa at *
  refine (HM.out _ B1).mono ?_
  rintro e w1 ⟨g, v, rfl, hg, hr, ho, hb1⟩
  have A2 := A1.low hb1
  have B2 := B1.trans (hb1.mono B1.size)
  have HSG := Lib.hid (HS.out g _ v R w1 hr32 hr ho (HT.out.below rfl B2))
  have hgw : w.heap.size + 1 < g := by have := A1.size; omega
  clear hr ho hb1 A1 A0 B1
  go_wp2_with fail
  refine HSG.out.mono ?_
  rintro e w2 ⟨rfl, hr2, hb2⟩
  have A3 := A2.below hb2 hgw
  have B3 := B2.trans (hb2.mono (by omega))
  have k0 := A3.cell 0 rfl
  have k1 := A3.cell 1 rfl
  have k2 := A3.cell 2 rfl
  have f0 := A3.froz 0 (by decide)
  have f1 := A3.froz 1 (by decide)
  have f2 := A3.froz 2 (by decide)
  have l2 := A3.size
  have r0 := hr2.cell 0 rfl
  have r1 := hr2.cell 1 rfl
  have r2 := hr2.cell 2 rfl
  have l3 := hr2.size
  clear A2 B2
  go_wp2_with fail
  refine bodyPost_ret (v := .tuple #[.agg #[.string ⟨s.toArray⟩, .int .i64 (k : Int), .int .i64 n2], .string ⟨sg.toArray⟩, .int .i64 er]) (by simp [results, Tryd.f20, go_sem, k0, k1, k2, l2]) rfl ⟨⟨(s, (k : Int), n2), rfl⟩, ((B3.setCell (p := ⟨w.heap.size + 1, 0, none⟩) (by simp) _).setCell (p := ⟨w.heap.size + 1, 1, none⟩) (by simp) _).setCell (p := ⟨w.heap.size + 1, 2, none⟩) (by simp) _⟩
end Key
end Go.Proofs.YtbgjoefpnjgdkaaDoor
