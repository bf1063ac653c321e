/- Joined of 2 texts: their lemmas, one behind the other; each says below what it holds. -/
import Derived.Test.YtbgjoefpnjgdkaaDoorShaSum
import Derived.OpenShut
import Derived.FnData
import Derived.Stop.Joined
import Derived.Test.YtbgjoefpnjgdkaaDoorIdentVars
/- What the row's list of variables gives the walks: the two tables of sums lie in the world. -/
namespace Go.Proofs.YtbgjoefpnjgdkaaDoor
open Go.RowKit Go.ChangeShapes Go.WideShapes
set_option linter.unusedVariables false
set_option maxRecDepth 100000

theorem laid_mem {P : Program} {W : World} : ∀ {laid : List (String × DataW Unit)} {ps : List MemPlace} (h : DataW.LaidVars P W laid ps) {n : String} {d : DataW Unit} (hm : (n, d) ∈ laid),
    ∃ g t cs fuel p, P.globalNamed n = some g ∧ (P.globals[g]?).map (·.type) = some t ∧ W.var? P n = some cs ∧ DataW.trod (fun _ => ()) P W 0 (fun _ => true) false fuel t cs.toList = some (d, p)
  | [], _, _, _, _, hm => by cases hm
  | (m, e) :: r, ps, h, n, d, hm => by
    obtain ⟨g, t, cs, fuel, p, q, h1, h2, h3, h4, h5, rfl⟩ := h
    rcases List.mem_cons.1 hm with hm | hm
    · injection hm with e1 e2
      subst e1 e2
      exact ⟨g, t, cs, fuel, p, h1, h2, h3, h4⟩
    · exact laid_mem h5 hm

theorem u32_cell {W : World} {t : TypeId} {N fuel : Nat} {cs : Array Value} {x : DataW Unit × List MemPlace} (ht : Tryd.prog.underlying t = some (.array N 100))
    (h : DataW.trod (fun _ => ()) Tryd.prog W 0 (fun _ => true) false fuel t cs.toList = some x) (j : Nat) (hj : j < N) : ∃ q : Int, cs[j]? = some (.int .u32 q) := by
  obtain ⟨xs, m, rfl, hx, _, hl, hel⟩ := DataW.trod_array ht h
  have c1 : Tryd.prog.cellsOf 100 = 1 := by kernel_rfl
  have hE := hel j hj
  rw [c1, Nat.mul_one, List.getElem?_eq_getElem (by omega)] at hE
  obtain ⟨z, e1, e2, _⟩ := DataW.trod_int Tryd.underlying100 hE
  refine ⟨z, ?_⟩
  have h0 : ((cs.toList.drop j).take 1)[0]? = some (.int .u32 z) := by rw [e1]; rfl
  simpa using h0

theorem tab_of {W : World} {t g N fuel : Nat} {nm : String} {cs : Array Value} {x : DataW Unit × List MemPlace} (hN : 0 < N) (ht : Tryd.prog.underlying t = some (.array N 100)) (hg : Tryd.prog.globalNamed nm = some g) (hv : W.var? Tryd.prog nm = some cs)
    (h : DataW.trod (fun _ => ()) Tryd.prog W 0 (fun _ => true) false fuel t cs.toList = some x) : ∃ f, Sha.Tab g W f N := by
  have hc : ∀ j, j < N → W.cell? ⟨g, j, none⟩ = some (.int .u32 (match cs[j]? with | some (.int _ q) => q | _ => 0)) := fun j hj => by
    obtain ⟨q, hq⟩ := u32_cell ht h j hj
    rw [World.var?_cell hg hv j, hq]
  exact ⟨fun j => match cs[j]? with | some (.int _ q) => q | _ => 0, World.block_lt_of_cell? W ⟨g, 0, none⟩ (hc 0 hN), hc⟩

theorem tabs_of {W : World} {laid : List (String × DataW Unit)} {dk db : DataW Unit} (h : laidMet Tryd.prog laid W) (hk : ("palaver/sha.k", dk) ∈ laid) (hb : ("palaver/sha.begin", db) ∈ laid) : ∃ X kk, Sha.Tabs W X kk := by
  obtain ⟨ps, hl, _, _⟩ := h
  obtain ⟨g, t, cs, fuel, p, hg, ht, hv, hd⟩ := laid_mem hl hk
  obtain ⟨g', t', cs', fuel', p', hg', ht', hv', hd'⟩ := laid_mem hl hb
  obtain rfl := Option.some.inj ((show Tryd.prog.globalNamed "palaver/sha.k" = some 3 by kernel_rfl).symm.trans hg)
  obtain rfl := Option.some.inj ((show (Tryd.prog.globals[3]?).map (·.type) = some 184 by kernel_rfl).symm.trans ht)
  obtain rfl := Option.some.inj ((show Tryd.prog.globalNamed "palaver/sha.begin" = some 0 by kernel_rfl).symm.trans hg')
  obtain rfl := Option.some.inj ((show (Tryd.prog.globals[0]?).map (·.type) = some 102 by kernel_rfl).symm.trans ht')
  obtain ⟨kk, hkk⟩ := tab_of (by decide) Tryd.underlying184 hg hv hd
  obtain ⟨X, hX⟩ := tab_of (by decide) Tryd.underlying102 hg' hv' hd'
  exact ⟨X, kk, ⟨hX, hkk⟩⟩
end Go.Proofs.YtbgjoefpnjgdkaaDoor
/- What the row's list of variables gives the walks of ident and event: the signs, the words, the errors lie in the world. -/
namespace Go.Proofs.YtbgjoefpnjgdkaaDoor
open Go.RowKit Go.ChangeShapes Go.WideShapes
set_option linter.unusedVariables false
set_option maxRecDepth 100000
namespace Named
theorem laid_mem {P : Program} {W : World} : ∀ {laid : List (String × DataW Unit)} {ps : List MemPlace} (h : DataW.LaidVars P W laid ps) {n : String} {d : DataW Unit} (hm : (n, d) ∈ laid),
    ∃ g t cs fuel p, P.globalNamed n = some g ∧ (P.globals[g]?).map (·.type) = some t ∧ W.var? P n = some cs ∧ DataW.trod (fun _ => ()) P W 0 (fun _ => true) false fuel t cs.toList = some (d, p)
  | [], _, _, _, _, hm => by cases hm
  | (m, e) :: r, ps, h, n, d, hm => by
    obtain ⟨g, t, cs, fuel, p, q, h1, h2, h3, h4, h5, rfl⟩ := h
    rcases List.mem_cons.1 hm with hm | hm
    · injection hm with e1 e2
      subst e1 e2
      exact ⟨g, t, cs, fuel, p, h1, h2, h3, h4⟩
    · exact laid_mem h5 hm

theorem iface_of {W : World} {t fuel : Nat} {ms : Array (String × TypeId)} {cs : Array Value} {x : DataW Unit × List MemPlace} {nm : String} {d : DataW Unit} (ht : Tryd.prog.underlying t = some (.interface ms))
    (h : DataW.trod (fun _ => ()) Tryd.prog W 0 (fun _ => true) false fuel t cs.toList = some x) (hx : x.1 = .iface nm d) : ∃ u v, cs[0]? = some (.iface u v) := by
  cases fuel with
  | zero => simp [DataW.trod] at h
  | succ m =>
    unfold DataW.trod at h
    rw [ht] at h
    split at h
    all_goals try (simp_all; done)
    all_goals try (cases h; cases hx; done)
    rename_i h1 h2
    exact ⟨_, _, by rw [← Array.getElem?_toList, h2]; rfl⟩

theorem string_of {W : World} {t N fuel : Nat} {cs : Array Value} {x : DataW Unit × List MemPlace} {ls : List (List UInt8)} (ht : Tryd.prog.underlying t = some (.array N 9))
    (h : DataW.trod (fun _ => ()) Tryd.prog W 0 (fun _ => true) false fuel t cs.toList = some x) (hx : x.1 = .agg (ls.map fun l => .lit (.string l))) (j : Nat) (hj : j < N) : cs[j]? = some (.string ⟨(ls.getD j []).toArray⟩) := by
  obtain ⟨xs, m, rfl, rfl, _, hl, hel⟩ := DataW.trod_array ht h
  have c1 : Tryd.prog.cellsOf 9 = 1 := by kernel_rfl
  have hE := hel j hj
  rw [c1, Nat.mul_one, List.getElem?_eq_getElem (by omega)] at hE
  obtain ⟨s, e1, e2, _⟩ := DataW.trod_string Tryd.underlying9 hE
  have hx' : xs.map (·.1) = ls.map fun l => .lit (.string l) := by injection hx
  have h3 : (xs.map (·.1))[j]? = some (.lit (.string s.data.toList)) := by
    rw [List.getElem?_map, List.getElem?_eq_getElem (by omega), e2]; rfl
  rw [hx', List.getElem?_map] at h3
  have h4 : ls[j]? = some s.data.toList := by
    cases hq : ls[j]? with
    | none => rw [hq] at h3; cases h3
    | some l =>
      rw [hq] at h3
      injection h3 with h3
      injection h3 with h3
      injection h3 with h3
      rw [h3]
  have h0 : ((cs.toList.drop j).take 1)[0]? = some (.string s) := by rw [e1]; rfl
  have h5 : cs[j]? = some (.string s) := by simpa using h0
  rw [h5, List.getD_eq_getElem?_getD, h4]
  rfl

theorem vars_of {W : World} {laid : List (String × DataW Unit)} {n1 n2 : String} {d1 d2 : DataW Unit} (h : laidMet Tryd.prog laid W) (hr : ("strconv.ErrRange", .iface n1 d1) ∈ laid) (hs : ("strconv.ErrSyntax", .iface n2 d2) ∈ laid)
    (hg : ("palaver/ident.signs", .agg [.lit (.string []), .lit (.string [64]), .lit (.string [33])]) ∈ laid) : Vars W := by
  obtain ⟨ps, hl, _, _⟩ := h
  obtain ⟨g, t, cs, fuel, p, h1, h2, h3, h4⟩ := laid_mem hl hr
  obtain rfl := Option.some.inj ((show Tryd.prog.globalNamed "strconv.ErrRange" = some 6 by kernel_rfl).symm.trans h1)
  obtain rfl := Option.some.inj ((show (Tryd.prog.globals[6]?).map (·.type) = some 146 by kernel_rfl).symm.trans h2)
  obtain ⟨g', t', cs', fuel', p', k1, k2, k3, k4⟩ := laid_mem hl hs
  obtain rfl := Option.some.inj ((show Tryd.prog.globalNamed "strconv.ErrSyntax" = some 5 by kernel_rfl).symm.trans k1)
  obtain rfl := Option.some.inj ((show (Tryd.prog.globals[5]?).map (·.type) = some 146 by kernel_rfl).symm.trans k2)
  obtain ⟨g'', t'', cs'', fuel'', p'', l1, l2, l3, l4⟩ := laid_mem hl hg
  obtain rfl := Option.some.inj ((show Tryd.prog.globalNamed "palaver/ident.signs" = some 1 by kernel_rfl).symm.trans l1)
  obtain rfl := Option.some.inj ((show (Tryd.prog.globals[1]?).map (·.type) = some 150 by kernel_rfl).symm.trans l2)
  have hstr := string_of (ls := [[], [64], [33]]) Tryd.underlying150 l4 rfl
  obtain ⟨u, v, e1⟩ := iface_of Tryd.underlying146 h4 rfl
  obtain ⟨u', v', e2⟩ := iface_of Tryd.underlying146 k4 rfl
  exact ⟨by rw [World.var?_cell l1 l3 1, hstr 1 (by decide)]; rfl, by rw [World.var?_cell l1 l3 2, hstr 2 (by decide)]; rfl, ⟨u', v', by rw [World.var?_cell k1 k3 0, e2]⟩, ⟨u, v, by rw [World.var?_cell h1 h3 0, e1]⟩⟩
end Named
end Go.Proofs.YtbgjoefpnjgdkaaDoor
