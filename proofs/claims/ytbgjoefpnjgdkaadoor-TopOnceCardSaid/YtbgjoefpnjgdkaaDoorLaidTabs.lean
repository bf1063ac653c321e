/- What the row's list of variables gives the walks: the two tables of sums lie in the world. -/
import Derived.Test.YtbgjoefpnjgdkaaDoorShaSum
import Derived.OpenShut
import Derived.FnData
import Derived.Stop.Joined
namespace Go.Proofs.YtbgjoefpnjgdkaaDoor
open Go.RowKit Go.ChangeShapes Go.WideShapes
set_option linter.unusedVariables false
set_option maxRecDepth 100000

theorem laid_mem {P : Program} {W : World} : ∀ {laid : List (String × DataW Unit)} {ps : List MemPlace} (h : DataW.LaidVars P W laid ps) {n : String} {d : DataW Unit} (hm : (n, d) ∈ laid),
    ∃ g t cs fuel p, P.globalNamed n = some g ∧ (P.globals[g]?).map (·.type) = some t ∧ W.var? P n = some cs ∧ DataW.trod (fun _ => ()) P W 0 (fun _ => true) false fuel t cs.toList = some (d, p)
  | [], _, _, _, _, hm => by cases hm
  | (m, e) :: r, ps, h, n, d, hm => by
    obtain ⟨g, t, cs, fuel, p, q, h1, h2, h3, h4, h5, rfl⟩ := h
    rcases List.mem_cons.1 hm with hm | hm
    · injection hm with e1 e2
      subst e1 e2
      exact ⟨g, t, cs, fuel, p, h1, h2, h3, h4⟩
    · exact laid_mem h5 hm

theorem u32_cell {W : World} {t : TypeId} {N fuel : Nat} {cs : Array Value} {x : DataW Unit × List MemPlace} (ht : Tryd.prog.underlying t = some (.array N 100))
    (h : DataW.trod (fun _ => ()) Tryd.prog W 0 (fun _ => true) false fuel t cs.toList = some x) (j : Nat) (hj : j < N) : ∃ q : Int, cs[j]? = some (.int .u32 q) := by
  obtain ⟨xs, m, rfl, hx, _, hl, hel⟩ := DataW.trod_array ht h
  have c1 : Tryd.prog.cellsOf 100 = 1 := by kernel_rfl
  have hE := hel j hj
  rw [c1, Nat.mul_one, List.getElem?_eq_getElem (by omega)] at hE
  obtain ⟨z, e1, e2, _⟩ := DataW.trod_int Tryd.underlying100 hE
  refine ⟨z, ?_⟩
  have h0 : ((cs.toList.drop j).take 1)[0]? = some (.int .u32 z) := by rw [e1]; rfl
  simpa using h0

theorem tab_of {W : World} {t g N fuel : Nat} {nm : String} {cs : Array Value} {x : DataW Unit × List MemPlace} (hN : 0 < N) (ht : Tryd.prog.underlying t = some (.array N 100)) (hg : Tryd.prog.globalNamed nm = some g) (hv : W.var? Tryd.prog nm = some cs)
    (h : DataW.trod (fun _ => ()) Tryd.prog W 0 (fun _ => true) false fuel t cs.toList = some x) : ∃ f, Sha.Tab g W f N := by
  have hc : ∀ j, j < N → W.cell? ⟨g, j, none⟩ = some (.int .u32 (match cs[j]? with | some (.int _ q) => q | _ => 0)) := fun j hj => by
    obtain ⟨q, hq⟩ := u32_cell ht h j hj
    rw [World.var?_cell hg hv j, hq]
  exact ⟨fun j => match cs[j]? with | some (.int _ q) => q | _ => 0, World.block_lt_of_cell? W ⟨g, 0, none⟩ (hc 0 hN), hc⟩

theorem tabs_of {W : World} {laid : List (String × DataW Unit)} {dk db : DataW Unit} (h : laidMet Tryd.prog laid W) (hk : ("palaver/sha.k", dk) ∈ laid) (hb : ("palaver/sha.begin", db) ∈ laid) : ∃ X kk, Sha.Tabs W X kk := by
  obtain ⟨ps, hl, _, _⟩ := h
  obtain ⟨g, t, cs, fuel, p, hg, ht, hv, hd⟩ := laid_mem hl hk
  obtain ⟨g', t', cs', fuel', p', hg', ht', hv', hd'⟩ := laid_mem hl hb
  obtain rfl := Option.some.inj ((show Tryd.prog.globalNamed "palaver/sha.k" = some 3 by kernel_rfl).symm.trans hg)
  obtain rfl := Option.some.inj ((show (Tryd.prog.globals[3]?).map (·.type) = some 184 by kernel_rfl).symm.trans ht)
  obtain rfl := Option.some.inj ((show Tryd.prog.globalNamed "palaver/sha.begin" = some 0 by kernel_rfl).symm.trans hg')
  obtain rfl := Option.some.inj ((show (Tryd.prog.globals[0]?).map (·.type) = some 102 by kernel_rfl).symm.trans ht')
  obtain ⟨kk, hkk⟩ := tab_of (by decide) Tryd.underlying184 hg hv hd
  obtain ⟨X, hX⟩ := tab_of (by decide) Tryd.underlying102 hg' hv' hd'
  exact ⟨X, kk, ⟨hX, hkk⟩⟩
end Go.Proofs.YtbgjoefpnjgdkaaDoor
