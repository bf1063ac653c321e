/- Plain laws of the law TopAbove: a change that may be leaves nobody above the greatest level. -/
import Derived.Test.YtbgjoefpnjgdkaaDoorAboveSeq
namespace Go.Proofs.YtbgjoefpnjgdkaaDoor
set_option linter.unusedVariables false
namespace Above
theorem findL_mem {us : List (List UInt8 × Int)} {y : List UInt8} {n : Int} (h : findL us y = (n, true)) : (y, n) ∈ us := by
  induction us with
  | nil => cases h
  | cons u r ih =>
    rw [findL] at h
    split at h
    · rename_i hu
      injection h with h1 _
      subst hu h1
      exact List.mem_cons_self
    · exact List.mem_cons_of_mem _ (ih h)
theorem ofL_le {n0 mo : Int} {us : List (List UInt8 × Int)} (h0 : n0 ≤ mo) (h : ∀ u ∈ us, u.2 ≤ mo) (y : List UInt8) : ofL n0 us y ≤ mo := by
  rw [ofL]
  obtain ⟨n, b, hf⟩ : ∃ n b, findL us y = (n, b) := ⟨_, _, rfl⟩
  rw [hf]
  cases b with
  | false => exact h0
  | true => exact h _ (findL_mem hf)
theorem change_keeps {n0 m0 mo : Int} {us ts : List (List UInt8 × Int)} {hv : Int} (h0 : n0 ≤ mo) (hu : ∀ y, ofL n0 us y ≤ mo) (hh : hv ≤ mo) (hm : n0 = m0 ∨ m0 ≤ hv) (hc : ∀ y ∈ changedL us ts, ofL m0 ts y ≤ hv) : m0 ≤ mo ∧ ∀ y, ofL m0 ts y ≤ mo := by
  have hm0 : m0 ≤ mo := by omega
  refine ⟨hm0, fun y => ?_⟩
  obtain ⟨n, b, hf⟩ : ∃ n b, findL ts y = (n, b) := ⟨_, _, rfl⟩
  cases b with
  | false => rw [ofL, hf]; exact hm0
  | true =>
    obtain ⟨n', b', hf'⟩ : ∃ n b, findL us y = (n, b) := ⟨_, _, rfl⟩
    cases b' with
    | false =>
      have hy : y ∈ changedL us ts := by
        rw [changedL]
        refine List.mem_append_right _ (List.mem_flatMap.2 ⟨(y, n), findL_mem hf, ?_⟩)
        rw [one2, hf', if_pos rfl]
        exact List.mem_singleton.2 rfl
      have := hc y hy
      omega
    | true =>
      by_cases hn : n = n'
      · have := hu y
        rw [ofL, hf'] at this
        rw [ofL, hf, hn]
        exact this
      · have hy : y ∈ changedL us ts := by
          rw [changedL]
          refine List.mem_append_left _ (List.mem_flatMap.2 ⟨(y, n'), findL_mem hf', ?_⟩)
          rw [one1, hf, if_pos (.inr hn)]
          exact List.mem_singleton.2 rfl
        have := hc y hy
        omega
end Above
end Go.Proofs.YtbgjoefpnjgdkaaDoor
