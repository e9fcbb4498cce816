/- Plain facts for FnExactEnabledIn; no condition. -/

import Derived.Test.YtgofeoobgpadiaaQFnExactEnabledIn
set_option linter.unusedVariables false
namespace Go.Proofs.Ytgofeoobgpadiaa
open Go Go.T
theorem law_EnabledIn (x0 : GProg) (x1 : GState) (g0 : wfGProg x0) (g1 : wfGState x1) : laws_FnExactEnabledIn x0 x1 = some true := by
  refine law_EnabledIn_of x0 x1 g0 g1 fun sm ss => ?_
  rw [spec_EnabledIn, impl_EnabledIn, spec_goodState sm g0 ⟨ss.1.1, ss.2.2⟩, impl_goodState sm ⟨ss.1.1, ss.2.2⟩]
  cases hg : goodP x0 && goodS x0 x1
  · exact ⟨([], false), by simp, by simp, by show ([] : List Int).length ≤ 1048576; simp⟩
  · rw [Bool.and_eq_true] at hg
    have ht := tg_of hg.1 hg.2 (fun t ht x hx => by
      have h1 := g1.1.2 t ht
      have h2 := h1.2.2.2.2.2
      exact h2.2 x hx)
    have h5 : x1.Threads.length ≤ 5 := by
      have := hg.2
      unfold goodS at this
      simp only [Bool.and_eq_true] at this
      have := inr_true.1 this.1.1.1.1.1
      omega
    obtain ⟨r, e1, e2, e3, _⟩ := enabled_l0 ht h5 FU 0 [] (by omega) (FU_gt (by omega)) (by simp) (by simp)
    rw [show ((0 : Nat) : Int) = 0 from rfl] at e1 e2
    refine ⟨(r, true), ?_, ?_, by show r.length ≤ 1048576; omega⟩
    · simp [spec_l3Enabled, e1]
    · simp [impl_State_enabled, e2]
end Go.Proofs.Ytgofeoobgpadiaa
