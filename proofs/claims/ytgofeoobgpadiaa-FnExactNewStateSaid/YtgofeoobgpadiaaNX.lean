/- Plain facts for FnExactNewState; no condition. -/

import Derived.Test.YtgofeoobgpadiaaQFnExactNewState
set_option linter.unusedVariables false
namespace Go.Proofs.Ytgofeoobgpadiaa
open Go Go.T
theorem law_NewState (x0 : GProg) (g0 : wfGProg x0) : laws_FnExactNewState x0 = some true := by
  refine law_NewState_of x0 g0 fun sm0 => ?_
  obtain ⟨r, e1, e2, h⟩ := new_both sm0 g0
  refine ⟨r, e1, e2, ?_⟩
  rcases h with rfl | ⟨c, l, h1, h2, rfl⟩
  · exact ⟨⟨by simp, by simp⟩, by show ([] : List Nat).length ≤ 1048576; simp, by show ([] : List Int).length ≤ 1048576; simp⟩
  · refine ⟨⟨by simp [newS], fun y hy => ?_⟩, ?_, ?_⟩
    · simp only [newS, List.mem_singleton] at hy
      subst hy
      show ([] : List Nat).length ≤ 1048576
      simp
    · show (List.replicate c (0 : Nat)).length ≤ 1048576
      simp; omega
    · show (List.replicate l (-1 : Int)).length ≤ 1048576
      simp; omega
end Go.Proofs.Ytgofeoobgpadiaa
