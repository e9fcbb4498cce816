/- Plain facts for FnExactFirstForm; no condition. -/

import Derived.Test.YtfanhncmpbncpaaQFnExactFirstForm
set_option linter.unusedVariables false
namespace Go.Proofs.Ytfanhncmpbncpaa
open Go Go.T

theorem law_FirstForm (x0 : (List GEvent)) (g0 : x0.length ≤ 9223372036854775807) : laws_FnExactFirstForm x0 = some true := by
  refine law_FirstForm_of x0 g0 fun sm0 => ?_
  have hp : x0.length < 1099511627776 := by have := (show x0.length ≤ 1048576 from sm0); omega
  rw [spec_FirstForm, impl_FirstForm, spec_trace_eq hp, impl_trace_eq hp]
  cases hg : goodT x0
  · exact ⟨([], false), by simp, by simp, by show ([] : List GEvent).length ≤ 1048576; simp⟩
  · have h1 : x0.all goodE = true ∧ x0.length ≤ 200 := by simpa [goodT] using hg
    refine ⟨(formE x0.length x0 [], true), by simp [spec_form h1.2 h1.1], by simp [impl_form h1.2 h1.1], ?_⟩
    show (formE x0.length x0 []).length ≤ 1048576
    rw [formE_len _ _ _ rfl]
    simp; omega
end Go.Proofs.Ytfanhncmpbncpaa
