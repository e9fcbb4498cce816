/- Plain facts for FnExactIsForm; no condition. -/

import Derived.Test.YtfanhncmpbncpaaQFnExactIsForm
set_option linter.unusedVariables false
namespace Go.Proofs.Ytfanhncmpbncpaa
open Go Go.T

theorem law_IsForm (x0 : (List GEvent)) (g0 : x0.length ≤ 9223372036854775807) : laws_FnExactIsForm x0 = some true := by
  refine law_IsForm_of x0 g0 fun sm0 => ?_
  have hp : x0.length < 1099511627776 := by have := (show x0.length ≤ 1048576 from sm0); omega
  rw [spec_IsForm, impl_IsForm, spec_trace_eq hp, impl_trace_eq hp]
  cases hg : goodT x0
  · exact ⟨(false, false), by simp, by simp⟩
  · obtain ⟨h1, h2⟩ := goodT_iff hg
    refine ⟨(decide (formE x0.length x0 [] = x0), true), ?_, ?_⟩
    · simp [spec_form h2 h1, spec_same (form_small h2)]
    · simp [impl_form h2 h1, impl_same (form_small h2)]
end Go.Proofs.Ytfanhncmpbncpaa
