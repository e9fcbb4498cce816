/- Plain facts for FnExactSameBut; no condition. -/

import Derived.Test.YtfanhncmpbncpaaQFnExactSameBut
set_option linter.unusedVariables false
namespace Go.Proofs.Ytfanhncmpbncpaa
open Go Go.T

theorem law_SameBut (x0 : (List GEvent)) (x1 : (List GEvent)) (g0 : x0.length ≤ 9223372036854775807) (g1 : x1.length ≤ 9223372036854775807) : laws_FnExactSameBut x0 x1 = some true := by
  refine law_SameBut_of x0 x1 g0 g1 fun sm0 sm1 => ?_
  have hp : x0.length < 1099511627776 := by have := (show x0.length ≤ 1048576 from sm0); omega
  have hq : x1.length < 1099511627776 := by have := (show x1.length ≤ 1048576 from sm1); omega
  rw [spec_SameBut, impl_SameBut, spec_trace_eq hp, impl_trace_eq hp, spec_trace_eq hq, impl_trace_eq hq]
  cases hg : goodT x0
  · exact ⟨(false, false), by simp, by simp⟩
  · cases hg' : goodT x1
    · exact ⟨(false, false), by simp, by simp⟩
    · obtain ⟨h1, h2⟩ := goodT_iff hg
      obtain ⟨h3, h4⟩ := goodT_iff hg'
      refine ⟨(decide (formE x0.length x0 [] = formE x1.length x1 []), true), ?_, ?_⟩
      · simp [spec_form h2 h1, spec_form h4 h3, spec_same (form_small h2)]
      · simp [impl_form h2 h1, impl_form h4 h3, impl_same (form_small h2)]
end Go.Proofs.Ytfanhncmpbncpaa
