/- Plain facts for FnExactUndersIn; no condition. -/

import Derived.Test.YtkmjbfmmcijojaaQFnExactUndersIn
set_option linter.unusedVariables false
namespace Go.Proofs.Ytkmjbfmmcijojaa
open Go Go.T

theorem undersIn_both {p : List GEvent} (hp : smEventS p) : ∃ r : List GUnder × Bool, spec_UndersIn p = some r ∧ impl_UndersIn p = some r ∧ smUnderS r.1 := by
  have hp' : p.length < 1099511627776 := by have := (show p.length ≤ 1048576 from hp); omega
  rw [spec_UndersIn, impl_UndersIn]
  simp only [PS, spec_trace_eq hp', impl_trace_eq hp']
  cases hg : goodT p
  · exact ⟨([], false), by simp, by simp, by simp [smUnderS]⟩
  · unfold goodT at hg
    simp only [Bool.and_eq_true, decide_eq_true_eq] at hg
    obtain ⟨e1, e2⟩ := unders_both hg.2 hg.1
    simp only [PS, e1, e2]
    exact ⟨(undF p p.length, true), rfl, rfl, by have := undF_len p p.length; show (undF p p.length).length ≤ 1048576; omega⟩
theorem law_UndersIn (p : List GEvent) (hq : p.length ≤ 9223372036854775807) : laws_FnExactUndersIn p = some true :=
  law_UndersIn_of p hq undersIn_both
end Go.Proofs.Ytkmjbfmmcijojaa
