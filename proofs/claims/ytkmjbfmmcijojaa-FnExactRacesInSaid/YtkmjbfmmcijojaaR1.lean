/- Plain facts for FnExactRacesIn; no condition. -/

import Derived.Test.YtkmjbfmmcijojaaQFnExactRacesIn
set_option linter.unusedVariables false
namespace Go.Proofs.Ytkmjbfmmcijojaa
open Go Go.T

theorem racesIn_both {p : List GEvent} (hp : smEventS p) : ∃ r : List GRace × Bool, spec_RacesIn p = some r ∧ impl_RacesIn p = some r ∧ smRaceS r.1 := by
  have hp' : p.length < 1099511627776 := by have := (show p.length ≤ 1048576 from hp); omega
  rw [spec_RacesIn, impl_RacesIn]
  simp only [PS, spec_trace_eq hp', impl_trace_eq hp']
  cases hg : goodT p
  · exact ⟨([], false), by simp, by simp, by simp [smRaceS]⟩
  · unfold goodT at hg
    simp only [Bool.and_eq_true, decide_eq_true_eq] at hg
    obtain ⟨r, e1, e2, e3⟩ := races_both hg.2 hg.1
    simp only [PS, e1, e2]
    exact ⟨(r, true), rfl, rfl, by have := e3.1; show r.length ≤ 1048576; omega⟩
theorem law_RacesIn (p : List GEvent) (hq : p.length ≤ 9223372036854775807) : laws_FnExactRacesIn p = some true :=
  law_RacesIn_of p hq racesIn_both
end Go.Proofs.Ytkmjbfmmcijojaa
