/- Plain facts for FnExactLockPairs; no condition. -/

import Derived.Test.YtihgcgccajikpaaQFnExactLockPairs
set_option linter.unusedVariables false
namespace Go.Proofs.Ytihgcgccajikpaa
open Go Go.T
theorem lockPairs_both {p : List GEvent} (hp : smEventS p) : ∃ r : List (List Int) × Bool, spec_LockPairs p = some r ∧ impl_LockPairs p = some r ∧ smIntSS r.1 := by
  have hp' : p.length < 1099511627776 := by have := (show p.length ≤ 1048576 from hp); omega
  rw [spec_LockPairs, impl_LockPairs]
  simp only [PS, spec_trace_eq hp', impl_trace_eq hp']
  cases hg : goodT p
  · exact ⟨([], false), by simp, by simp, by simp [smIntSS]⟩
  · unfold goodT at hg
    simp only [Bool.and_eq_true, decide_eq_true_eq] at hg
    obtain ⟨e1, e2⟩ := pairs_both hg.2 hg.1
    simp only [PS, e1, e2]
    refine ⟨(prs p, true), rfl, rfl, ?_, fun y hy => ?_⟩
    · have := prs_len (p := p) hg.2
      show (prs p).length ≤ 1048576; omega
    · obtain ⟨u, _, rfl⟩ := prs_two hy
      show (pr u).length ≤ 1048576
      simp [pr]
theorem law_LockPairs (p : List GEvent) (hq : p.length ≤ 9223372036854775807) : laws_FnExactLockPairs p = some true :=
  law_LockPairs_of p hq lockPairs_both
end Go.Proofs.Ytihgcgccajikpaa
