/- Plain facts for FnExactStepState; no condition. -/

import Derived.Test.YtjcaompblpglcaaGreatQFnExactStepState
set_option linter.unusedVariables false
namespace Go.Proofs.YtjcaompblpglcaaGreat
open Go Go.T
theorem law_StepState (x0 : GProg) (x1 : GState) (x2 : Int) (g0 : wfGProg x0) (g1 : wfGState x1) (g2 : (Lit.int .i64 x2).wf = true) : laws_FnExactStepState x0 x1 x2 = some true := by
  refine law_StepState_of x0 x1 x2 g0 g1 g2 fun sm ss => ?_
  rw [spec_StepState, impl_StepState, spec_goodState sm g0 ⟨ss.1.1, ss.2.2⟩, impl_goodState sm ⟨ss.1.1, ss.2.2⟩]
  have none_ok : smState (GState.mk [] [] [] 0) := ⟨⟨by simp, by simp⟩, by show ([] : List Nat).length ≤ 1048576; simp, by show ([] : List Int).length ≤ 1048576; simp⟩
  cases hg : goodP x0 && goodS x0 x1
  · exact ⟨(⟨[], [], [], 0⟩, ⟨0, 0, 0, 0, 0⟩, false), by simp, by simp, none_ok⟩
  · rw [Bool.and_eq_true] at hg
    have ht := tg_of hg.1 hg.2 (fun t ht x hx => by
      have h1 := g1.1.2 t ht
      have h2 := h1.2.2.2.2.2
      exact h2.2 x hx)
    have hgs := hg.2
    unfold goodS at hgs
    simp only [Bool.and_eq_true, decide_eq_true_eq] at hgs
    have h5 : x1.Threads.length ≤ 5 := by
      have := inr_true.1 hgs.1.1.1.1.1
      omega
    have hcl : (x1.Cells.length : Int) = x0.Cells := hgs.1.1.1.1.2
    have hsc : SC x1 := ⟨ss.1.1, ss.2.1, ss.2.2, ss.1.2⟩
    obtain ⟨r, e1, e2, e3, e4⟩ := enabled_m ht h5 FU 0 [] (by omega) (FU_gt (by omega)) (by simp) (by simp)
    rw [show ((0 : Nat) : Int) = 0 from rfl] at e1 e2
    simp only [Bool.not_true, Bool.false_eq_true, if_false, Option.bind_some, spec_l3Enabled, impl_State_enabled, e1, e2, has_eq (p := r) (x := x2) (by omega), contains_eq (p := r) (x := x2) (by omega)]
    cases hm : r.any (· == x2)
    · exact ⟨(⟨[], [], [], 0⟩, ⟨0, 0, 0, 0, 0⟩, false), by simp, by simp, none_ok⟩
    · obtain ⟨y, hy, hyx⟩ := List.any_eq_true.1 hm
      have hyx : y = x2 := by simpa using hyx
      subst hyx
      obtain ⟨j, hj, ej, est, _⟩ := e4 y hy
      subst ej
      obtain ⟨q, q1, q2, q3, q4, q5, q6⟩ := step_both hj ht hcl hsc est
      refine ⟨(q.1, q.2, true), ?_, ?_, ?_⟩
      · simp [spec_StepState_j0, q1]
      · simp [impl_StepState_j0, cop_eq hsc, q2]
      · refine ⟨⟨?_, fun t ht => ?_⟩, ?_, ?_⟩
        · show q.1.Threads.length ≤ 1048576; omega
        · have := q6 t ht
          show t.Stack.length ≤ 1048576; omega
        · have := ss.2.1
          show q.1.Cells.length ≤ 1048576
          rw [q4]; exact this
        · have := ss.2.2
          show q.1.Owner.length ≤ 1048576
          rw [q5]; exact this
end Go.Proofs.YtjcaompblpglcaaGreat
