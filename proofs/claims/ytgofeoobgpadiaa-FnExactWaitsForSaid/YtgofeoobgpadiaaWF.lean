/- Plain facts for FnExactWaitsFor; no condition. -/

import Derived.Test.YtgofeoobgpadiaaQFnExactWaitsFor
set_option linter.unusedVariables false
namespace Go.Proofs.Ytgofeoobgpadiaa
open Go Go.T
theorem waits_l0 {p : GProg} {s : GState} (h : ∀ t ∈ s.Threads, TG p s t) (h5 : s.Threads.length ≤ 5) : ∀ (n k : Nat) (a : List (List Int)), k ≤ s.Threads.length → s.Threads.length < n + k → a.length ≤ k → (∀ x ∈ a, x.length ≤ 2) → ∃ r, spec_WaitsFor_l0 s n p s a k = some (r, true) ∧ impl_State_waitsFor_l0 s n p a k = some r ∧ r.length ≤ s.Threads.length ∧ ∀ x ∈ r, x.length ≤ 2
  | 0, k, a, h1, h2, h3, h4 => by omega
  | n + 1, k, a, h1, h2, h3, h4 => by
    rw [spec_WaitsFor_l0, impl_State_waitsFor_l0]
    by_cases hk : k < s.Threads.length
    · obtain ⟨b, w, e1, e2, e3, e4, e5⟩ := blocks (h _ (List.getElem_mem hk))
      simp only [PS, hk, rd_at hk, w64_s (k := k) (by omega), e1, e2]
      by_cases hb0 : 0 ≤ b
      · have q1 : decide (b ≥ 0) = true := by simp; omega
        have ha := app_ok (a := a) (b := [[(k : Int), b]]) (by simp; omega)
        rw [e5 hb0]
        simp only [PS, q1, ha]
        refine waits_l0 h h5 n (k + 1) _ hk (by omega) (by simp; omega) fun x hx => ?_
        rcases List.mem_append.1 hx with hx | hx
        · exact h4 x hx
        · simp only [List.mem_singleton] at hx; subst hx; simp
      · have q1 : decide (b ≥ 0) = false := by simp; omega
        simp only [PS, q1]
        exact waits_l0 h h5 n (k + 1) a hk (by omega) (by omega) h4
    · have : k = s.Threads.length := by omega
      subst this
      simp only [PS, Nat.lt_irrefl]
      exact ⟨a, rfl, rfl, h3, h4⟩
theorem law_WaitsFor (x0 : GProg) (x1 : GState) (g0 : wfGProg x0) (g1 : wfGState x1) : laws_FnExactWaitsFor x0 x1 = some true := by
  refine law_WaitsFor_of x0 x1 g0 g1 fun sm ss => ?_
  rw [spec_WaitsFor, impl_WaitsFor, spec_goodState sm g0 ⟨ss.1.1, ss.2.2⟩, impl_goodState sm ⟨ss.1.1, ss.2.2⟩]
  cases hg : goodP x0 && goodS x0 x1
  · exact ⟨([], false), by simp, by simp, ⟨by simp, by simp⟩⟩
  · rw [Bool.and_eq_true] at hg
    have ht := tg_of hg.1 hg.2 (fun t ht x hx => by
      have h1 := g1.1.2 t ht
      have h2 := h1.2.2.2.2.2
      exact h2.2 x hx)
    have h5 : x1.Threads.length ≤ 5 := by
      have := hg.2
      unfold goodS at this
      simp only [Bool.and_eq_true] at this
      have := inr_true.1 this.1.1.1.1.1
      omega
    obtain ⟨r, e1, e2, e3, e4⟩ := waits_l0 ht h5 FU 0 [] (by omega) (FU_gt (by omega)) (by simp) (by simp)
    rw [show ((0 : Nat) : Int) = 0 from rfl] at e1 e2
    refine ⟨(r, true), ?_, ?_, by show r.length ≤ 1048576; omega, fun y hy => by have := e4 y hy; show y.length ≤ 1048576; omega⟩
    · simp [e1]
    · simp [impl_State_waitsFor, e2]
end Go.Proofs.Ytgofeoobgpadiaa
