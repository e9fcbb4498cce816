/- Plain facts for FnExactEnabledIn; no condition. -/

import Derived.Test.YtgofeoobgpadiaaBK
set_option linter.unusedVariables false
namespace Go.Proofs.Ytgofeoobgpadiaa
open Go Go.T
theorem enabled_l0 {p : GProg} {s : GState} (h : ∀ t ∈ s.Threads, TG p s t) (h5 : s.Threads.length ≤ 5) : ∀ (n k : Nat) (a : List Int), k ≤ s.Threads.length → s.Threads.length < n + k → a.length ≤ k → (∀ x ∈ a, 0 ≤ x ∧ x < 5) → ∃ r, spec_l3Enabled_l0 s n p s a k = some r ∧ impl_State_enabled_l0 s n p a k = some r ∧ r.length ≤ s.Threads.length ∧ ∀ x ∈ r, 0 ≤ x ∧ x < 5
  | 0, k, a, h1, h2, h3, h4 => by omega
  | n + 1, k, a, h1, h2, h3, h4 => by
    rw [spec_l3Enabled_l0, impl_State_enabled_l0]
    by_cases hk : k < s.Threads.length
    · obtain ⟨b, w, e1, e2, e3, e4, e5⟩ := blocks (h _ (List.getElem_mem hk))
      have go : ∀ a' : List Int, a'.length ≤ k + 1 → (∀ x ∈ a', 0 ≤ x ∧ x < 5) → _ := fun a' ha hb => enabled_l0 h h5 n (k + 1) a' hk (by omega) ha hb
      have hm : (a ++ [(k : Int)]).length ≤ k + 1 := by simp; omega
      have hb : ∀ x ∈ a ++ [(k : Int)], 0 ≤ x ∧ x < 5 := fun x hx => by
        rcases List.mem_append.1 hx with hx | hx
        · exact h4 x hx
        · simp only [List.mem_singleton] at hx; subst hx; omega
      simp only [PS, hk, rd_at hk, w64_s (k := k) (by omega), e1, e2]
      by_cases hf : s.Fault = 0
      · have ef : (s.Fault == 0) = true := by simp [hf]
        by_cases hb0 : b < 0
        · have q1 : decide (b ≥ 0) = false := by simp; omega
          have q2 : decide (b < 0) = true := by simp; omega
          have ha := app_ok (a := a) (b := [(k : Int)]) (by simp; omega)
          by_cases s1 : s.Threads[k].State = 1
          · have es : (s.Threads[k].State == 1) = true := by simp [s1]
            simp only [PS, ef, es, q1, q2, ha]
            exact go _ hm hb
          · have es : (s.Threads[k].State == 1) = false := by simp [s1]
            by_cases s4 : s.Threads[k].State = 4
            · have es4 : (s.Threads[k].State == 4) = true := by simp [s4]
              simp only [PS, ef, es, es4, q1, q2, ha]
              exact go _ hm hb
            · have es4 : (s.Threads[k].State == 4) = false := by simp [s4]
              simp only [PS, ef, es, es4, q1, q2]
              exact go a (by omega) h4
        · have q1 : decide (b ≥ 0) = true := by simp; omega
          have q2 : decide (b < 0) = false := by simp; omega
          by_cases s1 : s.Threads[k].State = 1
          · have es : (s.Threads[k].State == 1) = true := by simp [s1]
            simp only [PS, ef, es, q1, q2]
            exact go a (by omega) h4
          · have es : (s.Threads[k].State == 1) = false := by simp [s1]
            by_cases s4 : s.Threads[k].State = 4
            · have es4 : (s.Threads[k].State == 4) = true := by simp [s4]
              simp only [PS, ef, es, es4, q1, q2]
              exact go a (by omega) h4
            · have es4 : (s.Threads[k].State == 4) = false := by simp [s4]
              simp only [PS, ef, es, es4, q1, q2]
              exact go a (by omega) h4
      · have ef : (s.Fault == 0) = false := by simp [hf]
        simp only [PS, ef]
        exact go a (by omega) h4
    · have : k = s.Threads.length := by omega
      subst this
      simp only [PS, Nat.lt_irrefl]
      exact ⟨a, rfl, rfl, h3, h4⟩
end Go.Proofs.Ytgofeoobgpadiaa
