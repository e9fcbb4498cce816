/- Plain facts for FnExactStepState; no condition. -/

import Derived.Test.YtjcaompblpglcaaGreatST2
set_option linter.unusedVariables false
namespace Go.Proofs.YtjcaompblpglcaaGreat
open Go Go.T
theorem idx_l0 {p : List Int} {x : Int} (hp : p.length < 1000000) : ∀ (n k : Nat), k ≤ p.length → p.length < n + k → ∃ r : Int, slices_Index_int_int_l0 p x n k = some r ∧ decide (r ≥ 0) = (p.drop k).any (· == x)
 | 0, k, h1, h2 => by omega
 | n + 1, k, h1, h2 => by
  rw [slices_Index_int_int_l0]
  by_cases hk : k < p.length
  ·rw [List.drop_eq_getElem_cons hk, List.any_cons]
   obtain ⟨r, e1, e2⟩ := idx_l0 (x := x) hp n (k + 1) hk (by omega)
   simp only [PS, hk, rd_at hk, w64_s (k := k) (by omega), e1, e2]
   by_cases h : x = p[k]
   ·subst h; exact ⟨k, by simp, by simp⟩
   ·have h' : (p[k] == x) = false := by simp; exact fun e => h e.symm
    have h2 : (x == p[k]) = false := by simpa using h
    exact ⟨r, by simp [h', h2], by simp [h', e2]⟩
  ·have : k = p.length := by omega
   subst this
   exact ⟨-1, by simp, by simp⟩
theorem contains_eq {p : List Int} {x : Int} (hp : p.length < 1000000) : slices_Contains_int_int p x = some (p.any (· == x)) := by
 obtain ⟨r, e1, e2⟩ := idx_l0 (x := x) hp FU 0 (by omega) (by have := FU_gt (n := p.length) (by omega); omega)
 rw [slices_Contains_int_int, slices_Index_int_int, show slices_Index_int_int_l0 p x FU 0 = some r from e1]
 simpa using e2
theorem has_l0 {p : List Int} {x : Int} (hp : p.length < 1000000) : ∀ (n k : Nat), k ≤ p.length → p.length < n + k → spec_l1Has_l0 p x n k = some ((p.drop k).any (· == x))
 | 0, k, h1, h2 => by omega
 | n + 1, k, h1, h2 => by
  rw [spec_l1Has_l0]
  by_cases hk : k < p.length
  ·rw [List.drop_eq_getElem_cons hk, List.any_cons]
   simp only [PS, hk, rd_at hk, w64_s (k := k) (by omega), has_l0 (x := x) hp n (k + 1) hk (by omega)]
   by_cases h : p[k] = x <;> simp [h]
  ·have : k = p.length := by omega
   subst this
   simp
theorem has_eq {p : List Int} {x : Int} (hp : p.length < 1000000) : spec_l1Has p x = some (p.any (· == x)) := by
 rw [spec_l1Has]
 exact has_l0 hp FU 0 (by omega) (by have := FU_gt (n := p.length) (by omega); omega)
end Go.Proofs.YtjcaompblpglcaaGreat
