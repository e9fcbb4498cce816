/- Plain facts for FnExactOrderOf; no condition. -/

import Derived.Test.YtjcaompblpglcaaLPa
set_option linter.unusedVariables false
namespace Go.Proofs.Ytjcaompblpglcaa
open Go Go.T
theorem Xa7 {p : List Int} {x : Int} (hp : p.length < 1000000) : ∀ (n k : Nat), k ≤ p.length → p.length < n + k → ∃ r : Int, Qau p x n k = some r ∧ decide (r ≥ 0) = (p.drop k).any (· == x)
 | 0, k, h1, h2 => by omega
 | n + 1, k, h1, h2 => by
  rw [Qau]
  by_cases hk : k < p.length
  ·rw [List.drop_eq_getElem_cons hk, List.any_cons]
   obtain ⟨r, e1, e2⟩ := Xa7 (x := x) hp n (k + 1) hk (by omega)
   simp only [PS, hk, Qdm hk, Qcx (k := k) (by omega), e1, e2]
   by_cases h : x = p[k]
   ·subst h; exact ⟨k, by simp, by simp⟩
   ·have h' : (p[k] == x) = false := by simp; exact fun e => h e.symm
    have h2 : (x == p[k]) = false := by simpa using h
    exact ⟨r, by simp [h', h2], by simp [h', e2]⟩
  ·have : k = p.length := by omega
   subst this
   exact ⟨-1, by simp, by simp⟩
theorem Qu5 {p : List Int} {x : Int} (hp : p.length < 1000000) : Qba p x = some (p.any (· == x)) := by
 obtain ⟨r, e1, e2⟩ := Xa7 (x := x) hp FU 0 (by omega) (by have := Qdg (n := p.length) (by omega); omega)
 rw [Qba, Qcz, show Qau p x FU 0 = some r from e1]
 simpa using e2
theorem Xaw {p : List Int} {x : Int} (hp : p.length < 1000000) : ∀ (n k : Nat), k ≤ p.length → p.length < n + k → Qde p x n k = some ((p.drop k).any (· == x))
 | 0, k, h1, h2 => by omega
 | n + 1, k, h1, h2 => by
  rw [Qde]
  by_cases hk : k < p.length
  ·rw [List.drop_eq_getElem_cons hk, List.any_cons]
   simp only [PS, hk, Qdm hk, Qcx (k := k) (by omega), Xaw (x := x) hp n (k + 1) hk (by omega)]
   by_cases h : p[k] = x <;> simp [h]
  ·have : k = p.length := by omega
   subst this
   simp
theorem Xag {p : List Int} {x : Int} (hp : p.length < 1000000) : Qfg p x = some (p.any (· == x)) := by
 rw [Qfg]
 exact Xaw hp FU 0 (by omega) (by have := Qdg (n := p.length) (by omega); omega)
end Go.Proofs.Ytjcaompblpglcaa
