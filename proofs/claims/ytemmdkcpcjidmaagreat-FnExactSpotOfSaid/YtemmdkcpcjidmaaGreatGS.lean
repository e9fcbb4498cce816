/- Plain facts for FnExactSpotOf; no condition. -/

import Derived.Test.YtemmdkcpcjidmaaGreatO2
set_option linter.unusedVariables false
namespace Go.Proofs.YtemmdkcpcjidmaaGreat
open Go Go.T
theorem Xiq {c : List Int} {a b : Int} (hc : c.length ≤ 1048576) : ∀ (n k : Nat), k ≤ c.length → c.length < n + k → Qfc c a b n k = some ((c.drop k).all (fun x => inr x a b))
 | 0, k, h1, h2 => by omega
 | n + 1, k, h1, h2 => by
  rw [Qfc]
  by_cases hk : k < c.length
  ·rw [List.drop_eq_getElem_cons hk, List.all_cons]
   simp only [PS, hk, Qg6 hk, Qhw, Qk2 (k := k) (by omega), Xiq hc n (k + 1) hk (by omega)]
   cases inr c[k] a b <;> simp
  ·have : k = c.length := by omega
   subst this
   simp
theorem Xgt {c : List Int} {a b : Int} (hc : c.length ≤ 1048576) : Qll c a b = some (c.all (fun x => inr x a b)) := by
 rw [Qll]
 have := Xiq (a := a) (b := b) hc FU 0 (by omega) (by have := Qjt (n := c.length) (by omega); omega)
 simpa using this
end Go.Proofs.YtemmdkcpcjidmaaGreat
