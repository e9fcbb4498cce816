/- Plain facts for FnExactRunPicks; no condition. -/

import Derived.Test.YtjcaompblpglcaaGreatO2
set_option linter.unusedVariables false
namespace Go.Proofs.YtjcaompblpglcaaGreat
open Go Go.T
theorem Xgk {c : List Int} {a b : Int} (hc : c.length ≤ 1048576) : ∀ (n k : Nat), k ≤ c.length → c.length < n + k → Qfa c a b n k = some ((c.drop k).all (fun x => inr x a b))
 | 0, k, h1, h2 => by omega
 | n + 1, k, h1, h2 => by
  rw [Qfa]
  by_cases hk : k < c.length
  ·rw [List.drop_eq_getElem_cons hk, List.all_cons]
   simp only [PS, hk, Qer hk, Qi0, Qjw (k := k) (by omega), Xgk hc n (k + 1) hk (by omega)]
   cases inr c[k] a b <;> simp
  ·have : k = c.length := by omega
   subst this
   simp
theorem Xfv {c : List Int} {a b : Int} (hc : c.length ≤ 1048576) : Qky c a b = some (c.all (fun x => inr x a b)) := by
 rw [Qky]
 have := Xgk (a := a) (b := b) hc FU 0 (by omega) (by have := Qjp (n := c.length) (by omega); omega)
 simpa using this
end Go.Proofs.YtjcaompblpglcaaGreat
