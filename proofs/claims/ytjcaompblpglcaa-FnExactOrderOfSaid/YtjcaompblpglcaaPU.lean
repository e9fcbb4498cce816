/- Plain facts for FnExactOrderOf; no condition. -/

import Derived.Test.YtjcaompblpglcaaE0
set_option linter.unusedVariables false
namespace Go.Proofs.Ytjcaompblpglcaa
open Go Go.T
def put (r : Int) : List Int → List Int
 | [] => [r]
 | x :: l => if x < r then x :: put r l else if x = r then x :: l else r :: x :: l
theorem Qqx (r : Int) : ∀ l : List Int, (put r l).length ≤ l.length + 1
 | [] => by simp [put]
 | x :: l => by
  unfold put
  have := Qqx r l
  split
  ·simp; omega
  ·split <;> simp
theorem Xai {p : List Int} {r : Int} {k : Nat} (hp : p.length < 1000000) (hk : k ≤ p.length) : Qdy p r k = some (p.take k ++ r :: p.drop k) := by
 rw [Qdy, Qmq hk, Qr0 hk]
 simp only [PS, Qf2 (a := []) (b := p.take k) (by simp; omega), List.nil_append, Qf2 (a := p.take k) (b := [r]) (by simp; omega), Qf2 (a := p.take k ++ [r]) (b := p.drop k) (by simp; omega)]
 simp
theorem Xah {p : List Int} {r : Int} (hp : p.length < 1000000) : ∀ (n k : Nat), k ≤ p.length → p.length < n + k → Qby p r n k = some (p.take k ++ put r (p.drop k))
 | 0, k, h1, h2 => by omega
 | n + 1, k, h1, h2 => by
  rw [Qby]
  by_cases hk : k < p.length
  ·rw [List.drop_eq_getElem_cons hk, put]
   simp only [PS, hk, Qdm hk, Qcx (k := k) (by omega), Xah hp n (k + 1) hk (by omega), Qdz, Xai hp h1]
   by_cases h3 : p[k] < r
   ·simp only [h3, decide_true, if_true]
    rw [List.take_add_one, List.getElem?_eq_getElem hk]; simp only [Option.toList_some, List.append_assoc, List.singleton_append]
   ·by_cases h4 : p[k] = r
    ·subst h4
     simp only [Int.lt_irrefl, decide_false, Bool.false_eq_true, if_false, beq_self_eq_true, if_true]
     rw [← List.drop_eq_getElem_cons hk, List.take_append_drop]
    ·simp [h3, h4]
  ·have : k = p.length := by omega
   subst this
   simp only [PS, Qdz, Nat.lt_irrefl, Xai hp h1]
   simp [put]
theorem Qvc {p : List Int} {r : Int} (hp : p.length < 1000000) : Qdx p r = some (put r p) := by
 rw [Qdx]
 have := Xah (r := r) hp FU 0 (by omega) (by have := Qdg (n := p.length) (by omega); omega)
 simpa using this
end Go.Proofs.Ytjcaompblpglcaa
