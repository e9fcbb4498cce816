/- Plain facts for FnExactOrderOf; no condition. -/

import Derived.Test.YtjcaompblpglcaaPU
set_option linter.unusedVariables false
namespace Go.Proofs.Ytjcaompblpglcaa
open Go Go.T
theorem Qta {p : List Int} {r : Int} (hp : p.length < 1000000) : ∀ (n k : Nat) (a : List Int), k ≤ p.length → p.length < n + k → a.length ≤ k → Qc1 p r n a k = some (a ++ (p.drop k).filter (· != r))
 | 0, k, a, h1, h2, h3 => by omega
 | n + 1, k, a, h1, h2, h3 => by
  rw [Qc1]
  by_cases hk : k < p.length
  ·rw [List.drop_eq_getElem_cons hk]
   simp only [PS, hk, Qdm hk, Qcx (k := k) (by omega), Qf2 (a := a) (b := [p[k]]) (by simp; omega), Qta hp n (k + 1) (a ++ [p[k]]) hk (by omega) (by simp; omega), Qta hp n (k + 1) a hk (by omega) (by omega)]
   by_cases h4 : p[k] = r
   ·simp [h4]
   ·have h4' : (p[k] != r) = true := by simp [h4]
    simp only [List.filter_cons, h4', if_true, List.append_assoc, List.singleton_append]
  ·have : k = p.length := by omega
   subst this
   simp
theorem Qwr {p : List Int} {r : Int} (hp : p.length < 1000000) : Qda p r = some (p.filter (· != r)) := by
 rw [Qda]
 have := Qta (r := r) hp FU 0 [] (by omega) (by have := Qdg (n := p.length) (by omega); omega) (by simp)
 simpa using this
def ls (f : Nat → Bool) (a : Nat) : Nat → List Int
 | 0 => []
 | m + 1 => if f a then (a : Int) :: ls f (a + 1) m else ls f (a + 1) m
theorem Xb0 (f : Nat → Bool) : ∀ (m a : Nat), (ls f a m).length ≤ m
 | 0, a => by simp [ls]
 | m + 1, a => by
  have := Xb0 f m (a + 1)
  unfold ls; split <;> simp <;> omega
theorem Qzy (f : Nat → Bool) : ∀ (m a : Nat) (x : Int), x ∈ ls f a m → (a : Int) ≤ x
 | 0, a, x, h => by simp [ls] at h
 | m + 1, a, x, h => by
  unfold ls at h
  split at h
  ·rcases List.mem_cons.1 h with rfl | h
   ·exact Int.le_refl _
   ·have := Qzy f m (a + 1) x h; omega
  ·have := Qzy f m (a + 1) x h; omega
theorem Qv3 {f g : Nat → Bool} : ∀ (m a : Nat), (∀ i, a ≤ i → i < a + m → f i = g i) → ls f a m = ls g a m
 | 0, a, h => rfl
 | m + 1, a, h => by
  unfold ls
  rw [h a (by omega) (by omega), Qv3 m (a + 1) (fun i h1 h2 => h i (by omega) (by omega))]
theorem Xct {r : Int} : ∀ {l : List Int}, (∀ x ∈ l, r < x) → put r l = r :: l
 | [], h => rfl
 | x :: l, h => by
  have := h x (by simp)
  unfold put
  rw [if_neg (by omega), if_neg (by omega)]
theorem Xab {f : Nat → Bool} {r : Nat} : ∀ (m a : Nat), a ≤ r → r < a + m → put r (ls f a m) = ls (fun i => if i = r then true else f i) a m
 | 0, a, h1, h2 => by omega
 | m + 1, a, h1, h2 => by
  by_cases h : a = r
  ·subst h
   have e : ls (fun i => if i = a then true else f i) (a + 1) m = ls f (a + 1) m := Qv3 m (a + 1) (fun i h1 h2 => by simp; omega)
   rw [ls, ls, e]
   simp only [if_true]
   by_cases hf : f a = true
   ·simp [hf, put]
   ·simp only [hf]
    exact Xct (fun x hx => by have := Qzy f m (a + 1) x hx; omega)
  ·have ih := Xab (f := f) (r := r) m (a + 1) (by omega) (by omega)
   rw [ls, ls, ← ih]
   simp only [h, if_false]
   split
   ·rw [put, if_pos (show (a : Int) < (r : Int) by omega)]
   ·rfl
theorem Qyf {f : Nat → Bool} {r : Nat} : ∀ (m a : Nat), (ls f a m).filter (· != (r : Int)) = ls (fun i => if i = r then false else f i) a m
 | 0, a => rfl
 | m + 1, a => by
  have ih := Qyf (f := f) (r := r) m (a + 1)
  rw [ls, ls, ← ih]
  by_cases h : a = r
  ·subst h
   by_cases hf : f a = true <;> simp [hf]
  ·have h' : ((a : Int) != (r : Int)) = true := by simp; omega
   by_cases hf : f a = true
   ·simp only [hf, h, if_true, if_false, List.filter_cons, h']
   ·simp [hf, h]
def mks (v : Vector Bool 100) : Nat → Bool := fun i => v[i]?.getD false
theorem Qyh {v : Vector Bool 100} {r : Int} {b : Bool} (h0 : 0 ≤ r) (h1 : r ≤ 99) : mks (v.setIfInBounds r.toNat b) = fun i => if i = r.toNat then b else mks v i := by
 funext i
 unfold mks
 rw [Vector.getElem?_setIfInBounds]
 by_cases h : r.toNat = i
 ·subst h
  have : r.toNat < 100 := by omega
  simp [this]
 ·have h' : ¬ i = r.toNat := fun e => h e.symm
  simp [h, h']
theorem Qth {v : Vector Bool 100} : ∀ (n k : Nat) (a : List Int), k ≤ 100 → 100 < n + k → a.length ≤ k → Qd7 v n a k = some (a ++ ls (mks v) k (100 - k))
 | 0, k, a, h1, h2, h3 => by omega
 | n + 1, k, a, h1, h2, h3 => by
  rw [Qd7]
  by_cases hk : k < 100
  ·have e : 100 - k = (100 - (k + 1)) + 1 := by omega
   have hk' : (k : Int) < 100 := by omega
   rw [e, ls]
   have hm : mks v k = v[k] := by simp [mks, hk]
   simp only [PS, hk', Xdt hk, Qcx (k := k) (by omega), Qf2 (a := a) (b := [(k : Int)]) (by simp; omega), Qth n (k + 1) (a ++ [(k : Int)]) (by omega) (by omega) (by simp; omega), Qth n (k + 1) a (by omega) (by omega) (by omega), hm]
   cases v[k] <;> simp
  ·have hk' : ¬ (k : Int) < 100 := by omega
   have : k = 100 := by omega
   subst this
   simp only [PS, hk']
   simp [ls]
end Go.Proofs.Ytjcaompblpglcaa
