/- Plain facts for FnExactOrderOf; no condition. -/

import Derived.Test.YtjcaompblpglcaaL0
set_option linter.unusedVariables false
set_option linter.unusedSimpArgs false
namespace Go.Proofs.Ytjcaompblpglcaa
open Go Go.T
def Qdl (e : Qa0) : Bool := inr e.Thread 0 4 && inr e.Kind 1 12 && inr e.Obj (-1) 99 && inr e.Lock (-1) 99 && inr e.Pc 0 99 && (!inr e.Kind 2 10 || decide (0 ≤ e.Obj)) && ((e.Kind != 8 && e.Kind != 9) || decide (0 ≤ e.Lock))
theorem Qqy (e : Qa0) : Qf1 e = some (Qdl e) := by
 unfold Qf1 Qb9 Qdl
 simp only [Qvx, Option.bind_some]
 generalize inr e.Thread 0 4 = b1
 generalize inr e.Kind 1 12 = b2
 generalize inr e.Kind 2 10 = b6
 generalize inr e.Obj (-1) 99 = b3
 generalize inr e.Lock (-1) 99 = b4
 generalize inr e.Pc 0 99 = b5
 by_cases h1 : e.Obj < 0
 ·have h1' : ¬ 0 ≤ e.Obj := by omega
  by_cases h2 : e.Lock < 0
  ·have h2' : ¬ 0 ≤ e.Lock := by omega
   by_cases h3 : e.Kind = 8
   ·cases b1 <;> cases b2 <;> cases b3 <;> cases b4 <;> cases b5 <;> cases b6 <;> simp [h1, h1', h2, h2', h3]
   ·by_cases h4 : e.Kind = 9
    ·cases b1 <;> cases b2 <;> cases b3 <;> cases b4 <;> cases b5 <;> cases b6 <;> simp [h1, h1', h2, h2', h3, h4]
    ·cases b1 <;> cases b2 <;> cases b3 <;> cases b4 <;> cases b5 <;> cases b6 <;> simp [h1, h1', h2, h2', h3, h4]
  ·have h2' : 0 ≤ e.Lock := by omega
   by_cases h3 : e.Kind = 8
   ·cases b1 <;> cases b2 <;> cases b3 <;> cases b4 <;> cases b5 <;> cases b6 <;> simp [h1, h1', h2, h2', h3]
   ·by_cases h4 : e.Kind = 9
    ·cases b1 <;> cases b2 <;> cases b3 <;> cases b4 <;> cases b5 <;> cases b6 <;> simp [h1, h1', h2, h2', h3, h4]
    ·cases b1 <;> cases b2 <;> cases b3 <;> cases b4 <;> cases b5 <;> cases b6 <;> simp [h1, h1', h2, h2', h3, h4]
 ·have h1' : 0 ≤ e.Obj := by omega
  by_cases h2 : e.Lock < 0
  ·have h2' : ¬ 0 ≤ e.Lock := by omega
   by_cases h3 : e.Kind = 8
   ·cases b1 <;> cases b2 <;> cases b3 <;> cases b4 <;> cases b5 <;> cases b6 <;> simp [h1, h1', h2, h2', h3]
   ·by_cases h4 : e.Kind = 9
    ·cases b1 <;> cases b2 <;> cases b3 <;> cases b4 <;> cases b5 <;> cases b6 <;> simp [h1, h1', h2, h2', h3, h4]
    ·cases b1 <;> cases b2 <;> cases b3 <;> cases b4 <;> cases b5 <;> cases b6 <;> simp [h1, h1', h2, h2', h3, h4]
  ·have h2' : 0 ≤ e.Lock := by omega
   by_cases h3 : e.Kind = 8
   ·cases b1 <;> cases b2 <;> cases b3 <;> cases b4 <;> cases b5 <;> cases b6 <;> simp [h1, h1', h2, h2', h3]
   ·by_cases h4 : e.Kind = 9
    ·cases b1 <;> cases b2 <;> cases b3 <;> cases b4 <;> cases b5 <;> cases b6 <;> simp [h1, h1', h2, h2', h3, h4]
    ·cases b1 <;> cases b2 <;> cases b3 <;> cases b4 <;> cases b5 <;> cases b6 <;> simp [h1, h1', h2, h2', h3, h4]
theorem Qqc (e : Qa0) : Qd5 e = some (Qdl e) := by
 unfold Qd5 Qd1 Qdl
 simp only [Qvz, Option.bind_some]
 generalize inr e.Thread 0 4 = b1
 generalize inr e.Kind 1 12 = b2
 generalize inr e.Kind 2 10 = b6
 generalize inr e.Obj (-1) 99 = b3
 generalize inr e.Lock (-1) 99 = b4
 generalize inr e.Pc 0 99 = b5
 by_cases h1 : 0 ≤ e.Obj <;> by_cases h2 : 0 ≤ e.Lock <;> by_cases h3 : e.Kind = 8
 all_goals first
  | (cases b1 <;> cases b2 <;> cases b3 <;> cases b4 <;> cases b5 <;> cases b6 <;> simp [h1, h2, h3]; done)
  | (by_cases h4 : e.Kind = 9 <;> cases b1 <;> cases b2 <;> cases b3 <;> cases b4 <;> cases b5 <;> cases b6 <;> simp [h1, h2, h3, h4]; done)
theorem Ql2 {p : List Qa0} (hp : p.length < 1099511627776) : ∀ (n k : Nat), k ≤ p.length → p.length < n + k → Qc5 p n k = some ((p.drop k).all Qdl && decide (p.length ≤ 200))
 | 0, k, h1, h2 => by omega
 | n + 1, k, h1, h2 => by
  rw [Qc5]
  by_cases hk : k < p.length
  ·rw [List.drop_eq_getElem_cons hk, List.all_cons]
   simp only [PS, hk, Qdm hk, Qcx (k := k) (by omega), Qqy, Ql2 hp n (k + 1) hk (by omega)]
   cases Qdl p[k] <;> simp
  ·have : k = p.length := by omega
   subst this
   simp; omega
def Qw2 (p : List Qa0) : Bool := p.all Qdl && decide (p.length ≤ 200)
theorem Qqs {p : List Qa0} (hp : p.length < 1099511627776) : Qf3 p = some (Qw2 p) := by
 rw [Qf3]
 exact Ql2 hp FU 0 (by omega) (by have := Qdg hp; omega)
theorem Qks {p : List Qa0} (hp : p.length < 1099511627776) : ∀ (n k : Nat), k ≤ p.length → p.length < n + k → ∃ r : Int, Qa3 p n k = some r ∧ decide (r ≥ 0) = !(p.drop k).all Qdl
 | 0, k, h1, h2 => by omega
 | n + 1, k, h1, h2 => by
  rw [Qa3]
  by_cases hk : k < p.length
  ·rw [List.drop_eq_getElem_cons hk, List.all_cons]
   obtain ⟨r, e1, e2⟩ := Qks hp n (k + 1) hk (by omega)
   simp only [PS, hk, Qdm hk, Qcx (k := k) (by omega), Qea, Qqc, e1]
   cases Qdl p[k]
   ·refine ⟨k, by simp, by simp⟩
   ·exact ⟨r, by simp, by simpa using e2⟩
  ·have : k = p.length := by omega
   subst this
   exact ⟨-1, by simp, by simp⟩
theorem Qqq {p : List Qa0} (hp : p.length < 1099511627776) : Qe3 p = some (Qw2 p) := by
 rw [Qe3]
 obtain ⟨r, e1, e2⟩ := Qks hp FU 0 (by omega) (by have := Qdg hp; omega)
 have e1' : Qak p = some r := e1
 rw [Qaf, e1']
 by_cases h : p.length ≤ 200
 ·have h' : (p.length : Int) ≤ 200 := by omega
  simp only [List.drop_zero] at e2
  simp [h', h, Qw2, e2]
 ·have h' : ¬ (p.length : Int) ≤ 200 := by omega
  simp [h', h, Qw2]
end Go.Proofs.Ytjcaompblpglcaa
