/- Plain facts for FnExactSpotOf; no condition. -/

import Derived.Test.YtemmdkcpcjidmaaGreatPT
set_option linter.unusedVariables false
set_option linter.unusedSimpArgs false
namespace Go.Proofs.YtemmdkcpcjidmaaGreat
open Go Go.T
def Qsh {α : Type} (c : α → α → Bool) : List α → List α → Bool
 | [], [] => true
 | x :: p, y :: q => c x y && Qsh c p q
 | _, _ => false
theorem Qib {α : Type} {c : α → α → Bool} : ∀ {p q : List α}, p.length ≠ q.length → Qsh c p q = false
 | [], [], h => absurd rfl h
 | [], _ :: _, _ => rfl
 | _ :: _, [], _ => rfl
 | x :: p, y :: q, h => by
  rw [Qsh, Qib (fun e => h (by simp [e])), Bool.and_false]
theorem Qm1 {α : Type} [DecidableEq α] : ∀ {p q : List α}, Qsh (fun x y => decide (x = y)) p q = decide (p = q)
 | [], [] => by simp [Qsh]
 | [], _ :: _ => by simp [Qsh]
 | _ :: _, [] => by simp [Qsh]
 | x :: p, y :: q => by rw [Qsh, Qm1]; simp
theorem Xa2 {α : Type} {p q : List α} {t : α → α → Option Bool} {c : α → α → Bool} {F : Nat → Int → Option Bool}
  (hF : ∀ n v, F (n + 1) v = if (decide (v < (p.length : Int))) = true then Option.bind (rd p v) fun x => Option.bind (rd q v) fun y => Option.bind (t x y) fun r => if (!r) = true then some false else F n (w64 (v + 1)) else some true)
  (hl : q.length = p.length) (hp : p.length < 1099511627776) (ht : ∀ x ∈ p, ∀ y ∈ q, t x y = some (c x y)) : F FU 0 = some (Qsh c p q) := by
 have key : ∀ (n k : Nat), k ≤ p.length → p.length < n + k → F n k = some (Qsh c (p.drop k) (q.drop k)) := by
  intro n
  induction n with
  | zero => intro k h1 h2; omega
  | succ n ih =>
   intro k h1 h2
   rw [hF]
   by_cases hk : k < p.length
   ·have hq : k < q.length := by omega
    rw [List.drop_eq_getElem_cons hk, List.drop_eq_getElem_cons hq, Qsh]
    simp only [PS, hk, Qfz hk, Qfz hq, ht _ (List.getElem_mem hk) _ (List.getElem_mem hq), Qke (k := k) (by omega), ih (k + 1) hk (by omega)]
    cases c p[k] q[k] <;> simp
   ·have : k = p.length := by omega
    subst this
    have e : q.drop p.length = [] := List.drop_eq_nil_of_le (by omega)
    simp only [PS, List.drop_length, e]
    simp [Qsh]
 simpa using key FU 0 (by omega) (by have := Qkc hp; omega)
theorem Qzf {α : Type} {p q : List α} (h : p.length = q.length) : ((p.length : Int) != (q.length : Int)) = false := by simp [h]
theorem Qrm {α : Type} {p q : List α} (h : p.length ≠ q.length) : ((p.length : Int) != (q.length : Int)) = true := by simp; omega
theorem Xio {p q : List Int} (hp : p.length < 1099511627776) : Qhy p q = some (decide (p = q)) := by
 rw [Qhy]
 by_cases h : p.length = q.length
 ·rw [Qzf h, Xa2 (p := p) (q := q) (t := fun x y => some (decide (x = y))) (c := fun x y => decide (x = y)) (F := Qeg p q) (fun n v => by rw [Qeg]; rfl) h.symm hp (fun _ _ _ _ => rfl), Qm1]
  rfl
 ·rw [Qrm h, ← Qm1, Qib h]; rfl
theorem Xir {p q : List Int} (hp : p.length < 1099511627776) : Qco p q = some (decide (p = q)) := by
 rw [Qco]
 by_cases h : p.length = q.length
 ·rw [Qzf h, Xa2 (p := p) (q := q) (t := fun x y => some (decide (x = y))) (c := fun x y => decide (x = y)) (F := Qbm p q) (fun n v => by rw [Qbm]; rfl) h.symm hp (fun _ _ _ _ => rfl), Qm1]
  rfl
 ·rw [Qrm h, ← Qm1, Qib h]; rfl
theorem s_evs {p q : List Qab} (hp : p.length < 1099511627776) : Qer p q = some (decide (p = q)) := by
 rw [Qer]
 by_cases h : p.length = q.length
 ·rw [Qzf h, Xa2 (p := p) (q := q) (t := fun x y => some (decide (x = y))) (c := fun x y => decide (x = y)) (F := Qbz p q) (fun n v => by rw [Qbz]; rfl) h.symm hp (fun _ _ _ _ => rfl), Qm1]
  rfl
 ·rw [Qrm h, ← Qm1, Qib h]; rfl
theorem i_evs {p q : List Qab} (hp : p.length < 1099511627776) : Qcf p q = some (decide (p = q)) := by
 rw [Qcf]
 by_cases h : p.length = q.length
 ·rw [Qzf h, Xa2 (p := p) (q := q) (t := fun x y => some (decide (x = y))) (c := fun x y => decide (x = y)) (F := Qbd p q) (fun n v => by rw [Qbd]; rfl) h.symm hp (fun _ _ _ _ => rfl), Qm1]
  rfl
 ·rw [Qrm h, ← Qm1, Qib h]; rfl
def F64 (l : List Nat) : Prop := ∀ x ∈ l, x < 18446744073709551616
theorem Xj2 {p q : List Nat} (hp : p.length < 1099511627776) (h1 : F64 p) (h2 : F64 q) : Qey p q = some (Qsh Qiz p q) := by
 rw [Qey]
 by_cases h : p.length = q.length
 ·rw [Qzf h, Xa2 (p := p) (q := q) (t := Qc6) (c := Qiz) (F := Qcm p q) (fun n v => by rw [Qcm]) h.symm hp (fun x hx y hy => Qyc (h1 x hx) (h2 y hy))]
  rfl
 ·rw [Qrm h, Qib h]; rfl
theorem Xig {p q : List Nat} (hp : p.length < 1099511627776) : Qaf p q = some (Qsh Qiz p q) := by
 rw [Qaf]
 by_cases h : p.length = q.length
 ·rw [Qzf h, Xa2 (p := p) (q := q) (t := Qd0) (c := Qiz) (F := Qa9 p q) (fun n v => by rw [Qa9]) h.symm hp (fun x hx y hy => rfl)]
  rfl
 ·rw [Qrm h, Qib h]; rfl
def Qrr (x y : Qa0) : Bool := x.Routine == y.Routine && (x.Pc == y.Pc && (x.State == y.State && (x.Cond == y.Cond && (x.Lock == y.Lock && Qsh Qiz x.Stack y.Stack))))
def Qvi (a b : Qa1) : Bool := Qsh Qrr a.Threads b.Threads && (Qsh Qiz a.Cells b.Cells && (decide (a.Owner = b.Owner) && a.Fault == b.Fault))
structure SB (s : Qa1) : Prop where
 ts : s.Threads.length < 1099511627776
 cs : s.Cells.length < 1099511627776
 os : s.Owner.length < 1099511627776
 ss : ∀ t ∈ s.Threads, t.Stack.length < 1099511627776
 fc : F64 s.Cells
 fs : ∀ t ∈ s.Threads, F64 t.Stack
theorem i_th {x y : Qa0} (h : x.Stack.length < 1099511627776) : Qe0 x y = some (Qrr x y) := by
 rw [Qe0, Xig h]
 unfold Qrr
 cases h1 : x.Routine == y.Routine <;> simp only [Bool.false_and, Bool.true_and, Bool.false_eq_true, if_false, if_true]
 cases h2 : x.Pc == y.Pc <;> simp only [Bool.false_and, Bool.true_and, Bool.false_eq_true, if_false, if_true]
 cases h3 : x.State == y.State <;> simp only [Bool.false_and, Bool.true_and, Bool.false_eq_true, if_false, if_true]
 cases h4 : x.Cond == y.Cond <;> simp only [Bool.false_and, Bool.true_and, Bool.false_eq_true, if_false, if_true]
 cases h5 : x.Lock == y.Lock <;> simp only [Bool.false_and, Bool.true_and, Bool.false_eq_true, if_false, if_true]
 rfl
theorem Xnj {a b : Qa1} (ha : SB a) : Qgw a b = some (Qvi a b) := by
 have ht : Qaj a.Threads b.Threads = some (Qsh Qrr a.Threads b.Threads) := by
  rw [Qaj]
  by_cases h : a.Threads.length = b.Threads.length
  ·rw [Qzf h, Xa2 (p := a.Threads) (q := b.Threads) (t := Qe0) (c := Qrr) (F := Qaa a.Threads b.Threads) (fun n v => by rw [Qaa]) h.symm ha.ts (fun x hx y hy => i_th (ha.ss x hx))]
   rfl
  ·rw [Qrm h, Qib h]; rfl
 rw [Qgw, Xir ha.os, Xig ha.cs, ht]
 unfold Qvi
 cases h1 : a.Fault == b.Fault <;> simp only [Bool.and_false, Bool.and_true, Bool.false_eq_true, if_false, if_true, Option.bind_some]
 cases h2 : decide (a.Owner = b.Owner) <;> simp only [Bool.and_false, Bool.and_true, Bool.false_eq_true, if_false, if_true, Option.bind_some]
 cases h3 : Qsh Qiz a.Cells b.Cells <;> simp only [Bool.and_false, Bool.and_true, Bool.false_eq_true, if_false, if_true, Option.bind_some]
theorem Xkf (x y : Qa0) (rest : Bool) : (if (x.Routine != y.Routine) = true then some false else if (x.Pc != y.Pc) = true then some false else if (x.State != y.State) = true then some false else if (x.Cond != y.Cond) = true then some false else if (x.Lock != y.Lock) = true then some false else if (!Qsh Qiz x.Stack y.Stack) = true then some false else some rest) = some (Qrr x y && rest) := by
 unfold Qrr
 by_cases h1 : x.Routine = y.Routine
 case neg => simp [h1]
 by_cases h2 : x.Pc = y.Pc
 case neg => simp [h1, h2]
 by_cases h3 : x.State = y.State
 case neg => simp [h1, h2, h3]
 by_cases h4 : x.Cond = y.Cond
 case neg => simp [h1, h2, h3, h4]
 by_cases h5 : x.Lock = y.Lock
 case neg => simp [h1, h2, h3, h4, h5]
 cases h6 : Qsh Qiz x.Stack y.Stack <;> simp [h1, h2, h3, h4, h5]
theorem Xme {a b : Qa1} (ha : SB a) (hb : SB b) : Qgx a b = some (Qvi a b) := by
 rw [Qgx]
 unfold Qvi
 by_cases h : a.Threads.length = b.Threads.length
 ·have key : ∀ (n k : Nat), k ≤ a.Threads.length → a.Threads.length < n + k → Qcu a n b k = some (Qsh Qrr (a.Threads.drop k) (b.Threads.drop k)) := by
   intro n
   induction n with
   | zero => intro k h1 h2; omega
   | succ n ih =>
    intro k h1 h2
    have hts := ha.ts
    rw [Qcu]
    by_cases hk : k < a.Threads.length
    ·have hq : k < b.Threads.length := by omega
     have hm := List.getElem_mem hk
     have hm2 := List.getElem_mem hq
     have e := Xj2 (ha.ss _ hm) (ha.fs _ hm) (hb.fs _ hm2)
     rw [List.drop_eq_getElem_cons hk, List.drop_eq_getElem_cons hq, Qsh]
     simp only [PS, hk, Qfz hk, Qfz hq, Qke (k := k) (by omega), ih (k + 1) hk (by omega), e]
     exact Xkf _ _ _
    ·have : k = a.Threads.length := by omega
     subst this
     have e : b.Threads.drop a.Threads.length = [] := List.drop_eq_nil_of_le (by omega)
     simp only [PS, List.drop_length, e]
     simp [Qsh]
  have k0 := key FU 0 (by omega) (by have := Qkc ha.ts; omega)
  rw [show ((0 : Nat) : Int) = 0 from rfl, List.drop_zero, List.drop_zero] at k0
  rw [Qzf h, Xj2 ha.cs ha.fc hb.fc, Xio ha.os, k0]
  cases h3 : Qsh Qiz a.Cells b.Cells
  ·simp
  by_cases h2 : a.Owner = b.Owner
  case neg => simp [h2]
  by_cases h1 : a.Fault = b.Fault
  case neg => simp [h1, h2]
  simp [h1, h2]
 ·rw [Qrm h, Qib h]; rfl
def Qui (a b : Qby) : Bool := a.Code == b.Code && (decide (a.Trace = b.Trace) && (decide (a.Picks = b.Picks) && Qvi a.End b.End))
theorem i_run {a b : Qby} (h1 : a.Trace.length < 1099511627776) (h2 : a.Picks.length < 1099511627776) (ha : SB a.End) : Qio a b = some (Qui a b) := by
 rw [Qio, i_evs h1, Xir h2, Xnj ha]
 unfold Qui
 cases h1 : a.Code == b.Code <;> simp only [Bool.false_and, Bool.true_and, Bool.false_eq_true, if_false, if_true, Option.bind_some]
 cases h2 : decide (a.Trace = b.Trace) <;> simp only [Bool.false_and, Bool.true_and, Bool.false_eq_true, if_false, if_true, Option.bind_some]
 cases h3 : decide (a.Picks = b.Picks) <;> simp only [Bool.false_and, Bool.true_and, Bool.false_eq_true, if_false, if_true, Option.bind_some]
theorem s_run {a b : Qby} (h1 : a.Trace.length < 1099511627776) (h2 : a.Picks.length < 1099511627776) (ha : SB a.End) (hb : SB b.End) : Qgq a b = some (Qui a b) := by
 rw [Qgq, s_evs h1, Xio h2, Xme ha hb]
 unfold Qui
 cases h1 : a.Code == b.Code <;> simp only [Bool.false_and, Bool.true_and, Bool.false_eq_true, if_false, if_true, Option.bind_some]
 cases h2 : decide (a.Trace = b.Trace) <;> simp only [Bool.false_and, Bool.true_and, Bool.false_eq_true, if_false, if_true, Option.bind_some]
 cases h3 : decide (a.Picks = b.Picks) <;> simp only [Bool.false_and, Bool.true_and, Bool.false_eq_true, if_false, if_true, Option.bind_some]
end Go.Proofs.YtemmdkcpcjidmaaGreat
