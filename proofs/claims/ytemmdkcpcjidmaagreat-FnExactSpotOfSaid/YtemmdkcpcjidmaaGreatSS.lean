/- Plain facts for FnExactSpotOf; no condition. -/

import Derived.Test.YtemmdkcpcjidmaaGreatPT
set_option linter.unusedVariables false
set_option linter.unusedSimpArgs false
namespace Go.Proofs.YtemmdkcpcjidmaaGreat
open Go Go.T
def Qsn {α : Type} (c : α → α → Bool) : List α → List α → Bool
 | [], [] => true
 | x :: p, y :: q => c x y && Qsn c p q
 | _, _ => false
theorem Qif {α : Type} {c : α → α → Bool} : ∀ {p q : List α}, p.length ≠ q.length → Qsn c p q = false
 | [], [], h => absurd rfl h
 | [], _ :: _, _ => rfl
 | _ :: _, [], _ => rfl
 | x :: p, y :: q, h => by
  rw [Qsn, Qif (fun e => h (by simp [e])), Bool.and_false]
theorem Qm2 {α : Type} [DecidableEq α] : ∀ {p q : List α}, Qsn (fun x y => decide (x = y)) p q = decide (p = q)
 | [], [] => by simp [Qsn]
 | [], _ :: _ => by simp [Qsn]
 | _ :: _, [] => by simp [Qsn]
 | x :: p, y :: q => by rw [Qsn, Qm2]; simp
theorem Xa5 {α : Type} {p q : List α} {t : α → α → Option Bool} {c : α → α → Bool} {F : Nat → Int → Option Bool}
  (hF : ∀ n v, F (n + 1) v = if (decide (v < (p.length : Int))) = true then Option.bind (rd p v) fun x => Option.bind (rd q v) fun y => Option.bind (t x y) fun r => if (!r) = true then some false else F n (w64 (v + 1)) else some true)
  (hl : q.length = p.length) (hp : p.length < 1099511627776) (ht : ∀ x ∈ p, ∀ y ∈ q, t x y = some (c x y)) : F FU 0 = some (Qsn c p q) := by
 have key : ∀ (n k : Nat), k ≤ p.length → p.length < n + k → F n k = some (Qsn c (p.drop k) (q.drop k)) := by
  intro n
  induction n with
  | zero => intro k h1 h2; omega
  | succ n ih =>
   intro k h1 h2
   rw [hF]
   by_cases hk : k < p.length
   ·have hq : k < q.length := by omega
    rw [List.drop_eq_getElem_cons hk, List.drop_eq_getElem_cons hq, Qsn]
    simp only [PS, hk, Qg6 hk, Qg6 hq, ht _ (List.getElem_mem hk) _ (List.getElem_mem hq), Qk2 (k := k) (by omega), ih (k + 1) hk (by omega)]
    cases c p[k] q[k] <;> simp
   ·have : k = p.length := by omega
    subst this
    have e : q.drop p.length = [] := List.drop_eq_nil_of_le (by omega)
    simp only [PS, List.drop_length, e]
    simp [Qsn]
 simpa using key FU 0 (by omega) (by have := Qjt hp; omega)
theorem Qxy {α : Type} {p q : List α} (h : p.length = q.length) : ((p.length : Int) != (q.length : Int)) = false := by simp [h]
theorem Qs2 {α : Type} {p q : List α} (h : p.length ≠ q.length) : ((p.length : Int) != (q.length : Int)) = true := by simp; omega
theorem Xj0 {p q : List Int} (hp : p.length < 1099511627776) : Qhv p q = some (decide (p = q)) := by
 rw [Qhv]
 by_cases h : p.length = q.length
 ·rw [Qxy h, Xa5 (p := p) (q := q) (t := fun x y => some (decide (x = y))) (c := fun x y => decide (x = y)) (F := Qej p q) (fun n v => by rw [Qej]; rfl) h.symm hp (fun _ _ _ _ => rfl), Qm2]
  rfl
 ·rw [Qs2 h, ← Qm2, Qif h]; rfl
theorem Xij {p q : List Int} (hp : p.length < 1099511627776) : Qco p q = some (decide (p = q)) := by
 rw [Qco]
 by_cases h : p.length = q.length
 ·rw [Qxy h, Xa5 (p := p) (q := q) (t := fun x y => some (decide (x = y))) (c := fun x y => decide (x = y)) (F := Qbn p q) (fun n v => by rw [Qbn]; rfl) h.symm hp (fun _ _ _ _ => rfl), Qm2]
  rfl
 ·rw [Qs2 h, ← Qm2, Qif h]; rfl
theorem s_evs {p q : List Qab} (hp : p.length < 1099511627776) : Qf2 p q = some (decide (p = q)) := by
 rw [Qf2]
 by_cases h : p.length = q.length
 ·rw [Qxy h, Xa5 (p := p) (q := q) (t := fun x y => some (decide (x = y))) (c := fun x y => decide (x = y)) (F := Qc1 p q) (fun n v => by rw [Qc1]; rfl) h.symm hp (fun _ _ _ _ => rfl), Qm2]
  rfl
 ·rw [Qs2 h, ← Qm2, Qif h]; rfl
theorem i_evs {p q : List Qab} (hp : p.length < 1099511627776) : Qcf p q = some (decide (p = q)) := by
 rw [Qcf]
 by_cases h : p.length = q.length
 ·rw [Qxy h, Xa5 (p := p) (q := q) (t := fun x y => some (decide (x = y))) (c := fun x y => decide (x = y)) (F := Qbe p q) (fun n v => by rw [Qbe]; rfl) h.symm hp (fun _ _ _ _ => rfl), Qm2]
  rfl
 ·rw [Qs2 h, ← Qm2, Qif h]; rfl
def F64 (l : List Nat) : Prop := ∀ x ∈ l, x < 18446744073709551616
theorem Xj4 {p q : List Nat} (hp : p.length < 1099511627776) (h1 : F64 p) (h2 : F64 q) : Qet p q = some (Qsn Qiu p q) := by
 rw [Qet]
 by_cases h : p.length = q.length
 ·rw [Qxy h, Xa5 (p := p) (q := q) (t := Qc6) (c := Qiu) (F := Qck p q) (fun n v => by rw [Qck]) h.symm hp (fun x hx y hy => Qyl (h1 x hx) (h2 y hy))]
  rfl
 ·rw [Qs2 h, Qif h]; rfl
theorem Xj7 {p q : List Nat} (hp : p.length < 1099511627776) : Qaf p q = some (Qsn Qiu p q) := by
 rw [Qaf]
 by_cases h : p.length = q.length
 ·rw [Qxy h, Xa5 (p := p) (q := q) (t := Qcy) (c := Qiu) (F := Qaa p q) (fun n v => by rw [Qaa]) h.symm hp (fun x hx y hy => rfl)]
  rfl
 ·rw [Qs2 h, Qif h]; rfl
def Qrv (x y : Qa0) : Bool := x.Routine == y.Routine && (x.Pc == y.Pc && (x.State == y.State && (x.Cond == y.Cond && (x.Lock == y.Lock && Qsn Qiu x.Stack y.Stack))))
def Qw8 (a b : Qa1) : Bool := Qsn Qrv a.Threads b.Threads && (Qsn Qiu a.Cells b.Cells && (decide (a.Owner = b.Owner) && a.Fault == b.Fault))
structure SB (s : Qa1) : Prop where
 ts : s.Threads.length < 1099511627776
 cs : s.Cells.length < 1099511627776
 os : s.Owner.length < 1099511627776
 ss : ∀ t ∈ s.Threads, t.Stack.length < 1099511627776
 fc : F64 s.Cells
 fs : ∀ t ∈ s.Threads, F64 t.Stack
theorem i_th {x y : Qa0} (h : x.Stack.length < 1099511627776) : Qe3 x y = some (Qrv x y) := by
 rw [Qe3, Xj7 h]
 unfold Qrv
 cases h1 : x.Routine == y.Routine <;> simp only [Bool.false_and, Bool.true_and, Bool.false_eq_true, if_false, if_true]
 cases h2 : x.Pc == y.Pc <;> simp only [Bool.false_and, Bool.true_and, Bool.false_eq_true, if_false, if_true]
 cases h3 : x.State == y.State <;> simp only [Bool.false_and, Bool.true_and, Bool.false_eq_true, if_false, if_true]
 cases h4 : x.Cond == y.Cond <;> simp only [Bool.false_and, Bool.true_and, Bool.false_eq_true, if_false, if_true]
 cases h5 : x.Lock == y.Lock <;> simp only [Bool.false_and, Bool.true_and, Bool.false_eq_true, if_false, if_true]
 rfl
theorem Xnr {a b : Qa1} (ha : SB a) : Qgs a b = some (Qw8 a b) := by
 have ht : Qaj a.Threads b.Threads = some (Qsn Qrv a.Threads b.Threads) := by
  rw [Qaj]
  by_cases h : a.Threads.length = b.Threads.length
  ·rw [Qxy h, Xa5 (p := a.Threads) (q := b.Threads) (t := Qe3) (c := Qrv) (F := Qa9 a.Threads b.Threads) (fun n v => by rw [Qa9]) h.symm ha.ts (fun x hx y hy => i_th (ha.ss x hx))]
   rfl
  ·rw [Qs2 h, Qif h]; rfl
 rw [Qgs, Xij ha.os, Xj7 ha.cs, ht]
 unfold Qw8
 cases h1 : a.Fault == b.Fault <;> simp only [Bool.and_false, Bool.and_true, Bool.false_eq_true, if_false, if_true, Option.bind_some]
 cases h2 : decide (a.Owner = b.Owner) <;> simp only [Bool.and_false, Bool.and_true, Bool.false_eq_true, if_false, if_true, Option.bind_some]
 cases h3 : Qsn Qiu a.Cells b.Cells <;> simp only [Bool.and_false, Bool.and_true, Bool.false_eq_true, if_false, if_true, Option.bind_some]
theorem Xjv (x y : Qa0) (rest : Bool) : (if (x.Routine != y.Routine) = true then some false else if (x.Pc != y.Pc) = true then some false else if (x.State != y.State) = true then some false else if (x.Cond != y.Cond) = true then some false else if (x.Lock != y.Lock) = true then some false else if (!Qsn Qiu x.Stack y.Stack) = true then some false else some rest) = some (Qrv x y && rest) := by
 unfold Qrv
 by_cases h1 : x.Routine = y.Routine
 case neg => simp [h1]
 by_cases h2 : x.Pc = y.Pc
 case neg => simp [h1, h2]
 by_cases h3 : x.State = y.State
 case neg => simp [h1, h2, h3]
 by_cases h4 : x.Cond = y.Cond
 case neg => simp [h1, h2, h3, h4]
 by_cases h5 : x.Lock = y.Lock
 case neg => simp [h1, h2, h3, h4, h5]
 cases h6 : Qsn Qiu x.Stack y.Stack <;> simp [h1, h2, h3, h4, h5]
theorem Xnh {a b : Qa1} (ha : SB a) (hb : SB b) : Qgq a b = some (Qw8 a b) := by
 rw [Qgq]
 unfold Qw8
 by_cases h : a.Threads.length = b.Threads.length
 ·have key : ∀ (n k : Nat), k ≤ a.Threads.length → a.Threads.length < n + k → Qcv a n b k = some (Qsn Qrv (a.Threads.drop k) (b.Threads.drop k)) := by
   intro n
   induction n with
   | zero => intro k h1 h2; omega
   | succ n ih =>
    intro k h1 h2
    have hts := ha.ts
    rw [Qcv]
    by_cases hk : k < a.Threads.length
    ·have hq : k < b.Threads.length := by omega
     have hm := List.getElem_mem hk
     have hm2 := List.getElem_mem hq
     have e := Xj4 (ha.ss _ hm) (ha.fs _ hm) (hb.fs _ hm2)
     rw [List.drop_eq_getElem_cons hk, List.drop_eq_getElem_cons hq, Qsn]
     simp only [PS, hk, Qg6 hk, Qg6 hq, Qk2 (k := k) (by omega), ih (k + 1) hk (by omega), e]
     exact Xjv _ _ _
    ·have : k = a.Threads.length := by omega
     subst this
     have e : b.Threads.drop a.Threads.length = [] := List.drop_eq_nil_of_le (by omega)
     simp only [PS, List.drop_length, e]
     simp [Qsn]
  have k0 := key FU 0 (by omega) (by have := Qjt ha.ts; omega)
  rw [show ((0 : Nat) : Int) = 0 from rfl, List.drop_zero, List.drop_zero] at k0
  rw [Qxy h, Xj4 ha.cs ha.fc hb.fc, Xj0 ha.os, k0]
  cases h3 : Qsn Qiu a.Cells b.Cells
  ·simp
  by_cases h2 : a.Owner = b.Owner
  case neg => simp [h2]
  by_cases h1 : a.Fault = b.Fault
  case neg => simp [h1, h2]
  simp [h1, h2]
 ·rw [Qs2 h, Qif h]; rfl
def Quq (a b : Qbx) : Bool := a.Code == b.Code && (decide (a.Trace = b.Trace) && (decide (a.Picks = b.Picks) && Qw8 a.End b.End))
theorem i_run {a b : Qbx} (h1 : a.Trace.length < 1099511627776) (h2 : a.Picks.length < 1099511627776) (ha : SB a.End) : Qiz a b = some (Quq a b) := by
 rw [Qiz, i_evs h1, Xij h2, Xnr ha]
 unfold Quq
 cases h1 : a.Code == b.Code <;> simp only [Bool.false_and, Bool.true_and, Bool.false_eq_true, if_false, if_true, Option.bind_some]
 cases h2 : decide (a.Trace = b.Trace) <;> simp only [Bool.false_and, Bool.true_and, Bool.false_eq_true, if_false, if_true, Option.bind_some]
 cases h3 : decide (a.Picks = b.Picks) <;> simp only [Bool.false_and, Bool.true_and, Bool.false_eq_true, if_false, if_true, Option.bind_some]
theorem s_run {a b : Qbx} (h1 : a.Trace.length < 1099511627776) (h2 : a.Picks.length < 1099511627776) (ha : SB a.End) (hb : SB b.End) : Qgx a b = some (Quq a b) := by
 rw [Qgx, s_evs h1, Xj0 h2, Xnh ha hb]
 unfold Quq
 cases h1 : a.Code == b.Code <;> simp only [Bool.false_and, Bool.true_and, Bool.false_eq_true, if_false, if_true, Option.bind_some]
 cases h2 : decide (a.Trace = b.Trace) <;> simp only [Bool.false_and, Bool.true_and, Bool.false_eq_true, if_false, if_true, Option.bind_some]
 cases h3 : decide (a.Picks = b.Picks) <;> simp only [Bool.false_and, Bool.true_and, Bool.false_eq_true, if_false, if_true, Option.bind_some]
end Go.Proofs.YtemmdkcpcjidmaaGreat
