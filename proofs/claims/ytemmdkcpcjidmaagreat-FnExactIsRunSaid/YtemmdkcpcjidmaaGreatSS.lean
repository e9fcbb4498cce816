/- Plain facts for FnExactIsRun; no condition. -/

import Derived.Test.YtemmdkcpcjidmaaGreatPT
set_option linter.unusedVariables false
set_option linter.unusedSimpArgs false
namespace Go.Proofs.YtemmdkcpcjidmaaGreat
open Go Go.T
def Qrp {α : Type} (c : α → α → Bool) : List α → List α → Bool
 | [], [] => true
 | x :: p, y :: q => c x y && Qrp c p q
 | _, _ => false
theorem Qj5 {α : Type} {c : α → α → Bool} : ∀ {p q : List α}, p.length ≠ q.length → Qrp c p q = false
 | [], [], h => absurd rfl h
 | [], _ :: _, _ => rfl
 | _ :: _, [], _ => rfl
 | x :: p, y :: q, h => by
  rw [Qrp, Qj5 (fun e => h (by simp [e])), Bool.and_false]
theorem Qlq {α : Type} [DecidableEq α] : ∀ {p q : List α}, Qrp (fun x y => decide (x = y)) p q = decide (p = q)
 | [], [] => by simp [Qrp]
 | [], _ :: _ => by simp [Qrp]
 | _ :: _, [] => by simp [Qrp]
 | x :: p, y :: q => by rw [Qrp, Qlq]; simp
theorem Qzs {α : Type} {p q : List α} {t : α → α → Option Bool} {c : α → α → Bool} {F : Nat → Int → Option Bool}
  (hF : ∀ n v, F (n + 1) v = if (decide (v < (p.length : Int))) = true then Option.bind (rd p v) fun x => Option.bind (rd q v) fun y => Option.bind (t x y) fun r => if (!r) = true then some false else F n (w64 (v + 1)) else some true)
  (hl : q.length = p.length) (hp : p.length < 1099511627776) (ht : ∀ x ∈ p, ∀ y ∈ q, t x y = some (c x y)) : F FU 0 = some (Qrp c p q) := by
 have key : ∀ (n k : Nat), k ≤ p.length → p.length < n + k → F n k = some (Qrp c (p.drop k) (q.drop k)) := by
  intro n
  induction n with
  | zero => intro k h1 h2; omega
  | succ n ih =>
   intro k h1 h2
   rw [hF]
   by_cases hk : k < p.length
   ·have hq : k < q.length := by omega
    rw [List.drop_eq_getElem_cons hk, List.drop_eq_getElem_cons hq, Qrp]
    simp only [PS, hk, Qfx hk, Qfx hq, ht _ (List.getElem_mem hk) _ (List.getElem_mem hq), Qk4 (k := k) (by omega), ih (k + 1) hk (by omega)]
    cases c p[k] q[k] <;> simp
   ·have : k = p.length := by omega
    subst this
    have e : q.drop p.length = [] := List.drop_eq_nil_of_le (by omega)
    simp only [PS, List.drop_length, e]
    simp [Qrp]
 simpa using key FU 0 (by omega) (by have := Qjz hp; omega)
theorem Qyq {α : Type} {p q : List α} (h : p.length = q.length) : ((p.length : Int) != (q.length : Int)) = false := by simp [h]
theorem Qrm {α : Type} {p q : List α} (h : p.length ≠ q.length) : ((p.length : Int) != (q.length : Int)) = true := by simp; omega
theorem Xid {p q : List Int} (hp : p.length < 1099511627776) : Qi1 p q = some (decide (p = q)) := by
 rw [Qi1]
 by_cases h : p.length = q.length
 ·rw [Qyq h, Qzs (p := p) (q := q) (t := fun x y => some (decide (x = y))) (c := fun x y => decide (x = y)) (F := Qef p q) (fun n v => by rw [Qef]; rfl) h.symm hp (fun _ _ _ _ => rfl), Qlq]
  rfl
 ·rw [Qrm h, ← Qlq, Qj5 h]; rfl
theorem Xi8 {p q : List Int} (hp : p.length < 1099511627776) : Qco p q = some (decide (p = q)) := by
 rw [Qco]
 by_cases h : p.length = q.length
 ·rw [Qyq h, Qzs (p := p) (q := q) (t := fun x y => some (decide (x = y))) (c := fun x y => decide (x = y)) (F := Qbm p q) (fun n v => by rw [Qbm]; rfl) h.symm hp (fun _ _ _ _ => rfl), Qlq]
  rfl
 ·rw [Qrm h, ← Qlq, Qj5 h]; rfl
theorem s_evs {p q : List Qab} (hp : p.length < 1099511627776) : Qer p q = some (decide (p = q)) := by
 rw [Qer]
 by_cases h : p.length = q.length
 ·rw [Qyq h, Qzs (p := p) (q := q) (t := fun x y => some (decide (x = y))) (c := fun x y => decide (x = y)) (F := Qc0 p q) (fun n v => by rw [Qc0]; rfl) h.symm hp (fun _ _ _ _ => rfl), Qlq]
  rfl
 ·rw [Qrm h, ← Qlq, Qj5 h]; rfl
theorem i_evs {p q : List Qab} (hp : p.length < 1099511627776) : Qcf p q = some (decide (p = q)) := by
 rw [Qcf]
 by_cases h : p.length = q.length
 ·rw [Qyq h, Qzs (p := p) (q := q) (t := fun x y => some (decide (x = y))) (c := fun x y => decide (x = y)) (F := Qbd p q) (fun n v => by rw [Qbd]; rfl) h.symm hp (fun _ _ _ _ => rfl), Qlq]
  rfl
 ·rw [Qrm h, ← Qlq, Qj5 h]; rfl
def F64 (l : List Nat) : Prop := ∀ x ∈ l, x < 18446744073709551616
theorem Xi0 {p q : List Nat} (hp : p.length < 1099511627776) (h1 : F64 p) (h2 : F64 q) : Qeu p q = some (Qrp Qie p q) := by
 rw [Qeu]
 by_cases h : p.length = q.length
 ·rw [Qyq h, Qzs (p := p) (q := q) (t := Qc4) (c := Qie) (F := Qck p q) (fun n v => by rw [Qck]) h.symm hp (fun x hx y hy => Qxt (h1 x hx) (h2 y hy))]
  rfl
 ·rw [Qrm h, Qj5 h]; rfl
theorem Xik {p q : List Nat} (hp : p.length < 1099511627776) : Qaf p q = some (Qrp Qie p q) := by
 rw [Qaf]
 by_cases h : p.length = q.length
 ·rw [Qyq h, Qzs (p := p) (q := q) (t := Qcz) (c := Qie) (F := Qa9 p q) (fun n v => by rw [Qa9]) h.symm hp (fun x hx y hy => rfl)]
  rfl
 ·rw [Qrm h, Qj5 h]; rfl
def Qrd (x y : Qa0) : Bool := x.Routine == y.Routine && (x.Pc == y.Pc && (x.State == y.State && (x.Cond == y.Cond && (x.Lock == y.Lock && Qrp Qie x.Stack y.Stack))))
def Qyj (a b : Qa1) : Bool := Qrp Qrd a.Threads b.Threads && (Qrp Qie a.Cells b.Cells && (decide (a.Owner = b.Owner) && a.Fault == b.Fault))
structure SB (s : Qa1) : Prop where
 ts : s.Threads.length < 1099511627776
 cs : s.Cells.length < 1099511627776
 os : s.Owner.length < 1099511627776
 ss : ∀ t ∈ s.Threads, t.Stack.length < 1099511627776
 fc : F64 s.Cells
 fs : ∀ t ∈ s.Threads, F64 t.Stack
theorem i_th {x y : Qa0} (h : x.Stack.length < 1099511627776) : Qdu x y = some (Qrd x y) := by
 rw [Qdu, Xik h]
 unfold Qrd
 cases h1 : x.Routine == y.Routine <;> simp only [Bool.false_and, Bool.true_and, Bool.false_eq_true, if_false, if_true]
 cases h2 : x.Pc == y.Pc <;> simp only [Bool.false_and, Bool.true_and, Bool.false_eq_true, if_false, if_true]
 cases h3 : x.State == y.State <;> simp only [Bool.false_and, Bool.true_and, Bool.false_eq_true, if_false, if_true]
 cases h4 : x.Cond == y.Cond <;> simp only [Bool.false_and, Bool.true_and, Bool.false_eq_true, if_false, if_true]
 cases h5 : x.Lock == y.Lock <;> simp only [Bool.false_and, Bool.true_and, Bool.false_eq_true, if_false, if_true]
 rfl
theorem Xmn {a b : Qa1} (ha : SB a) : Qgq a b = some (Qyj a b) := by
 have ht : Qaj a.Threads b.Threads = some (Qrp Qrd a.Threads b.Threads) := by
  rw [Qaj]
  by_cases h : a.Threads.length = b.Threads.length
  ·rw [Qyq h, Qzs (p := a.Threads) (q := b.Threads) (t := Qdu) (c := Qrd) (F := Qaa a.Threads b.Threads) (fun n v => by rw [Qaa]) h.symm ha.ts (fun x hx y hy => i_th (ha.ss x hx))]
   rfl
  ·rw [Qrm h, Qj5 h]; rfl
 rw [Qgq, Xi8 ha.os, Xik ha.cs, ht]
 unfold Qyj
 cases h1 : a.Fault == b.Fault <;> simp only [Bool.and_false, Bool.and_true, Bool.false_eq_true, if_false, if_true, Option.bind_some]
 cases h2 : decide (a.Owner = b.Owner) <;> simp only [Bool.and_false, Bool.and_true, Bool.false_eq_true, if_false, if_true, Option.bind_some]
 cases h3 : Qrp Qie a.Cells b.Cells <;> simp only [Bool.and_false, Bool.and_true, Bool.false_eq_true, if_false, if_true, Option.bind_some]
theorem Xkb (x y : Qa0) (rest : Bool) : (if (x.Routine != y.Routine) = true then some false else if (x.Pc != y.Pc) = true then some false else if (x.State != y.State) = true then some false else if (x.Cond != y.Cond) = true then some false else if (x.Lock != y.Lock) = true then some false else if (!Qrp Qie x.Stack y.Stack) = true then some false else some rest) = some (Qrd x y && rest) := by
 unfold Qrd
 by_cases h1 : x.Routine = y.Routine
 case neg => simp [h1]
 by_cases h2 : x.Pc = y.Pc
 case neg => simp [h1, h2]
 by_cases h3 : x.State = y.State
 case neg => simp [h1, h2, h3]
 by_cases h4 : x.Cond = y.Cond
 case neg => simp [h1, h2, h3, h4]
 by_cases h5 : x.Lock = y.Lock
 case neg => simp [h1, h2, h3, h4, h5]
 cases h6 : Qrp Qie x.Stack y.Stack <;> simp [h1, h2, h3, h4, h5]
theorem Xnl {a b : Qa1} (ha : SB a) (hb : SB b) : Qgs a b = some (Qyj a b) := by
 rw [Qgs]
 unfold Qyj
 by_cases h : a.Threads.length = b.Threads.length
 ·have key : ∀ (n k : Nat), k ≤ a.Threads.length → a.Threads.length < n + k → Qcu a n b k = some (Qrp Qrd (a.Threads.drop k) (b.Threads.drop k)) := by
   intro n
   induction n with
   | zero => intro k h1 h2; omega
   | succ n ih =>
    intro k h1 h2
    have hts := ha.ts
    rw [Qcu]
    by_cases hk : k < a.Threads.length
    ·have hq : k < b.Threads.length := by omega
     have hm := List.getElem_mem hk
     have hm2 := List.getElem_mem hq
     have e := Xi0 (ha.ss _ hm) (ha.fs _ hm) (hb.fs _ hm2)
     rw [List.drop_eq_getElem_cons hk, List.drop_eq_getElem_cons hq, Qrp]
     simp only [PS, hk, Qfx hk, Qfx hq, Qk4 (k := k) (by omega), ih (k + 1) hk (by omega), e]
     exact Xkb _ _ _
    ·have : k = a.Threads.length := by omega
     subst this
     have e : b.Threads.drop a.Threads.length = [] := List.drop_eq_nil_of_le (by omega)
     simp only [PS, List.drop_length, e]
     simp [Qrp]
  have k0 := key FU 0 (by omega) (by have := Qjz ha.ts; omega)
  rw [show ((0 : Nat) : Int) = 0 from rfl, List.drop_zero, List.drop_zero] at k0
  rw [Qyq h, Xi0 ha.cs ha.fc hb.fc, Xid ha.os, k0]
  cases h3 : Qrp Qie a.Cells b.Cells
  ·simp
  by_cases h2 : a.Owner = b.Owner
  case neg => simp [h2]
  by_cases h1 : a.Fault = b.Fault
  case neg => simp [h1, h2]
  simp [h1, h2]
 ·rw [Qrm h, Qj5 h]; rfl
def Qyl (a b : Qcg) : Bool := a.Code == b.Code && (decide (a.Trace = b.Trace) && (decide (a.Picks = b.Picks) && Qyj a.End b.End))
theorem i_run {a b : Qcg} (h1 : a.Trace.length < 1099511627776) (h2 : a.Picks.length < 1099511627776) (ha : SB a.End) : Qir a b = some (Qyl a b) := by
 rw [Qir, i_evs h1, Xi8 h2, Xmn ha]
 unfold Qyl
 cases h1 : a.Code == b.Code <;> simp only [Bool.false_and, Bool.true_and, Bool.false_eq_true, if_false, if_true, Option.bind_some]
 cases h2 : decide (a.Trace = b.Trace) <;> simp only [Bool.false_and, Bool.true_and, Bool.false_eq_true, if_false, if_true, Option.bind_some]
 cases h3 : decide (a.Picks = b.Picks) <;> simp only [Bool.false_and, Bool.true_and, Bool.false_eq_true, if_false, if_true, Option.bind_some]
theorem s_run {a b : Qcg} (h1 : a.Trace.length < 1099511627776) (h2 : a.Picks.length < 1099511627776) (ha : SB a.End) (hb : SB b.End) : Qgo a b = some (Qyl a b) := by
 rw [Qgo, s_evs h1, Xid h2, Xnl ha hb]
 unfold Qyl
 cases h1 : a.Code == b.Code <;> simp only [Bool.false_and, Bool.true_and, Bool.false_eq_true, if_false, if_true, Option.bind_some]
 cases h2 : decide (a.Trace = b.Trace) <;> simp only [Bool.false_and, Bool.true_and, Bool.false_eq_true, if_false, if_true, Option.bind_some]
 cases h3 : decide (a.Picks = b.Picks) <;> simp only [Bool.false_and, Bool.true_and, Bool.false_eq_true, if_false, if_true, Option.bind_some]
end Go.Proofs.YtemmdkcpcjidmaaGreat
