/- Plain facts for FnExactPreemptsIn; no condition. -/

import Derived.Test.YtemmdkcpcjidmaaGreatPT
set_option linter.unusedVariables false
set_option linter.unusedSimpArgs false
namespace Go.Proofs.YtemmdkcpcjidmaaGreat
open Go Go.T
def Qtq {α:Type} (c : α→α→Bool) : List α→List α→Bool
 | [],[]=>true
 | x :: p,y :: q=>c x y && Qtq c p q
 | _,_=>false
theorem Qjz {α:Type} {c : α→α→Bool} : ∀ {p q:List α},p.length≠q.length→Qtq c p q=false
 | [],[],h=>absurd rfl h
 | [],_ :: _,_=>rfl
 | _ :: _,[],_=>rfl
 | x :: p,y :: q,h=>by
  rw [Qtq,Qjz (fun e=>h (by simp [e])),Bool.and_false]
theorem Qmx {α:Type} [DecidableEq α] : ∀ {p q:List α},Qtq (fun x y=>decide (x=y)) p q=decide (p=q)
 | [],[]=>by simp [Qtq]
 | [],_ :: _=>by simp [Qtq]
 | _ :: _,[]=>by simp [Qtq]
 | x :: p,y :: q=>by rw [Qtq,Qmx];simp
theorem Xax {α:Type} {p q:List α} {t : α→α→Option Bool} {c : α→α→Bool} {F:Nat→Int→Option Bool}
  (hF : ∀ n v,F (n+1) v=if (decide (v<(p.length:Int)))=true then Option.bind (rd p v) fun x=>Option.bind (rd q v) fun y=>Option.bind (t x y) fun r=>if (!r)=true then some false else F n (w64 (v+1)) else some true)
  (hl:q.length=p.length) (hp:p.length<1099511627776) (ht : ∀ x∈p,∀ y∈q,t x y=some (c x y)) : F FU 0=some (Qtq c p q):=by
 have key : ∀ (n k:Nat),k≤p.length→p.length<n+k→F n k=some (Qtq c (p.drop k) (q.drop k)):=by
  intro n
  induction n with
  | zero=>intro k h1 h2;omega
  | succ n ih =>
   intro k h1 h2
   rw [hF]
   by_cases hk:k<p.length
   ·have hq:k<q.length:=by omega
    rw [List.drop_eq_getElem_cons hk,List.drop_eq_getElem_cons hq,Qtq]
    simp only [PS,hk,Qfs hk,Qfs hq,ht _ (List.getElem_mem hk) _ (List.getElem_mem hq),Qik (k:=k) (by omega),ih (k+1) hk (by omega)]
    cases c p[k] q[k] <;> simp
   ·have:k=p.length:=by omega
    subst this
    have e:q.drop p.length=[]:=List.drop_eq_nil_of_le (by omega)
    simp only [PS,List.drop_length,e]
    simp [Qtq]
 simpa using key FU 0 (by omega) (by have:=Qip hp;omega)
theorem Qzs {α:Type} {p q:List α} (h:p.length=q.length) : ((p.length:Int) != (q.length:Int))=false:=by simp [h]
theorem Qta {α:Type} {p q:List α} (h:p.length≠q.length) : ((p.length:Int) != (q.length:Int))=true:=by simp;omega
theorem Xk3 {p q:List Int} (hp:p.length<1099511627776) : Qir p q=some (decide (p=q)):=by
 rw [Qir]
 by_cases h:p.length=q.length
 ·rw [Qzs h,Xax (p:=p) (q:=q) (t:=fun x y=>some (decide (x=y))) (c:=fun x y=>decide (x=y)) (F:=Qev p q) (fun n v=>by rw [Qev];rfl) h.symm hp (fun _ _ _ _=>rfl),Qmx]
  rfl
 ·rw [Qta h,← Qmx,Qjz h];rfl
theorem Xkg {p q:List Int} (hp:p.length<1099511627776) : Qd1 p q=some (decide (p=q)):=by
 rw [Qd1]
 by_cases h:p.length=q.length
 ·rw [Qzs h,Xax (p:=p) (q:=q) (t:=fun x y=>some (decide (x=y))) (c:=fun x y=>decide (x=y)) (F:=Qbr p q) (fun n v=>by rw [Qbr];rfl) h.symm hp (fun _ _ _ _=>rfl),Qmx]
  rfl
 ·rw [Qta h,← Qmx,Qjz h];rfl
theorem s_evs {p q:List Qaa} (hp:p.length<1099511627776) : Qfc p q=some (decide (p=q)):=by
 rw [Qfc]
 by_cases h:p.length=q.length
 ·rw [Qzs h,Xax (p:=p) (q:=q) (t:=fun x y=>some (decide (x=y))) (c:=fun x y=>decide (x=y)) (F:=Qcd p q) (fun n v=>by rw [Qcd];rfl) h.symm hp (fun _ _ _ _=>rfl),Qmx]
  rfl
 ·rw [Qta h,← Qmx,Qjz h];rfl
theorem i_evs {p q:List Qaa} (hp:p.length<1099511627776) : Qcs p q=some (decide (p=q)):=by
 rw [Qcs]
 by_cases h:p.length=q.length
 ·rw [Qzs h,Xax (p:=p) (q:=q) (t:=fun x y=>some (decide (x=y))) (c:=fun x y=>decide (x=y)) (F:=Qbe p q) (fun n v=>by rw [Qbe];rfl) h.symm hp (fun _ _ _ _=>rfl),Qmx]
  rfl
 ·rw [Qta h,← Qmx,Qjz h];rfl
def F64 (l:List Nat) : Prop:=∀ x∈l,x<18446744073709551616
theorem Xk5 {p q:List Nat} (hp:p.length<1099511627776) (h1:F64 p) (h2:F64 q) : Qf5 p q=some (Qtq Qj8 p q):=by
 rw [Qf5]
 by_cases h:p.length=q.length
 ·rw [Qzs h,Xax (p:=p) (q:=q) (t:=Qch) (c:=Qj8) (F:=Qcz p q) (fun n v=>by rw [Qcz]) h.symm hp (fun x hx y hy=>Qzd (h1 x hx) (h2 y hy))]
  rfl
 ·rw [Qta h,Qjz h];rfl
theorem Xk6 {p q:List Nat} (hp:p.length<1099511627776) : Qah p q=some (Qtq Qj8 p q):=by
 rw [Qah]
 by_cases h:p.length=q.length
 ·rw [Qzs h,Xax (p:=p) (q:=q) (t:=Qdf) (c:=Qj8) (F:=Qac p q) (fun n v=>by rw [Qac]) h.symm hp (fun x hx y hy=>rfl)]
  rfl
 ·rw [Qta h,Qjz h];rfl
def Qsy (x y:Qa0) : Bool:=x.Routine == y.Routine && (x.Pc == y.Pc && (x.State == y.State && (x.Cond == y.Cond && (x.Lock == y.Lock && Qtq Qj8 x.Stack y.Stack))))
def Qz2 (a b:Qa1) : Bool:=Qtq Qsy a.Threads b.Threads && (Qtq Qj8 a.Cells b.Cells && (decide (a.Owner=b.Owner) && a.Fault == b.Fault))
structure SB (s:Qa1) : Prop where
 ts:s.Threads.length<1099511627776
 cs:s.Cells.length<1099511627776
 os:s.Owner.length<1099511627776
 ss : ∀ t∈s.Threads,t.Stack.length<1099511627776
 fc:F64 s.Cells
 fs : ∀ t∈s.Threads,F64 t.Stack
theorem i_th {x y:Qa0} (h:x.Stack.length<1099511627776) : Qe8 x y=some (Qsy x y):=by
 rw [Qe8,Xk6 h]
 unfold Qsy
 cases h1:x.Routine == y.Routine <;> simp only [Bool.false_and,Bool.true_and,Bool.false_eq_true,if_false,if_true]
 cases h2:x.Pc == y.Pc <;> simp only [Bool.false_and,Bool.true_and,Bool.false_eq_true,if_false,if_true]
 cases h3:x.State == y.State <;> simp only [Bool.false_and,Bool.true_and,Bool.false_eq_true,if_false,if_true]
 cases h4:x.Cond == y.Cond <;> simp only [Bool.false_and,Bool.true_and,Bool.false_eq_true,if_false,if_true]
 cases h5:x.Lock == y.Lock <;> simp only [Bool.false_and,Bool.true_and,Bool.false_eq_true,if_false,if_true]
 rfl
theorem Xoy {a b:Qa1} (ha:SB a) : Qhb a b=some (Qz2 a b):=by
 have ht:Qak a.Threads b.Threads=some (Qtq Qsy a.Threads b.Threads):=by
  rw [Qak]
  by_cases h:a.Threads.length=b.Threads.length
  ·rw [Qzs h,Xax (p:=a.Threads) (q:=b.Threads) (t:=Qe8) (c:=Qsy) (F:=Qad a.Threads b.Threads) (fun n v=>by rw [Qad]) h.symm ha.ts (fun x hx y hy=>i_th (ha.ss x hx))]
   rfl
  ·rw [Qta h,Qjz h];rfl
 rw [Qhb,Xkg ha.os,Xk6 ha.cs,ht]
 unfold Qz2
 cases h1:a.Fault == b.Fault <;> simp only [Bool.and_false,Bool.and_true,Bool.false_eq_true,if_false,if_true,Option.bind_some]
 cases h2:decide (a.Owner=b.Owner) <;> simp only [Bool.and_false,Bool.and_true,Bool.false_eq_true,if_false,if_true,Option.bind_some]
 cases h3:Qtq Qj8 a.Cells b.Cells <;> simp only [Bool.and_false,Bool.and_true,Bool.false_eq_true,if_false,if_true,Option.bind_some]
theorem Xn9 (x y:Qa0) (rest:Bool) : (if (x.Routine != y.Routine)=true then some false else if (x.Pc != y.Pc)=true then some false else if (x.State != y.State)=true then some false else if (x.Cond != y.Cond)=true then some false else if (x.Lock != y.Lock)=true then some false else if (!Qtq Qj8 x.Stack y.Stack)=true then some false else some rest)=some (Qsy x y && rest):=by
 unfold Qsy
 by_cases h1:x.Routine=y.Routine
 case neg=>simp [h1]
 by_cases h2:x.Pc=y.Pc
 case neg=>simp [h1,h2]
 by_cases h3:x.State=y.State
 case neg=>simp [h1,h2,h3]
 by_cases h4:x.Cond=y.Cond
 case neg=>simp [h1,h2,h3,h4]
 by_cases h5:x.Lock=y.Lock
 case neg=>simp [h1,h2,h3,h4,h5]
 cases h6:Qtq Qj8 x.Stack y.Stack <;> simp [h1,h2,h3,h4,h5]
theorem Xom {a b:Qa1} (ha:SB a) (hb:SB b) : Qh9 a b=some (Qz2 a b):=by
 rw [Qh9]
 unfold Qz2
 by_cases h:a.Threads.length=b.Threads.length
 ·have key : ∀ (n k:Nat),k≤a.Threads.length→a.Threads.length<n+k→Qda a n b k=some (Qtq Qsy (a.Threads.drop k) (b.Threads.drop k)):=by
   intro n
   induction n with
   | zero=>intro k h1 h2;omega
   | succ n ih =>
    intro k h1 h2
    have hts:=ha.ts
    rw [Qda]
    by_cases hk:k<a.Threads.length
    ·have hq:k<b.Threads.length:=by omega
     have hm:=List.getElem_mem hk
     have hm2:=List.getElem_mem hq
     have e:=Xk5 (ha.ss _ hm) (ha.fs _ hm) (hb.fs _ hm2)
     rw [List.drop_eq_getElem_cons hk,List.drop_eq_getElem_cons hq,Qtq]
     simp only [PS,hk,Qfs hk,Qfs hq,Qik (k:=k) (by omega),ih (k+1) hk (by omega),e]
     exact Xn9 _ _ _
    ·have:k=a.Threads.length:=by omega
     subst this
     have e:b.Threads.drop a.Threads.length=[]:=List.drop_eq_nil_of_le (by omega)
     simp only [PS,List.drop_length,e]
     simp [Qtq]
  have k0:=key FU 0 (by omega) (by have:=Qip ha.ts;omega)
  rw [show ((0:Nat) : Int)=0 from rfl,List.drop_zero,List.drop_zero] at k0
  rw [Qzs h,Xk5 ha.cs ha.fc hb.fc,Xk3 ha.os,k0]
  cases h3:Qtq Qj8 a.Cells b.Cells
  ·simp
  by_cases h2:a.Owner=b.Owner
  case neg=>simp [h2]
  by_cases h1:a.Fault=b.Fault
  case neg=>simp [h1,h2]
  simp [h1,h2]
 ·rw [Qta h,Qjz h];rfl
def Qub (a b:Qbi) : Bool:=a.Code == b.Code && (decide (a.Trace=b.Trace) && (decide (a.Picks=b.Picks) && Qz2 a.End b.End))
theorem i_run {a b:Qbi} (h1:a.Trace.length<1099511627776) (h2:a.Picks.length<1099511627776) (ha:SB a.End) : Qj9 a b=some (Qub a b):=by
 rw [Qj9,i_evs h1,Xkg h2,Xoy ha]
 unfold Qub
 cases h1:a.Code == b.Code <;> simp only [Bool.false_and,Bool.true_and,Bool.false_eq_true,if_false,if_true,Option.bind_some]
 cases h2:decide (a.Trace=b.Trace) <;> simp only [Bool.false_and,Bool.true_and,Bool.false_eq_true,if_false,if_true,Option.bind_some]
 cases h3:decide (a.Picks=b.Picks) <;> simp only [Bool.false_and,Bool.true_and,Bool.false_eq_true,if_false,if_true,Option.bind_some]
theorem s_run {a b:Qbi} (h1:a.Trace.length<1099511627776) (h2:a.Picks.length<1099511627776) (ha:SB a.End) (hb:SB b.End) : Qhd a b=some (Qub a b):=by
 rw [Qhd,s_evs h1,Xk3 h2,Xom ha hb]
 unfold Qub
 cases h1:a.Code == b.Code <;> simp only [Bool.false_and,Bool.true_and,Bool.false_eq_true,if_false,if_true,Option.bind_some]
 cases h2:decide (a.Trace=b.Trace) <;> simp only [Bool.false_and,Bool.true_and,Bool.false_eq_true,if_false,if_true,Option.bind_some]
 cases h3:decide (a.Picks=b.Picks) <;> simp only [Bool.false_and,Bool.true_and,Bool.false_eq_true,if_false,if_true,Option.bind_some]
end Go.Proofs.YtemmdkcpcjidmaaGreat
