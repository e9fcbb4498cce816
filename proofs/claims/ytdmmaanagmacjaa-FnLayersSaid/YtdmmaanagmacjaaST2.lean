/- Plain facts for FnLayers; no condition. -/

import Derived.Test.YtdmmaanagmacjaaST
set_option linter.unusedVariables false
set_option linter.unusedSimpArgs false
namespace Go.Proofs.Ytdmmaanagmacjaa
open Go Go.T
theorem Xfx {T:List Qa2} {k:Nat} (hk:k<T.length) : T.set k T[k]=T:=List.set_getElem_self hk
def slp (a:Int) (t:Qa2) : Bool:=t.State == 3 && t.Cond == a
theorem Xkc (t:Qa2) (o:GOp) : Qj7 t o=some (slp o.A t):=by
 unfold Qj7 slp
 by_cases h:t.State=3 <;> simp [h]
theorem Xbu {T:List Qa2} {o:GOp} (h5:T.length≤1000) : ∀ (n i:Nat),i≤T.length→T.length<n+i →
  (Qam T o n i=some (-1)∧∀ j (hj:j<T.length),i≤j→slp o.A T[j]=false) ∨
  ∃ (m:Nat) (hm:m<T.length),i≤m∧Qam T o n i=some (m:Int)∧slp o.A T[m]=true∧∀ j (hj:j<T.length),i≤j→j<m→slp o.A T[j]=false
 | 0,i,h1,h2=>by omega
 | n+1,i,h1,h2=>by
  rw [Qam]
  by_cases hi:i<T.length
  ·simp only [PS,hi,Qdn hi,Xkc,Qff (k:=i) (by omega)]
   cases hb:slp o.A T[i]
   ·rcases Xbu (o:=o) h5 n (i+1) hi (by omega) with ⟨e1,e2⟩ | ⟨m,hm,e0,e1,e2,e3⟩
    ·left
     refine ⟨by simpa using e1,fun j hj hij=>?_⟩
     by_cases e:j=i
     ·subst e;exact hb
     ·exact e2 j hj (by omega)
    ·right
     refine ⟨m,hm,by omega,by simpa using e1,e2,fun j hj hij hjm=>?_⟩
     by_cases e:j=i
     ·subst e;exact hb
     ·exact e3 j hj (by omega) hjm
   ·right
    exact ⟨i,hi,Nat.le_refl _,by simp,hb,fun j hj a b=>by omega⟩
  ·have:i=T.length:=by omega
   subst this
   left
   exact ⟨by simp,fun j hj a=>by omega⟩
theorem Xa8 {T:List Qa2} {C:List Nat} {O:List Int} {F:Int} {k:Nat} (hk:k<T.length) (h5:T.length≤1000) (hst:T[k].State≠3) {o:GOp} {ev ev0:Qa5} {g0:Qa3} {R Pc St Co Lo:Int} {stk:List Nat} : ∀ (n i:Nat),i≤T.length→T.length<n+i →
  (∀ m (hm:m<T.length),i≤m→slp o.A T[m]=true→(∀ j (hj:j<T.length),i≤j→j<m→slp o.A T[j]=false)→Qbr T C O k T[k] n T stk C O F o ev g0 ev0 R Pc St Co Lo i=some (Qa3.mk ((T.set m ⟨T[m].Routine,T[m].Pc,4,T[m].Cond,T[m].Lock,T[m].Stack⟩).set k ⟨R,Pc,St,Co,Lo,stk⟩) C O F,⟨ev.Thread,ev.Kind,ev.Obj,(m:Int),ev.Pc⟩)) ∧
  ((∀ j (hj:j<T.length),i≤j→slp o.A T[j]=false)→Qbr T C O k T[k] n T stk C O F o ev g0 ev0 R Pc St Co Lo i=some (Qa3.mk (T.set k ⟨R,Pc,St,Co,Lo,stk⟩) C O F,ev))
 | 0,i,h1,h2=>by omega
 | n+1,i,h1,h2=>by
  rw [Qbr]
  by_cases hi:i<T.length
  ·have ih:=Xa8 (C:=C) (O:=O) (F:=F) hk h5 hst (o:=o) (ev:=ev) (ev0:=ev0) (g0:=g0) (R:=R) (Pc:=Pc) (St:=St) (Co:=Co) (Lo:=Lo) (stk:=stk) n (i+1) hi (by omega)
   simp only [PS,hi,Qdn hi,Qdn hk,Qff (k:=i) (by omega)]
   have skip : ∀ (hb:slp o.A T[i]=false),_:=fun hb=>ih
   by_cases e:i=k
   ·subst e
    have d:decide ((i:Int)=(i:Int))=true:=by simp
    have d3:(T[i].State == 3)=false:=by simp [hst]
    have hb:slp o.A T[i]=false:=by unfold slp;rw [d3];rfl
    simp only [d,d3,if_true,Bool.false_eq_true,if_false]
    refine ⟨fun m hm him hs hf=>?_,fun hf=>?_⟩
    ·have hne:i≠m:=by intro e;subst e;rw [hb] at hs;cases hs
     exact ih.1 m hm (by omega) hs (fun j hj a b=>hf j hj (by omega) b)
    ·exact ih.2 (fun j hj a=>hf j hj (by omega))
   ·have d:decide ((i:Int)=(k:Int))=false:=by simp;omega
    simp only [d,Bool.false_eq_true,if_false]
    have hrk:rd (T.set i ⟨T[i].Routine,T[i].Pc,4,T[i].Cond,T[i].Lock,T[i].Stack⟩) (k:Int)=some T[k]:=by
     rw [Qmw,List.getElem?_set_ne e,List.getElem?_eq_getElem hk]
    by_cases s3:T[i].State=3
    ·by_cases sc:T[i].Cond=o.A
     ·have hb:slp o.A T[i]=true:=by unfold slp;simp [s3,sc]
      refine ⟨fun m hm him hs hf=>?_,fun hf=>?_⟩
      ·have:i=m:=by
        rcases Nat.lt_or_ge i m with hlt | hge
        ·have:=hf i hi (Nat.le_refl _) hlt;rw [hb] at this;cases this
        ·omega
       subst this
       have q1:(T[i].State == 3)=true:=by simp [s3]
       have q2:(T[i].Cond == o.A)=true:=by simp [sc]
       simp only [q1,q2,if_true,Int.toNat_natCast,hrk,Option.bind_some]
      ·have:=hf i hi (Nat.le_refl _);rw [hb] at this;cases this
     ·have hb:slp o.A T[i]=false:=by unfold slp;simp [s3,sc]
      have q1:(T[i].State == 3)=true:=by simp [s3]
      have q2:(T[i].Cond == o.A)=false:=by simp [sc]
      simp only [q1,q2,if_true,Bool.false_eq_true,if_false]
      refine ⟨fun m hm him hs hf=>?_,fun hf=>?_⟩
      ·have hne:i≠m:=by intro e;subst e;rw [hb] at hs;cases hs
       exact ih.1 m hm (by omega) hs (fun j hj a b=>hf j hj (by omega) b)
      ·exact ih.2 (fun j hj a=>hf j hj (by omega))
    ·have hb:slp o.A T[i]=false:=by unfold slp;simp [s3]
     have q1:(T[i].State == 3)=false:=by simp [s3]
     simp only [q1,Bool.false_eq_true,if_false]
     refine ⟨fun m hm him hs hf=>?_,fun hf=>?_⟩
     ·have hne:i≠m:=by intro e;subst e;rw [hb] at hs;cases hs
      exact ih.1 m hm (by omega) hs (fun j hj a b=>hf j hj (by omega) b)
     ·exact ih.2 (fun j hj a=>hf j hj (by omega))
  ·have:i=T.length:=by omega
   subst this
   simp only [PS,Nat.lt_irrefl,Qdn hk]
   exact ⟨fun m hm him=>by omega,fun _=>by simp⟩
end Go.Proofs.Ytdmmaanagmacjaa
