/- Plain facts for FnLayers; no condition. -/

import Derived.Test.YtdmmaanagmacjaaGS
set_option linter.unusedVariables false
namespace Go.Proofs.Ytdmmaanagmacjaa
open Go Go.T
structure TG (p:Qa9) (s:Qa3) (t:Qa2) : Prop where
 bp:PB4 p
 ops : ∀ r∈p.Routines,r.length≤24∧∀ o∈r,Qmi p r.length o=true
 n1 : 1≤s.Threads.length
 n5:s.Threads.length≤5
 own:(s.Owner.length:Int)=p.Locks
 ow : ∀ x∈s.Owner,-1≤x∧x≤(s.Threads.length:Int) - 1
 rt : 0≤t.Routine∧t.Routine≤(p.Routines.length:Int) - 1
 pc : 0≤t.Pc∧t.Pc≤(((p.Routines[t.Routine.toNat]?).getD []).length:Int)
 st : 1≤t.State∧t.State≤4
 sk:t.Stack.length≤8
 lk:t.State=4→0≤t.Lock∧t.Lock≤p.Locks - 1
 fl : ∀ x∈t.Stack,x<18446744073709551616
theorem Xew {p:Qa9} (h:Qt0 p=true) : PB4 p∧∀ r∈p.Routines,r.length≤24∧∀ o∈r,Qmi p r.length o=true:=by
 unfold Qt0 at h
 simp only [Bool.and_eq_true,List.all_eq_true,decide_eq_true_eq] at h
 obtain ⟨⟨⟨⟨h1,h2⟩,h3⟩,h4⟩,h5⟩:=h
 have h1:=Qcm.1 h1
 have h2:=Qcm.1 h2
 have h3:=Qcm.1 h3
 have h4:=Qcm.1 h4
 exact ⟨⟨h1,h2,h3,by omega,by omega⟩,h5⟩
theorem Qx3 {p:Qa9} {s:Qa3} {t:Qa2} (h:TG p s t) : (Qed p t=some (GOp.mk 0 0 0 0,false)∧Qda p t=some (GOp.mk 0 0 0 0,false)) ∨
  ∃ o r,r∈p.Routines∧o∈r∧Qed p t=some (o,true)∧Qda p t=some (o,true):=by
 have hr:t.Routine.toNat<p.Routines.length:=by have:=h.rt;have:=h.bp;omega
 have hx:rd p.Routines t.Routine=some (p.Routines[t.Routine.toNat]):=Qyu h.rt.1 (List.getElem?_eq_getElem hr)
 have hpc:=h.pc
 rw [List.getElem?_eq_getElem hr,Option.getD_some] at hpc
 have hmem:=List.getElem_mem hr
 generalize p.Routines[t.Routine.toNat]=r at *
 rw [Qed,Qda,hx]
 simp only [Option.bind_some]
 by_cases he:t.Pc=(r.length:Int)
 ·left
  have h2:decide (t.Pc<(r.length:Int))=false:=by simp;omega
  simp [he]
 ·right
  have h1:(t.Pc == (r.length:Int))=false:=by simp [he]
  have h2:decide (t.Pc<(r.length:Int))=true:=by simp;omega
  have hk:t.Pc.toNat<r.length:=by omega
  have ho:rd r t.Pc=some (r[t.Pc.toNat]):=Qyu hpc.1 (List.getElem?_eq_getElem hk)
  exact ⟨r[t.Pc.toNat],r,hmem,List.getElem_mem hk,by simp [h1,ho],by simp [h2,ho]⟩
theorem Qrb {p:Qa9} {s:Qa3} {t:Qa2} (h:TG p s t) {a:Int} (h0 : 0≤a) (h1:a≤p.Locks - 1) : ∃ v,rd s.Owner a=some v ∧ -1≤v∧v≤4:=by
 have hk:a.toNat<s.Owner.length:=by have:=h.own;omega
 have hv:=h.ow _ (List.getElem_mem hk)
 have:=h.n5
 exact ⟨s.Owner[a.toNat],Qyu h0 (List.getElem?_eq_getElem hk),hv.1,by omega⟩
theorem Qnf {p:Qa9} {s:Qa3} {t:Qa2} (h:TG p s t) : ∃ r:Int×Bool,Qcq s t=some r∧Qcv s t=some (if r.2=true then r.1 else -1)∧(r.2=true→0≤r.1∧r.1<s.Threads.length):=by
 rw [Qcq,Qcv]
 have hsk:=h.sk
 by_cases he:t.Stack.length=0
 ·have h1:((t.Stack.length:Int) == 0)=true:=by simp;exact List.eq_nil_of_length_eq_zero he
  exact ⟨(0,false),by simp [h1],by simp [h1],by simp⟩
 ·have h1:((t.Stack.length:Int) == 0)=false:=by
   rw [beq_eq_false_iff_ne];omega
  have hk:t.Stack.length - 1<t.Stack.length:=by omega
  have hw:w64 ((t.Stack.length:Int) - 1)=((t.Stack.length - 1:Nat) : Int):=by rw [Qdl (by omega)];omega
  have hx:=Qdn hk
  obtain ⟨r,e1,e2,e3⟩:=tix (x:=t.Stack[t.Stack.length - 1]) (m:=s.Threads.length) (h.fl _ (List.getElem_mem hk)) h.n1 h.n5
  refine ⟨r,?_,?_,e3⟩
  ·simp only [h1,Bool.false_eq_true,if_false,hw,hx,Option.bind_some,e2]
  ·simp only [h1,Bool.false_eq_true,if_false,hw,hx,Option.bind_some,e1]
   cases r.2 <;> simp
theorem Xl3 {p:Qa9} {s:Qa3} {t:Qa2} (h:TG p s t) : ∃ b w:Int,Qd8 p s t=some b∧Qi6 s p t=some (w,decide (b ≥ 0)) ∧ -1≤b∧b≤4∧(0≤b→w=b):=by
 rw [Qd8,Qi6]
 by_cases h4:t.State=4
 ·obtain ⟨l0,l1⟩:=h.lk h4
  obtain ⟨v,hv,v1,v2⟩:=Qrb h l0 l1
  exact ⟨v,v,by simp [h4,hv],by simp [h4,hv],v1,v2,fun _=>rfl⟩
 have e4:(t.State == 4)=false:=by simp [h4]
 by_cases h1:t.State=1
 case neg =>
  have e1:(t.State == 1)=false:=by simp [h1]
  have e1':(t.State != 1)=true:=by simp [h1]
  refine ⟨-1,0,?_,by simp [e4,e1],by omega,by omega,by omega⟩
  rcases Qx3 h with ⟨a,b⟩ | ⟨o,r,hr,ho,a,b⟩ <;> simp [e4,a,e1']
 have e1:(t.State == 1)=true:=by simp [h1]
 have e1':(t.State != 1)=false:=by simp [h1]
 rcases Qx3 h with ⟨a,b⟩ | ⟨o,r,hr,ho,a,b⟩
 ·exact ⟨-1,0,by simp [e4,a,e1'],by simp [e4,e1,b,Qc7],by omega,by omega,by omega⟩
 ·have hg:=(h.ops r hr).2 o ho
  simp only [e4,e1,e1',a,b,Option.bind_some,Bool.false_eq_true,if_false,if_true,Bool.not_true]
  rw [Qge]
  by_cases hc:o.Code=12
  ·have hA : 0≤o.A∧o.A≤p.Locks - 1:=by
    unfold Qmi at hg
    simp only [hc] at hg
    simp only [show ¬ ((12:Int)=1) by omega,show ¬ ((12:Int)=2∨(12:Int)=3) by omega,show ¬ ((12:Int)=10∨(12:Int)=11) by omega,if_false,true_or,if_true,Bool.and_eq_true] at hg
    exact Qcm.1 hg.2.1
   obtain ⟨v,hv,v1,v2⟩:=Qrb h hA.1 hA.2
   exact ⟨v,v,by simp [hc,hv],by simp [hc,hv,Qj8],v1,v2,fun _=>rfl⟩
  have ec:(o.Code == 12)=false:=by simp [hc]
  by_cases hj:o.Code=15
  ·obtain ⟨k,j1,j2,j3⟩:=Qnf h
   have ej:(o.Code == 15)=true:=by simp [hj]
   cases hk:k.2
   ·rw [hk] at j2
    refine ⟨-1,k.1,?_,?_,by omega,by omega,by omega⟩
    ·simp [ec,ej,j2]
    ·simp [ec,ej,Qc7,Qf3,j1,hk]
   ·rw [hk] at j2
    obtain ⟨k0,k1⟩:=j3 hk
    have hkt:k.1.toNat<s.Threads.length:=by omega
    have hrd:rd s.Threads k.1=some (s.Threads[k.1.toNat]):=Qyu k0 (List.getElem?_eq_getElem hkt)
    have hn5:=h.n5
    have hge:decide (k.1 ≥ 0)=true:=by simp;omega
    by_cases h2:(s.Threads[k.1.toNat]).State=2
    ·refine ⟨-1,k.1,?_,?_,by omega,by omega,by omega⟩
     ·simp [ec,ej,j2,hge,hrd,h2]
     ·simp [ec,ej,Qc7,Qf3,j1,hk,hrd,h2]
    ·refine ⟨k.1,k.1,?_,?_,by omega,by omega,fun _=>rfl⟩
     ·simp [ec,ej,j2,hrd,h2];omega
     ·rw [hge];simp [ec,ej,Qc7,Qf3,j1,hk,hrd,h2]
  ·have ej:(o.Code == 15)=false:=by simp [hj]
   exact ⟨-1,0,by simp [ec,ej],by simp [ec,ej,Qc7],by omega,by omega,by omega⟩
end Go.Proofs.Ytdmmaanagmacjaa
