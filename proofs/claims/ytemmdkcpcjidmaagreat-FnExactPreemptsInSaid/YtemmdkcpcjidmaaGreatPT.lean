/- Plain facts for FnExactPreemptsIn; no condition. -/

import Derived.Test.YtemmdkcpcjidmaaGreatRPa
set_option linter.unusedVariables false
set_option linter.unusedSimpArgs false
namespace Go.Proofs.YtemmdkcpcjidmaaGreat
open Go Go.T
def DoF (s s':Qa1) (k:Int) (ev:Qaa) : Prop:=s.Threads.length≤s'.Threads.length∧∀ i:Nat,i≠k.toNat→i<s.Threads.length→s'.Threads[i]? = s.Threads[i]? ∨ (ev.Kind=10∧ev.Lock=(i:Int)∧∃ t,s.Threads[i]? = some t∧s'.Threads[i]? = some ⟨t.Routine,t.Pc,4,t.Cond,t.Lock,t.Stack⟩)
theorem dof1 {s:Qa1} {k:Int} {t:Qa0} {C:List Nat} {O:List Int} {F:Int} {ev:Qaa}:DoF s ⟨s.Threads.set k.toNat t,C,O,F⟩ k ev:=
 ⟨by simp,fun i hi _=>.inl (List.getElem?_set_ne (Ne.symm hi))⟩
theorem Xib {s:Qa1} {k:Int} {t u:Qa0} {C:List Nat} {O:List Int} {F:Int} {ev:Qaa}:DoF s ⟨(s.Threads.set k.toNat t).set k.toNat u,C,O,F⟩ k ev:=by rw [List.set_set];exact dof1
theorem dof3 {s:Qa1} {k:Int} {t u v:Qa0} {C:List Nat} {O:List Int} {F:Int} {ev:Qaa}:DoF s ⟨((s.Threads.set k.toNat t).set k.toNat u).set k.toNat v,C,O,F⟩ k ev:=by rw [List.set_set,List.set_set];exact dof1
theorem Xlr {s s':Qa1} {k:Int} {o:GOp} {e ev:Qaa} (h:Qaw s k o e=some (ev,s')) : ev.Thread=e.Thread∧DoF s s' k ev:=by
 unfold Qaw at h
 obtain ⟨x5,_,h⟩:=bnS h
 obtain ⟨r6,_,h⟩:=bnS h
 obtain ⟨l7,_,h⟩:=bnS h
 obtain ⟨r8,_,h⟩:=bnS h
 obtain ⟨l9,_,h⟩:=bnS h
 rcases itS h with ⟨_,h⟩ | ⟨_,h⟩
 ·obtain ⟨_,_,h⟩:=bnS h
  cases h;exact ⟨rfl,dof3⟩
 rcases itS h with ⟨_,h⟩ | ⟨_,h⟩
 ·obtain ⟨_,_,h⟩:=bnS h
  obtain ⟨_,_,h⟩:=bnS h
  cases h;exact ⟨rfl,dof3⟩
 rcases itS h with ⟨_,h⟩ | ⟨_,h⟩
 ·obtain ⟨_,_,h⟩:=bnS h
  obtain ⟨_,_,h⟩:=bnS h
  cases h;exact ⟨rfl,Xib⟩
 rcases itS h with ⟨_,h⟩ | ⟨_,h⟩
 ·cases h;exact ⟨rfl,Xib⟩
 rcases itS h with ⟨_,h⟩ | ⟨_,h⟩
 ·obtain ⟨_,_,h⟩:=bnS h
  obtain ⟨_,_,h⟩:=bnS h
  rcases itS h with ⟨_,h⟩ | ⟨_,h⟩
  ·cases h;exact ⟨rfl,Xib⟩
  ·cases h;exact ⟨rfl,Xib⟩
 rcases itS h with ⟨_,h⟩ | ⟨_,h⟩
 ·obtain ⟨_,_,h⟩:=bnS h
  cases h;exact ⟨rfl,Xib⟩
 rcases itS h with ⟨_,h⟩ | ⟨_,h⟩
 ·obtain ⟨_,_,h⟩:=bnS h
  cases h;exact ⟨rfl,Xib⟩
 rcases itS h with ⟨_,h⟩ | ⟨_,h⟩
 ·obtain ⟨_,_,h⟩:=bnS h
  obtain ⟨_,_,h⟩:=bnS h
  obtain ⟨l48,hx,h⟩:=bnS h
  have hy:=Xhy hx
  cases h
  refine ⟨rfl,?_,fun i hi hl=>.inl ?_⟩
  ·show s.Threads.length≤l48.length
   rw [← hy];simp
  ·show l48[i]? = _
   rw [← hy,List.getElem?_append_left (by simpa using hl),List.set_set,List.set_set,List.getElem?_set_ne (Ne.symm hi)]
 rcases itS h with ⟨_,h⟩ | ⟨_,h⟩
 ·obtain ⟨_,_,h⟩:=bnS h
  obtain ⟨_,_,h⟩:=bnS h
  cases h;exact ⟨rfl,Xib⟩
 rcases itS h with ⟨_,h⟩ | ⟨_,h⟩
 ·obtain ⟨_,_,h⟩:=bnS h
  cases h;exact ⟨rfl,Xib⟩
 rcases itS h with ⟨_,h⟩ | ⟨_,h⟩
 ·obtain ⟨r58,_,h⟩:=bnS h
  rcases itS h with ⟨c,h⟩ | ⟨_,h⟩
  ·obtain ⟨x60,hx,h⟩:=bnS h
   cases h
   rw [List.set_set] at hx ⊢
   have hr : 0≤r58:=by simpa using c
   have hx':(s.Threads.set k.toNat ⟨x5.Routine,w64 (x5.Pc+1),x5.State,x5.Cond,x5.Lock,l9⟩)[r58.toNat]? = some x60:=rdE hx
   refine ⟨rfl,by simp,fun i hi hl=>?_⟩
   by_cases hir:i=r58.toNat
   ·refine .inr ⟨rfl,by show r58=_;omega,x60,?_,?_⟩
    ·rw [← hir,List.getElem?_set_ne (Ne.symm hi)] at hx';exact hx'
    ·subst hir;simp [hl]
   ·refine .inl ?_
    show ((s.Threads.set _ _).set _ _)[i]? = _
    rw [List.getElem?_set_ne (fun e=>hir e.symm),List.getElem?_set_ne (Ne.symm hi)]
  ·cases h;exact ⟨rfl,Xib⟩
 ·obtain ⟨_,_,h⟩:=bnS h
  obtain ⟨_,_,h⟩:=bnS h
  obtain ⟨_,_,h⟩:=bnS h
  obtain ⟨_,_,h⟩:=bnS h
  cases h;exact ⟨rfl,dof3⟩
theorem Xg6 {s s':Qa1} {p:Qaf} {k:Int} {ev:Qaa} (h:Qbv s p k=some (ev,s')) : ev.Thread=k∧DoF s s' k ev:=by
 unfold Qbv at h
 obtain ⟨x4,_,h⟩:=bnS h
 obtain ⟨r5,_,h⟩:=bnS h
 rcases itS h with ⟨_,h⟩ | ⟨_,h⟩
 ·obtain ⟨x7,_,h⟩:=bnS h
  obtain ⟨r8,_,h⟩:=bnS h
  cases h;exact ⟨rfl,dof1⟩
 rcases itS h with ⟨_,h⟩ | ⟨_,h⟩
 ·cases h;exact ⟨rfl,dof1⟩
 obtain ⟨r12,_,h⟩:=bnS h
 rcases itS h with ⟨_,h⟩ | ⟨_,h⟩
 ·cases h;exact ⟨rfl,Nat.le_refl _,fun i _ _=>.inl rfl⟩
 obtain ⟨r15,hd,h⟩:=bnS h
 cases h
 exact Xlr hd
structure St1 (p:Qaf) (s:Qa1) (x:Int) (ev:Qaa) (s':Qa1) : Prop where
 rg:RG p s
 rg':RG p s'
 sp:Qfw p s x=some (s',ev)
 im:Qbv s p x=some (ev,s')
 th:ev.Thread=x
 x0 : 0≤x
 xl:x<s.Threads.length
 mo:s.Threads.length≤s'.Threads.length
inductive Xhz (p:Qaf) : Qa1→List Int→List Qaa→Qa1→Prop
 | nil {s:Qa1}:Xhz p s [] [] s
 | cons {s s1 s2:Qa1} {e:List Int} {j:Nat} {ev:Qaa} {K:List Int} {T:List Qaa} (hj:j<e.length) (e1:Qdd p s=some e) (e2:Qbz s p=some e) (el:e.length≤5) (nd:e.Nodup) (h:St1 p s e[j] ev s1) (t:Xhz p s1 K T s2) : Xhz p s ((j:Int) :: K) (ev :: T) s2
theorem Xhz.len {p:Qaf} {s s':Qa1} {K:List Int} {T:List Qaa} (h:Xhz p s K T s') : K.length=T.length∧s.Threads.length≤s'.Threads.length:=by
 induction h with
 | nil=>exact ⟨rfl,Nat.le_refl _⟩
 | cons _ _ _ _ _ h _ ih=>exact ⟨by simp [ih.1],Nat.le_trans h.mo ih.2⟩
theorem Qxh {p:Qaf} {ps:List Int} {m:Nat} (hm:m≤200) (hps : ∀ x∈ps,0≤x) (hpl:ps.length≤200) {g g':Qbi} : ∀ (n n' i:Nat) (r:Qbi),i≤m→m<n+i→m<n'+i→RG p r.End→r.Code=0→r.Trace.length=i→r.Picks.length=i →
  ∃ (R:Qbi) (K:List Int) (T:List Qaa),Qdu ps m n p g r=some R∧Qbc m ps n' p g' r i=some (R,true)∧R.Trace.length≤200∧R.Picks.length≤200∧RG p R.End∧Xhz p r.End K T R.End∧R.Trace=r.Trace++T∧R.Picks=r.Picks++K
 | 0,n',i,r,h1,h2,_,_,_,_,_=>by omega
 | n+1,0,i,r,h1,_,h2,_,_,_,_=>by omega
 | n+1,n'+1,i,r,h1,h2,h3,hR,hC,hT,hP=>by
  rw [Qdu,Qbc]
  have h5:=hR.n5
  obtain ⟨e,e1,e2,e3,e4,nd⟩:=enab hR
  have hcp:=Xph hR.sc
  have ee:Qa1.mk r.End.Threads r.End.Cells r.End.Owner r.End.Fault=r.End:=rfl
  have hcs:=Xgy h5 e1 (i:Int) (m:Int)
  simp only [ee,e2,Option.bind_some,Xfh (p:=p) h5 e,hT,hP,hcs]
  by_cases hc:Qqg r.End e (i:Int) (m:Int)=0
  ·obtain ⟨he0,him⟩:=Xdy hc
   obtain ⟨j,hj,hpk⟩:=Xmi (i:=i) hps he0
   obtain ⟨q,hq,eq,est,_⟩:=e4 _ (List.getElem_mem hj)
   obtain ⟨z,z1,z2,z3⟩:=Xmp hq hR est
   have z1':Qfw p r.End e[j]=some z:=by rw [eq];exact z1
   have z2':Qbv r.End p e[j]=some (z.2,z.1):=by rw [eq];exact z2
   obtain ⟨f1,f2⟩:=Xg6 z2'
   have st1:St1 p r.End e[j] z.2 z.1:=⟨hR,z3,z1',z2',f1,by rw [eq];omega,by rw [eq];omega,f2.1⟩
   have ap1:app r.Trace [z.2]=some (r.Trace++[z.2]):=Qid (by simp;omega)
   have ap2:app r.Picks [(j:Int)]=some (r.Picks++[(j:Int)]):=Qid (by simp;omega)
   have hw:w64 ((i:Int)+1)=((i+1:Nat) : Int):=Qik (k:=i) (by omega)
   have hnz:nz (e.length:Int)=some ():=by unfold nz;rw [if_neg (by omega)]
   obtain ⟨R,K,T,i1,i2,i3,i4,i5,i6,i7,i8⟩:=Qxh hm hps hpl (g:=g) (g':=g') (p:=p) n n' (i+1) ⟨r.Code,r.Trace++[z.2],r.Picks++[(j:Int)],z.1⟩ (by omega) (by omega) (by omega) z3 hC (by simp [hT]) (by simp [hP])
   refine ⟨R,(j:Int) :: K,z.2 :: T,?_,?_,i3,i4,i5,.cons hj e1 e2 e3 nd st1 i6,by rw [i7];simp,by rw [i8];simp⟩
   ·have j1:Qgw (Qdu ps m n) ps m p g r (Qqg r.End e i m) e (j:Int)=some R:=by
     rw [Qgw]
     simp only [Qfs hj,Option.bind_some,ee,z1',ap1,ap2,hc]
     rw [← hC]
     exact i1
    have d0:decide (Qqg r.End e (i:Int) (m:Int) > 0)=false:=by simp;omega
    simp only [d0,Bool.false_eq_true,if_false,e1,Option.bind_some]
    by_cases hi:i<ps.length
    ·have hi':decide ((i:Int)<(ps.length:Int))=true:=by simp;omega
     have:Qco ps e i=Int.tmod ps[i] (e.length:Int):=by unfold Qco;rw [dif_pos hi]
     simp only [hi',if_true,Qfs hi,Option.bind_some,hnz,← this,hpk]
     exact j1
    ·have hi':decide ((i:Int)<(ps.length:Int))=false:=by simp;omega
     have:Qco ps e i=0:=by unfold Qco;rw [dif_neg hi]
     simp only [hi',Bool.false_eq_true,if_false]
     rw [← this,hpk]
     exact j1
   ·have hc':(Qqg r.End e (i:Int) (m:Int) != 0)=false:=by simp [hc]
    have hp1:Qgt e (i:Int) ps=some (j:Int):=by
     rw [Qgt]
     by_cases hi:i<ps.length
     ·have hi':decide ((i:Int) ≥ (ps.length:Int))=false:=by simp;omega
      have:Qco ps e i=Int.tmod ps[i] (e.length:Int):=by unfold Qco;rw [dif_pos hi]
      simp only [hi',Bool.false_eq_true,if_false,Qfs hi,Option.bind_some,hnz,← this,hpk]
     ·have hi':decide ((i:Int) ≥ (ps.length:Int))=true:=by simp;omega
      have:Qco ps e i=0:=by unfold Qco;rw [dif_neg hi]
      simp only [hi',if_true,← this,hpk]
    have d0:decide ((j:Int)<0)=false:=by simp <;> omega
    simp only [hc',Bool.false_eq_true,if_false,hp1,Option.bind_some,d0,ap2,Qfs hj,z2',ap1,hw]
    rw [show Qqg r.End e (i:Int) (m:Int)=r.Code by rw [hc,hC]]
    exact i2
  ·have hc':(Qqg r.End e (i:Int) (m:Int) != 0)=true:=by simp [hc]
   have hpos:=Xha r.End e (i:Int) (m:Int)
   have d0:decide (Qqg r.End e (i:Int) (m:Int) > 0)=true:=by simp;omega
   simp only [d0,if_true,hc',hcp,Option.bind_some]
   exact ⟨_,[],[],rfl,rfl,by show r.Trace.length≤200;omega,by show r.Picks.length≤200;omega,hR,.nil,by simp,by simp⟩
theorem Xbo {p:Qaf} {ps:List Int} {m:Nat} (hg:Qjy p=true) (hv : ∀ r∈p.Routines,∀ o∈r,o.V<18446744073709551616) (hm:m≤200) (hps : ∀ x∈ps,0≤x) (hpl:ps.length≤200) :
  ∃ (R:Qbi) (s:Qa1),Qis p ps m=some R∧Qgu p ps m=some R∧R.Trace.length≤200∧R.Picks.length≤200∧RG p R.End∧Qg6 p=some s∧Qg5 p=some s∧Xhz p s R.Picks R.Trace R.End:=by
 obtain ⟨s,s1,s2,s3⟩:=Xp6 hg hv
 obtain ⟨R,K,T,r1,r2,r3,r4,r5,r6,r7,r8⟩:=Qxh (p:=p) (ps:=ps) (m:=m) hm hps hpl (g:=Xew) (g':=Xew) FU FU 0 ⟨0,[],[],s⟩ (by omega) (Qip (by omega)) (Qip (by omega)) s3 rfl rfl rfl
 rw [show ((0:Nat) : Int)=0 from rfl] at r2
 have e7:R.Trace=T:=by rw [r7];rfl
 have e8:R.Picks=K:=by rw [r8];rfl
 refine ⟨R,s,?_,?_,r3,r4,r5,s1,s2,by rw [e7,e8];exact r6⟩
 ·simp only [Qis,s1,Option.bind_some]
  rw [show (Qbi.mk 0 [] [] (Qa1.mk [] [] [] 0))=Xew from rfl,show (Qa1.mk s.Threads s.Cells s.Owner s.Fault)=s from rfl,r1]
 ·simp only [Qgu,Qdc,s2,Option.bind_some]
  rw [show (Qbi.mk 0 [] [] (Qa1.mk [] [] [] 0))=Xew from rfl,show (Qa1.mk s.Threads s.Cells s.Owner s.Fault)=s from rfl,r2]
  rfl
end Go.Proofs.YtemmdkcpcjidmaaGreat
