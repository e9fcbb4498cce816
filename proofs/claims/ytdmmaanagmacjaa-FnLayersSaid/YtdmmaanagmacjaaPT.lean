/- Plain facts for FnLayers; no condition. -/

import Derived.Test.YtdmmaanagmacjaaRPa
set_option linter.unusedVariables false
set_option linter.unusedSimpArgs false
namespace Go.Proofs.Ytdmmaanagmacjaa
open Go Go.T
def DoF (s s':Qa3) (k:Int) (ev:Qa5) : Prop:=s.Threads.length≤s'.Threads.length∧∀ i:Nat,i≠k.toNat→i<s.Threads.length→s'.Threads[i]? = s.Threads[i]? ∨ (ev.Kind=10∧ev.Lock=(i:Int)∧∃ t,s.Threads[i]? = some t∧s'.Threads[i]? = some ⟨t.Routine,t.Pc,4,t.Cond,t.Lock,t.Stack⟩)
theorem dof1 {s:Qa3} {k:Int} {t:Qa2} {C:List Nat} {O:List Int} {F:Int} {ev:Qa5}:DoF s ⟨s.Threads.set k.toNat t,C,O,F⟩ k ev:=
 ⟨by simp,fun i hi _=>.inl (List.getElem?_set_ne (Ne.symm hi))⟩
theorem Xg4 {s:Qa3} {k:Int} {t u:Qa2} {C:List Nat} {O:List Int} {F:Int} {ev:Qa5}:DoF s ⟨(s.Threads.set k.toNat t).set k.toNat u,C,O,F⟩ k ev:=by rw [List.set_set];exact dof1
theorem dof3 {s:Qa3} {k:Int} {t u v:Qa2} {C:List Nat} {O:List Int} {F:Int} {ev:Qa5}:DoF s ⟨((s.Threads.set k.toNat t).set k.toNat u).set k.toNat v,C,O,F⟩ k ev:=by rw [List.set_set,List.set_set];exact dof1
theorem Xip {s s':Qa3} {k:Int} {o:GOp} {e ev:Qa5} (h:Qar s k o e=some (ev,s')) : ev.Thread=e.Thread∧DoF s s' k ev:=by
 unfold Qar at h
 obtain ⟨x5,_,h⟩:=bnS h
 obtain ⟨r6,_,h⟩:=bnS h
 obtain ⟨l7,_,h⟩:=bnS h
 obtain ⟨r8,_,h⟩:=bnS h
 obtain ⟨l9,_,h⟩:=bnS h
 rcases itS h with ⟨_,h⟩ | ⟨_,h⟩
 ·obtain ⟨_,_,h⟩:=bnS h
  cases h;exact ⟨rfl,dof3⟩
 rcases itS h with ⟨_,h⟩ | ⟨_,h⟩
 ·obtain ⟨_,_,h⟩:=bnS h
  obtain ⟨_,_,h⟩:=bnS h
  cases h;exact ⟨rfl,dof3⟩
 rcases itS h with ⟨_,h⟩ | ⟨_,h⟩
 ·obtain ⟨_,_,h⟩:=bnS h
  obtain ⟨_,_,h⟩:=bnS h
  cases h;exact ⟨rfl,Xg4⟩
 rcases itS h with ⟨_,h⟩ | ⟨_,h⟩
 ·cases h;exact ⟨rfl,Xg4⟩
 rcases itS h with ⟨_,h⟩ | ⟨_,h⟩
 ·obtain ⟨_,_,h⟩:=bnS h
  obtain ⟨_,_,h⟩:=bnS h
  rcases itS h with ⟨_,h⟩ | ⟨_,h⟩
  ·cases h;exact ⟨rfl,Xg4⟩
  ·cases h;exact ⟨rfl,Xg4⟩
 rcases itS h with ⟨_,h⟩ | ⟨_,h⟩
 ·obtain ⟨_,_,h⟩:=bnS h
  cases h;exact ⟨rfl,Xg4⟩
 rcases itS h with ⟨_,h⟩ | ⟨_,h⟩
 ·obtain ⟨_,_,h⟩:=bnS h
  cases h;exact ⟨rfl,Xg4⟩
 rcases itS h with ⟨_,h⟩ | ⟨_,h⟩
 ·obtain ⟨_,_,h⟩:=bnS h
  obtain ⟨_,_,h⟩:=bnS h
  obtain ⟨l48,hx,h⟩:=bnS h
  have hy:=Xeu hx
  cases h
  refine ⟨rfl,?_,fun i hi hl=>.inl ?_⟩
  ·show s.Threads.length≤l48.length
   rw [← hy];simp
  ·show l48[i]? = _
   rw [← hy,List.getElem?_append_left (by simpa using hl),List.set_set,List.set_set,List.getElem?_set_ne (Ne.symm hi)]
 rcases itS h with ⟨_,h⟩ | ⟨_,h⟩
 ·obtain ⟨_,_,h⟩:=bnS h
  obtain ⟨_,_,h⟩:=bnS h
  cases h;exact ⟨rfl,Xg4⟩
 rcases itS h with ⟨_,h⟩ | ⟨_,h⟩
 ·obtain ⟨_,_,h⟩:=bnS h
  cases h;exact ⟨rfl,Xg4⟩
 rcases itS h with ⟨_,h⟩ | ⟨_,h⟩
 ·obtain ⟨r58,_,h⟩:=bnS h
  rcases itS h with ⟨c,h⟩ | ⟨_,h⟩
  ·obtain ⟨x60,hx,h⟩:=bnS h
   cases h
   rw [List.set_set] at hx ⊢
   have hr : 0≤r58:=by simpa using c
   have hx':(s.Threads.set k.toNat ⟨x5.Routine,w64 (x5.Pc+1),x5.State,x5.Cond,x5.Lock,l9⟩)[r58.toNat]? = some x60:=rdE hx
   refine ⟨rfl,by simp,fun i hi hl=>?_⟩
   by_cases hir:i=r58.toNat
   ·refine .inr ⟨rfl,by show r58=_;omega,x60,?_,?_⟩
    ·rw [← hir,List.getElem?_set_ne (Ne.symm hi)] at hx';exact hx'
    ·subst hir;simp [hl]
   ·refine .inl ?_
    show ((s.Threads.set _ _).set _ _)[i]? = _
    rw [List.getElem?_set_ne (fun e=>hir e.symm),List.getElem?_set_ne (Ne.symm hi)]
  ·cases h;exact ⟨rfl,Xg4⟩
 ·obtain ⟨_,_,h⟩:=bnS h
  obtain ⟨_,_,h⟩:=bnS h
  obtain ⟨_,_,h⟩:=bnS h
  obtain ⟨_,_,h⟩:=bnS h
  cases h;exact ⟨rfl,dof3⟩
theorem Xer {s s':Qa3} {p:Qa9} {k:Int} {ev:Qa5} (h:Qdr s p k=some (ev,s')) : ev.Thread=k∧DoF s s' k ev:=by
 unfold Qdr at h
 obtain ⟨x4,_,h⟩:=bnS h
 obtain ⟨r5,_,h⟩:=bnS h
 rcases itS h with ⟨_,h⟩ | ⟨_,h⟩
 ·obtain ⟨x7,_,h⟩:=bnS h
  obtain ⟨r8,_,h⟩:=bnS h
  cases h;exact ⟨rfl,dof1⟩
 rcases itS h with ⟨_,h⟩ | ⟨_,h⟩
 ·cases h;exact ⟨rfl,dof1⟩
 obtain ⟨r12,_,h⟩:=bnS h
 rcases itS h with ⟨_,h⟩ | ⟨_,h⟩
 ·cases h;exact ⟨rfl,Nat.le_refl _,fun i _ _=>.inl rfl⟩
 obtain ⟨r15,hd,h⟩:=bnS h
 cases h
 exact Xip hd
structure St1 (p:Qa9) (s:Qa3) (x:Int) (ev:Qa5) (s':Qa3) : Prop where
 rg:RG p s
 rg':RG p s'
 sp:Qgi p s x=some (s',ev)
 im:Qdr s p x=some (ev,s')
 th:ev.Thread=x
 x0 : 0≤x
 xl:x<s.Threads.length
 mo:s.Threads.length≤s'.Threads.length
inductive Xif (p:Qa9) : Qa3→List Int→List Qa5→Qa3→Prop
 | nil {s:Qa3}:Xif p s [] [] s
 | cons {s s1 s2:Qa3} {e:List Int} {j:Nat} {ev:Qa5} {K:List Int} {T:List Qa5} (hj:j<e.length) (e1:Qdd p s=some e) (e2:Qfl s p=some e) (el:e.length≤5) (nd:e.Nodup) (h:St1 p s e[j] ev s1) (t:Xif p s1 K T s2) : Xif p s ((j:Int) :: K) (ev :: T) s2
theorem Xif.len {p:Qa9} {s s':Qa3} {K:List Int} {T:List Qa5} (h:Xif p s K T s') : K.length=T.length∧s.Threads.length≤s'.Threads.length:=by
 induction h with
 | nil=>exact ⟨rfl,Nat.le_refl _⟩
 | cons _ _ _ _ _ h _ ih=>exact ⟨by simp [ih.1],Nat.le_trans h.mo ih.2⟩
theorem Qt4 {p:Qa9} {ps:List Int} {m:Nat} (hm:m≤200) (hps : ∀ x∈ps,0≤x) (hpl:ps.length≤200) {g g':Qgp} : ∀ (n n' i:Nat) (r:Qgp),i≤m→m<n+i→m<n'+i→RG p r.End→r.Code=0→r.Trace.length=i→r.Picks.length=i →
  ∃ (R:Qgp) (K:List Int) (T:List Qa5),Qd7 ps m n p g r=some R∧Qca m ps n' p g' r i=some (R,true)∧R.Trace.length≤200∧R.Picks.length≤200∧RG p R.End∧Xif p r.End K T R.End∧R.Trace=r.Trace++T∧R.Picks=r.Picks++K
 | 0,n',i,r,h1,h2,_,_,_,_,_=>by omega
 | n+1,0,i,r,h1,_,h2,_,_,_,_=>by omega
 | n+1,n'+1,i,r,h1,h2,h3,hR,hC,hT,hP=>by
  rw [Qd7,Qca]
  have h5:=hR.n5
  obtain ⟨e,e1,e2,e3,e4,nd⟩:=enab hR
  have hcp:=Xkp hR.sc
  have ee:Qa3.mk r.End.Threads r.End.Cells r.End.Owner r.End.Fault=r.End:=rfl
  have hcs:=Xde h5 e1 (i:Int) (m:Int)
  simp only [ee,e2,Option.bind_some,Xbz (p:=p) h5 e,hT,hP,hcs]
  by_cases hc:Qn7 r.End e (i:Int) (m:Int)=0
  ·obtain ⟨he0,him⟩:=Xal hc
   obtain ⟨j,hj,hpk⟩:=Xhj (i:=i) hps he0
   obtain ⟨q,hq,eq,est,_⟩:=e4 _ (List.getElem_mem hj)
   obtain ⟨z,z1,z2,z3⟩:=Xjb hq hR est
   have z1':Qgi p r.End e[j]=some z:=by rw [eq];exact z1
   have z2':Qdr r.End p e[j]=some (z.2,z.1):=by rw [eq];exact z2
   obtain ⟨f1,f2⟩:=Xer z2'
   have st1:St1 p r.End e[j] z.2 z.1:=⟨hR,z3,z1',z2',f1,by rw [eq];omega,by rw [eq];omega,f2.1⟩
   have ap1:app r.Trace [z.2]=some (r.Trace++[z.2]):=Qdm (by simp;omega)
   have ap2:app r.Picks [(j:Int)]=some (r.Picks++[(j:Int)]):=Qdm (by simp;omega)
   have hw:w64 ((i:Int)+1)=((i+1:Nat) : Int):=Qff (k:=i) (by omega)
   have hnz:nz (e.length:Int)=some ():=by unfold nz;rw [if_neg (by omega)]
   obtain ⟨R,K,T,i1,i2,i3,i4,i5,i6,i7,i8⟩:=Qt4 hm hps hpl (g:=g) (g':=g') (p:=p) n n' (i+1) ⟨r.Code,r.Trace++[z.2],r.Picks++[(j:Int)],z.1⟩ (by omega) (by omega) (by omega) z3 hC (by simp [hT]) (by simp [hP])
   refine ⟨R,(j:Int) :: K,z.2 :: T,?_,?_,i3,i4,i5,.cons hj e1 e2 e3 nd st1 i6,by rw [i7];simp,by rw [i8];simp⟩
   ·have j1:Qg2 (Qd7 ps m n) ps m p g r (Qn7 r.End e i m) e (j:Int)=some R:=by
     rw [Qg2]
     simp only [Qdn hj,Option.bind_some,ee,z1',ap1,ap2,hc]
     rw [← hC]
     exact i1
    have d0:decide (Qn7 r.End e (i:Int) (m:Int) > 0)=false:=by simp;omega
    simp only [d0,Bool.false_eq_true,if_false,e1,Option.bind_some]
    by_cases hi:i<ps.length
    ·have hi':decide ((i:Int)<(ps.length:Int))=true:=by simp;omega
     have:Qc6 ps e i=Int.tmod ps[i] (e.length:Int):=by unfold Qc6;rw [dif_pos hi]
     simp only [hi',if_true,Qdn hi,Option.bind_some,hnz,← this,hpk]
     exact j1
    ·have hi':decide ((i:Int)<(ps.length:Int))=false:=by simp;omega
     have:Qc6 ps e i=0:=by unfold Qc6;rw [dif_neg hi]
     simp only [hi',Bool.false_eq_true,if_false]
     rw [← this,hpk]
     exact j1
   ·have hc':(Qn7 r.End e (i:Int) (m:Int) != 0)=false:=by simp [hc]
    have hp1:Qj5 e (i:Int) ps=some (j:Int):=by
     rw [Qj5]
     by_cases hi:i<ps.length
     ·have hi':decide ((i:Int) ≥ (ps.length:Int))=false:=by simp;omega
      have:Qc6 ps e i=Int.tmod ps[i] (e.length:Int):=by unfold Qc6;rw [dif_pos hi]
      simp only [hi',Bool.false_eq_true,if_false,Qdn hi,Option.bind_some,hnz,← this,hpk]
     ·have hi':decide ((i:Int) ≥ (ps.length:Int))=true:=by simp;omega
      have:Qc6 ps e i=0:=by unfold Qc6;rw [dif_neg hi]
      simp only [hi',if_true,← this,hpk]
    have d0:decide ((j:Int)<0)=false:=by simp <;> omega
    simp only [hc',Bool.false_eq_true,if_false,hp1,Option.bind_some,d0,ap2,Qdn hj,z2',ap1,hw]
    rw [show Qn7 r.End e (i:Int) (m:Int)=r.Code by rw [hc,hC]]
    exact i2
  ·have hc':(Qn7 r.End e (i:Int) (m:Int) != 0)=true:=by simp [hc]
   have hpos:=Xcg r.End e (i:Int) (m:Int)
   have d0:decide (Qn7 r.End e (i:Int) (m:Int) > 0)=true:=by simp;omega
   simp only [d0,if_true,hc',hcp,Option.bind_some]
   exact ⟨_,[],[],rfl,rfl,by show r.Trace.length≤200;omega,by show r.Picks.length≤200;omega,hR,.nil,by simp,by simp⟩
theorem Qy6 {p:Qa9} {ps:List Int} {m:Nat} (hg:Qt0 p=true) (hv : ∀ r∈p.Routines,∀ o∈r,o.V<18446744073709551616) (hm:m≤200) (hps : ∀ x∈ps,0≤x) (hpl:ps.length≤200) :
  ∃ (R:Qgp) (s:Qa3),Qjw p ps m=some R∧Qnz p ps m=some R∧R.Trace.length≤200∧R.Picks.length≤200∧RG p R.End∧Qha p=some s∧Qk3 p=some s∧Xif p s R.Picks R.Trace R.End:=by
 obtain ⟨s,s1,s2,s3⟩:=Xl8 hg hv
 obtain ⟨R,K,T,r1,r2,r3,r4,r5,r6,r7,r8⟩:=Qt4 (p:=p) (ps:=ps) (m:=m) hm hps hpl (g:=Qpi) (g':=Qpi) FU FU 0 ⟨0,[],[],s⟩ (by omega) (Qeg (by omega)) (Qeg (by omega)) s3 rfl rfl rfl
 rw [show ((0:Nat) : Int)=0 from rfl] at r2
 have e7:R.Trace=T:=by rw [r7];rfl
 have e8:R.Picks=K:=by rw [r8];rfl
 refine ⟨R,s,?_,?_,r3,r4,r5,s1,s2,by rw [e7,e8];exact r6⟩
 ·simp only [Qjw,s1,Option.bind_some]
  rw [show (Qgp.mk 0 [] [] (Qa3.mk [] [] [] 0))=Qpi from rfl,show (Qa3.mk s.Threads s.Cells s.Owner s.Fault)=s from rfl,r1]
 ·simp only [Qnz,Qga,s2,Option.bind_some]
  rw [show (Qgp.mk 0 [] [] (Qa3.mk [] [] [] 0))=Qpi from rfl,show (Qa3.mk s.Threads s.Cells s.Owner s.Fault)=s from rfl,r2]
  rfl
end Go.Proofs.Ytdmmaanagmacjaa
