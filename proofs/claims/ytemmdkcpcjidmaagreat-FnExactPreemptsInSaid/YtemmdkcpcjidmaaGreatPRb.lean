/- Plain facts for FnExactPreemptsIn; no condition. -/

import Derived.Test.YtemmdkcpcjidmaaGreatQFnExactPreemptsIn
set_option linter.unusedVariables false
namespace Go.Proofs.YtemmdkcpcjidmaaGreat
open Go Go.T
theorem sb_of {s:Qa1} (hw:Qtw s) (hs:Qv4 s) : SB s:=by
 obtain ⟨⟨a,b⟩,c,d⟩:=hs
 obtain ⟨⟨_,w1⟩,⟨_,w2⟩,_⟩:=hw
 have c:s.Cells.length≤1048576:=c
 have d:s.Owner.length≤1048576:=d
 refine ⟨by omega,by omega,by omega,fun t ht=>?_,w2,fun t ht=>?_⟩
 ·have:t.Stack.length≤1048576:=b t ht
  omega
 ·exact (w1 t ht).2.2.2.2.2.2
theorem Xof {x0:Qaf} {x1:Qbi} (g0:Qqk x0) (g1:Qzk x1) (sm1:Xfv x1) : IsH x0 x1:=by
 obtain ⟨t1,t2,t3⟩:=sm1
 exact ⟨fun r hr o ho=>((g0.2.2.2.2 r hr).2 o ho).2.2.2,t1,t2,sb_of g1.2.2.2 t3⟩
theorem Xie {p:Qaf} {r:Qbi} (hl:r.Trace.length≤200) {s s':Qa1} {K:List Int} {T:List Qaa} (hP:Xhz p s K T s') : ∀ (n n' i c:Nat),r.Trace.drop i=T→c≤i→i≤200→T.length<n→T.length<n' →
  ∃ v,Qba r n p r s c i=some v∧Qbt r n' p r c s i=some v:=by
 induction hP with
 | nil =>
  intro n n' i c hd hc hi h1 h2
  have hk:r.Trace.length≤i:=by
   have:=congrArg List.length hd
   rw [List.length_drop] at this
   simp at this;omega
  obtain ⟨n,rfl⟩ : ∃ k,n=k+1:=⟨n - 1,by omega⟩
  obtain ⟨n',rfl⟩ : ∃ k,n'=k+1:=⟨n' - 1,by omega⟩
  rw [Qba,Qbt]
  have c1:decide ((i:Int)<(r.Trace.length:Int))=false:=by simp;omega
  exact ⟨c,by simp only [c1,Bool.false_eq_true,if_false],by simp only [c1,Bool.false_eq_true,if_false]⟩
 | @cons s s1 s2 e j ev K T hj e1 e2 el nd h t ih =>
  intro n n' i c hd hc hi h1 h2
  have hlen:=congrArg List.length hd
  rw [List.length_drop,List.length_cons] at hlen
  simp only [List.length_cons] at h1 h2
  obtain ⟨n,rfl⟩ : ∃ k,n=k+1:=⟨n - 1,by omega⟩
  obtain ⟨n',rfl⟩ : ∃ k,n'=k+1:=⟨n' - 1,by omega⟩
  have hk:i<r.Trace.length:=by omega
  have hdd:=List.drop_eq_getElem_cons hk
  rw [hd] at hdd
  have hev:r.Trace[i]=ev:=by injection hdd with a b;exact a.symm
  have hdr:r.Trace.drop (i+1)=T:=by injection hdd with a b;exact b.symm
  have c1:decide ((i:Int)<(r.Trace.length:Int))=true:=by simp;omega
  have ee:Qa1.mk s.Threads s.Cells s.Owner s.Fault=s:=rfl
  have ee1:Qa1.mk s1.Threads s1.Cells s1.Owner s1.Fault=s1:=rfl
  have hsp:=h.sp
  have him:=h.im
  rw [← h.th] at hsp him
  have w1:w64 ((i:Int)+1)=((i+1:Nat) : Int):=Qik (k:=i) (by omega)
  have wc:w64 ((c:Int)+1)=((c+1:Nat) : Int):=Qik (k:=c) (by omega)
  have wc0:w64 ((c:Int)+0)=(c:Int):=by rw [Int.add_zero,Qh4 (by omega)]
  rw [Qba,Qbt]
  simp only [c1,if_true,Qfs hk,hev,Option.bind_some,ee]
  have fin : ∀ d:Nat,d≤i+1→∃ v,Qd9 (Qba r n) r p r s i ev d=some v∧Qdo (Qbt r n') r p r s i ev d=some v:=by
   intro d hd2
   obtain ⟨v,v1,v2⟩:=ih n n' (i+1) d hdr hd2 (by omega) (by omega) (by omega)
   refine ⟨v,?_,?_⟩
   ·rw [Qd9,ee,hsp]
    simp only [Option.bind_some,ee1,w1]
    exact v1
   ·rw [Qdo,him]
    simp only [Option.bind_some,w1]
    exact v2
  by_cases hi0:i=0
  ·subst hi0
   have c2:decide (((0:Nat) : Int) > 0)=false:=by decide
   simp only [c2,Bool.false_eq_true,if_false,Qd7,Qcp]
   exact fin c (by omega)
  ·have c2:decide ((i:Int) > 0)=true:=by simp;omega
   have wp:w64 ((i:Int) - 1)=((i - 1:Nat) : Int):=by rw [Qh4 (by omega)];omega
   have hk1:i - 1<r.Trace.length:=by omega
   simp only [c2,if_true,wp,Qfs hk1,Option.bind_some,e1,e2]
   cases hne:r.Trace[i - 1].Thread != ev.Thread
   ·simp only [Bool.false_eq_true,if_false,Qcr,Qd7,Qcp,Option.bind_some,wc0]
    exact fin c (by omega)
   ·simp only [if_true,Xp2 (p:=e) (x:=r.Trace[i - 1].Thread) (by omega),Xb2 (p:=e) (x:=r.Trace[i - 1].Thread) (by omega),Option.bind_some,Qcr]
    cases e.any (· == r.Trace[i - 1].Thread)
    ·simp only [Bool.false_eq_true,if_false,Option.bind_some,Qd7,Qcp,wc0]
     exact fin c (by omega)
    ·simp only [if_true,Option.bind_some,Qfn,wc]
     exact fin (c+1) (by omega)
theorem Qwi (x0:Qaf) (x1:Qbi) (g0:Qqk x0) (g1:Qzk x1) : Qd6 x0 x1=some true:=by
 refine Qs4 x0 x1 g0 g1 fun sm0 sm1=>?_
 have H:=Xof g0 g1 sm1
 have hsp:=Qy7 sm0 g0
 have hip:=Qyt (p:=x0) sm0
 rw [Qgm,Qgs,Xmw hip H,hsp]
 cases hg:Qjy x0
 ·exact ⟨(0,false),by simp,by simp⟩
 simp only [Option.bind_some,Bool.not_true,Bool.false_eq_true,if_false,Bool.true_and,Xm4 hg H]
 cases hi:isG x0 x1
 ·exact ⟨(0,false),by simp,by simp⟩
 obtain ⟨R,s,hP,s1,s2,hs,_,hl⟩:=Xlp hg H hi
 unfold Qub at hs
 simp only [Bool.and_eq_true,decide_eq_true_eq] at hs
 obtain ⟨_,hT,_,hE⟩:=hs
 rw [hT] at hP hl
 obtain ⟨v,v1,v2⟩:=Xie (r:=x1) hl hP FU FU 0 0 (by simp) (by omega) (by omega) (Qip (by omega)) (Qip (by omega))
 rw [show ((0:Nat) : Int)=0 from rfl] at v1 v2
 refine ⟨(v,true),?_,?_⟩
 ·simp only [Qhh,s1,Option.bind_some,Bool.not_true,Bool.false_eq_true,if_false,show (Qa1.mk s.Threads s.Cells s.Owner s.Fault)=s from rfl,v1]
 ·simp only [Qk6,s2,Option.bind_some,Bool.not_true,Bool.false_eq_true,if_false,show (Qa1.mk s.Threads s.Cells s.Owner s.Fault)=s from rfl,v2]
end Go.Proofs.YtemmdkcpcjidmaaGreat
