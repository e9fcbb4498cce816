/- Plain facts for FnLayers; no condition. -/

import Derived.Test.YtdmmaanagmacjaaNWa
set_option linter.unusedVariables false
set_option linter.unusedSimpArgs false
namespace Go.Proofs.Ytdmmaanagmacjaa
open Go Go.T
def Go1 (p:Qa9) (s:Qa3) (x:Int) : Prop:=∃ (j:Nat) (hj:j<s.Threads.length),x=(j:Int)∧(s.Threads[j].State=1∨s.Threads[j].State=4)∧s.Fault=0∧∃ b:Int,Qd8 p s s.Threads[j]=some b∧b<0
theorem Qxj {p:Qa9} {s:Qa3} (h : ∀ t∈s.Threads,TG p s t) (h5:s.Threads.length≤5) : ∀ (n k:Nat) (a:List Int),k≤s.Threads.length→s.Threads.length<n+k→a.length≤k→(∀ x∈a,Go1 p s x)→∃ r,Qb2 s n p s a k=some r∧Qbc s n p a k=some r∧r.length≤s.Threads.length∧∀ x∈r,Go1 p s x
 | 0,k,a,h1,h2,h3,h4=>by omega
 | n+1,k,a,h1,h2,h3,h4=>by
  rw [Qb2,Qbc]
  by_cases hk:k<s.Threads.length
  ·obtain ⟨b,w,e1,e2,e3,e4,e5⟩:=Xl3 (h _ (List.getElem_mem hk))
   have go : ∀ a':List Int,a'.length≤k+1→(∀ x∈a',Go1 p s x)→_:=fun a' ha hb=>Qxj h h5 n (k+1) a' hk (by omega) ha hb
   have hm:(a++[(k:Int)]).length≤k+1:=by simp;omega
   have hb:Go1 p s (k:Int)→∀ x∈a++[(k:Int)],Go1 p s x:=fun hg x hx=>by
    rcases List.mem_append.1 hx with hx | hx
    ·exact h4 x hx
    ·simp only [List.mem_singleton] at hx;subst hx;exact hg
   simp only [PS,hk,Qdn hk,Qff (k:=k) (by omega),e1,e2]
   by_cases hf:s.Fault=0
   ·have ef:(s.Fault == 0)=true:=by simp [hf]
    by_cases hb0:b<0
    ·have q1:decide (b ≥ 0)=false:=by simp;omega
     have q2:decide (b<0)=true:=by simp;omega
     have ha:=Qdm (a:=a) (b:=[(k:Int)]) (by simp;omega)
     by_cases s1:s.Threads[k].State=1
     ·have es:(s.Threads[k].State == 1)=true:=by simp [s1]
      simp only [PS,ef,es,q1,q2,ha]
      exact go _ hm (hb ⟨k,hk,rfl,.inl s1,hf,b,e1,hb0⟩)
     ·have es:(s.Threads[k].State == 1)=false:=by simp [s1]
      by_cases s4:s.Threads[k].State=4
      ·have es4:(s.Threads[k].State == 4)=true:=by simp [s4]
       simp only [PS,ef,es,es4,q1,q2,ha]
       exact go _ hm (hb ⟨k,hk,rfl,.inr s4,hf,b,e1,hb0⟩)
      ·have es4:(s.Threads[k].State == 4)=false:=by simp [s4]
       simp only [PS,ef,es,es4,q1,q2]
       exact go a (by omega) h4
    ·have q1:decide (b ≥ 0)=true:=by simp;omega
     have q2:decide (b<0)=false:=by simp;omega
     by_cases s1:s.Threads[k].State=1
     ·have es:(s.Threads[k].State == 1)=true:=by simp [s1]
      simp only [PS,ef,es,q1,q2]
      exact go a (by omega) h4
     ·have es:(s.Threads[k].State == 1)=false:=by simp [s1]
      by_cases s4:s.Threads[k].State=4
      ·have es4:(s.Threads[k].State == 4)=true:=by simp [s4]
       simp only [PS,ef,es,es4,q1,q2]
       exact go a (by omega) h4
      ·have es4:(s.Threads[k].State == 4)=false:=by simp [s4]
       simp only [PS,ef,es,es4,q1,q2]
       exact go a (by omega) h4
   ·have ef:(s.Fault == 0)=false:=by simp [hf]
    simp only [PS,ef]
    exact go a (by omega) h4
  ·have:k=s.Threads.length:=by omega
   subst this
   simp only [PS,Nat.lt_irrefl]
   exact ⟨a,rfl,rfl,h3,h4⟩
theorem Xjb {p:Qa9} {s:Qa3} {k:Nat} (hk:k<s.Threads.length) (hR:RG p s) (hst:s.Threads[k].State=1∨s.Threads[k].State=4) :
  ∃ q:Qa3×Qa5,Qgi p s k=some q∧Qdr s p k=some (q.2,q.1)∧RG p q.1:=by
 have h:=hR.tg _ (List.getElem_mem hk)
 have hth:=hR.th _ (List.getElem_mem hk)
 have hn5:=h.n5
 have hsk:=h.sk
 have hsc:=hR.sc
 have hrd:rd s.Threads (k:Int)=some s.Threads[k]:=Qdn hk
 rw [Qgi,Qdr]
 have hpc:w64 (s.Threads[k].Pc+0)=s.Threads[k].Pc:=by
  have h1:=h.pc
  have h2:=h.rt
  have h3:=h.bp
  have hr:s.Threads[k].Routine.toNat<p.Routines.length:=by omega
  rw [List.getElem?_eq_getElem hr,Option.getD_some] at h1
  have h4:=(h.ops _ (List.getElem_mem hr)).1
  rw [Int.add_zero,Qdl (by omega)]
 simp only [hrd,Option.bind_some]
 rcases hst with s1 | s4
 ·have e4:(s.Threads[k].State == 4)=false:=by simp [s1]
  rcases Xc9 h with ⟨a,b⟩ | ⟨o,r,hr,ho,hrr,hp1,a,b⟩
  ·refine ⟨(⟨s.Threads.set k ⟨s.Threads[k].Routine,s.Threads[k].Pc,2,s.Threads[k].Cond,s.Threads[k].Lock,s.Threads[k].Stack⟩,s.Cells,s.Owner,s.Fault⟩,⟨k,11,-1,-1,s.Threads[k].Pc⟩),?_,?_,Qg4 hR (Qxb hth hth.pc (by omega) (fun e=>by omega) hth.sk hth.fl) rfl hR.cf rfl hR.ow⟩
   ·simp [a,e4,Qxa hsc,hrd]
   ·simp [b,e4]
  ·have hg:=(h.ops r hr).2 o ho
   obtain ⟨f,f1,f2,f3,f4,f5⟩:=Xb2 hk h hg
   by_cases hf:f=0
   ·subst hf
    obtain ⟨d1,d2,d3⟩:=f5 rfl
    obtain ⟨q,q1,q2,q3⟩:=do_rg hk hR s1 hr hrr ho hp1 (fun e=>Xja hk e f2) d1 d2 d3
    refine ⟨q,?_,?_,q3⟩
    ·simp [a,e4,f1,Qxa hsc,q1]
    ·simp [b,e4,f2,q2]
   ·refine ⟨(⟨s.Threads,s.Cells,s.Owner,f⟩,⟨k,12,f,-1,s.Threads[k].Pc⟩),?_,?_,⟨hR.bp,hR.ops,hR.pv,hR.n1,hR.n5,hR.own,hR.ow,hR.cl,hR.cf,hR.th⟩⟩
    ·simp [a,e4,f1,hf,Qjj,Qxa hsc]
    ·simp [b,e4,f2,hf]
 ·have e4:(s.Threads[k].State == 4)=true:=by simp [s4]
  obtain ⟨v,hv,_⟩:=Qrb h (h.lk s4).1 (h.lk s4).2
  rcases Xc9 h with ⟨a,b⟩ | ⟨o,r,hr,ho,hrr,hp1,a,b⟩
  ·refine ⟨(⟨s.Threads.set k ⟨s.Threads[k].Routine,s.Threads[k].Pc,1,-1,-1,s.Threads[k].Stack⟩,s.Cells,s.Owner.set s.Threads[k].Lock.toNat k,s.Fault⟩,⟨k,9,s.Threads[k].Cond,s.Threads[k].Lock,s.Threads[k].Pc⟩),?_,?_,Qg4 hR (Qxb hth hth.pc (by omega) (fun e=>by omega) hth.sk hth.fl) rfl hR.cf (by simp) (Qj6 hR.ow ⟨by omega,by omega⟩)⟩
   ·simp [a,e4,Qxa hsc,hrd,hv]
   ·simp [b,e4,hv,Qfp,hpc]
    rw [Int.add_zero] at hpc
    rw [hpc]
  ·have hp0:=hth.pc
   have h24:=(h.ops r hr).1
   refine ⟨(⟨s.Threads.set k ⟨s.Threads[k].Routine,w64 (s.Threads[k].Pc+1),1,-1,-1,s.Threads[k].Stack⟩,s.Cells,s.Owner.set s.Threads[k].Lock.toNat k,s.Fault⟩,⟨k,9,s.Threads[k].Cond,s.Threads[k].Lock,s.Threads[k].Pc⟩),?_,?_,Qg4 hR (Qxb hth (by rw [← hrr] at hp0 ⊢; rw [Qdl (by omega)];omega) (by omega) (fun e=>by omega) hth.sk hth.fl) rfl hR.cf (by simp) (Qj6 hR.ow ⟨by omega,by omega⟩)⟩
   ·simp [a,e4,Qxa hsc,hrd,hv]
   ·simp [b,e4,hv,Qfp]
theorem Xl8 {p:Qa9} (hg:Qt0 p=true) (hv : ∀ r∈p.Routines,∀ o∈r,o.V<18446744073709551616) : ∃ s,Qha p=some s∧Qk3 p=some s∧RG p s:=by
 obtain ⟨c,l,h1,h2,h3,h4,e1,e2⟩:=Xai hg
 obtain ⟨b,o⟩:=Xew hg
 obtain ⟨b1,b2,b3,b4,b5⟩:=b
 refine ⟨Xes c l,e1,e2,⟨⟨b1,b2,b3,b4,b5⟩,o,hv,by simp [Xes],by simp [Xes],by simp [Xes,h4],fun x hx=>?_,by simp [Xes,h3],fun x hx=>?_,fun t ht=>?_⟩⟩
 ·have:=List.eq_of_mem_replicate hx
  subst this
  simp [Xes]
 ·have:=List.eq_of_mem_replicate hx
  omega
 ·simp only [Xes,List.mem_singleton] at ht
  subst ht
  exact ⟨⟨by simp,by simp;omega⟩,⟨by simp,by simp⟩,by simp,by simp,by simp,by simp⟩
theorem Qpg {p:Qa9} {s:Qa3} (h5:s.Threads.length≤5) : ∀ (n k:Nat) (a r:List Int),k≤s.Threads.length→s.Threads.length<n+k→a.length≤k→a.Nodup→(∀ x∈a,x<k)→Qb2 s n p s a k=some r→r.Nodup
  | 0,k,a,r,h1,h2,_,_,_,h=>by omega
  | n+1,k,a,r,h1,h2,hl,hn,hlt,h=>by
    rw [Qb2] at h
    by_cases hk:k<s.Threads.length
    · have go1:=Qpg (p:=p) h5 n (k+1) a r hk (by omega) (by omega) hn (fun x hx=>by have:=hlt x hx;omega)
      have go2:=Qpg (p:=p) h5 n (k+1) (a++[(k:Int)]) r hk (by omega) (by simp;omega) (by
        rw [List.nodup_append]
        exact ⟨hn,by simp,fun x hx y hy=>by simp at hy;subst hy;have:=hlt x hx;omega⟩) (fun x hx=>by
        rcases List.mem_append.1 hx with hx | hx
        · have:=hlt x hx;omega
        · simp at hx;omega)
      simp only [PS,hk,Qdn hk,Qff (k:=k) (by omega),Qdm (a:=a) (b:=[(k:Int)]) (by simp;omega)] at h
      have hb : ∀ (X:Option Qa3),True:=fun _=>trivial
      split at h
      · split at h
        · cases hB:Qd8 p s s.Threads[k] with
          | none=>rw [hB] at h;cases h
          | some b =>
            rw [hB] at h
            simp only [Option.bind_some] at h
            split at h
            · exact go2 h
            · exact go1 h
        · split at h
          · cases hB:Qd8 p s s.Threads[k] with
            | none=>rw [hB] at h;cases h
            | some b =>
              rw [hB] at h
              simp only [Option.bind_some] at h
              split at h
              · exact go2 h
              · exact go1 h
          · exact go1 h
      · exact go1 h
    · have:k=s.Threads.length:=by omega
      subst this
      simp only [PS,Nat.lt_irrefl] at h
      cases h
      exact hn
theorem enab {p:Qa9} {s:Qa3} (hR:RG p s) : ∃ e:List Int,Qdd p s=some e∧Qfl s p=some e∧e.length≤5∧(∀ x∈e,Go1 p s x)∧e.Nodup:=by
 have h5:=hR.n5
 obtain ⟨e,e1,e2,e3,e4⟩:=Qxj hR.tg h5 FU 0 [] (by omega) (Qeg (by omega)) (by simp) (by simp)
 have nd:=Qpg (p:=p) h5 FU 0 [] e (by omega) (Qeg (by omega)) (by simp) (by simp) (by simp) e1
 rw [show ((0:Nat) : Int)=0 from rfl] at e1 e2
 exact ⟨e,by rw [Qdd];exact e1,by rw [Qfl];exact e2,by omega,e4,nd⟩
theorem Qx5 {s:Qa3} (h5:s.Threads.length≤5) : ∀ (n k:Nat),k≤s.Threads.length→s.Threads.length<n+k→Qef s n k=some (if (s.Threads.drop k).any (fun t=>t.State != 2)=true then 3 else 1)
 | 0,k,h1,h2=>by omega
 | n+1,k,h1,h2=>by
  rw [Qef]
  by_cases hk:k<s.Threads.length
  ·rw [List.drop_eq_getElem_cons hk,List.any_cons]
   simp only [PS,hk,Qdn hk,Qff (k:=k) (by omega),Qx5 h5 n (k+1) hk (by omega)]
   cases hs:(s.Threads[k].State != 2) <;> simp
  ·have:k=s.Threads.length:=by omega
   subst this
   simp
def Qn7 (s:Qa3) (e:List Int) (i n:Int) : Int:=if s.Fault≠0 then 2 else if e.length=0 then (if s.Threads.any (fun t=>t.State != 2)=true then 3 else 1) else if i=n then 4 else 0
theorem Xde {p:Qa9} {s:Qa3} (h5:s.Threads.length≤5) {e:List Int} (he:Qdd p s=some e) (i n:Int) : Qiv p s i n=some (Qn7 s e i n):=by
 rw [Qiv,he]
 unfold Qn7
 by_cases hf:s.Fault=0
 ·have:=Qx5 h5 FU 0 (by omega) (Qeg (by omega))
  rw [List.drop_zero] at this
  rw [show ((0:Nat) : Int)=0 from rfl] at this
  by_cases hl:e.length=0
  ·have:e=[]:=List.eq_nil_of_length_eq_zero hl
   subst this
   simp [hf,this]
  ·have hl':((e.length:Int) == 0)=false:=by rw [beq_eq_false_iff_ne];omega
   have hf':(s.Fault != 0)=false:=by simp [hf]
   simp only [hf',Bool.false_eq_true,if_false,Option.bind_some,hl',hl]
   by_cases hi:i=n <;> simp [hi,hf]
 ·simp [hf]
theorem Xbz {p:Qa9} {s:Qa3} (h5:s.Threads.length≤5) (e:List Int) (i n:Int) : Qnc p s e i n=some (Qn7 s e i n):=by
 obtain ⟨r,e1,e2⟩:=findL (p:=s.Threads) (t:=fun t=>Qop t) (q:=fun t=>t.State != 2) (F:=Qav s.Threads) (by intros;rw [Qav]) (by omega) (fun t _=>rfl)
 have e3:Qb8 s.Threads=some (s.Threads.any (fun t=>t.State != 2)):=by
  rw [Qb8,Qc9,e1]
  simp only [PS,e2]
 rw [Qnc,e3]
 unfold Qn7
 by_cases hf:s.Fault=0
 ·by_cases hl:e.length=0
  ·have:e=[]:=List.eq_nil_of_length_eq_zero hl
   subst this
   cases s.Threads.any (fun t=>t.State != 2) <;> simp [hf]
  ·have hl':((e.length:Int) == 0)=false:=by rw [beq_eq_false_iff_ne];omega
   have hf':(s.Fault != 0)=false:=by simp [hf]
   simp only [hf',Bool.false_eq_true,if_false,hl',hl]
   by_cases hi:i=n <;> simp [hi,hf]
 ·simp [hf]
end Go.Proofs.Ytdmmaanagmacjaa
