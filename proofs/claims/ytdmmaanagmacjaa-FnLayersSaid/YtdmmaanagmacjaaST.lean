/- Plain facts for FnLayers; no condition. -/

import Derived.Test.YtdmmaanagmacjaaFL
set_option linter.unusedVariables false
set_option linter.unusedSimpArgs false
namespace Go.Proofs.Ytdmmaanagmacjaa
open Go Go.T
theorem cl_f {l:List Nat} (h:l.length<1099511627776) : Qbk l=some l:=by
 rw [Qbk,Qet,Qdm (by simp;omega)]
 cases l <;> simp [Xjf,both]
theorem cl_i {l:List Int} (h:l.length<1099511627776) : Qg6 l=some l:=by
 rw [Qg6,Qgy,Qdm (by simp;omega)]
 cases l <;> simp [Xjf,both]
theorem cl_t {l:List Qa2} (h:l.length<1099511627776) : Qdv l=some l:=by
 rw [Qdv,Qfd,Qdm (by simp;omega)]
 cases l <;> simp [Xjf,both]
def SC (s:Qa3) : Prop:=s.Threads.length≤1048576∧s.Cells.length≤1048576∧s.Owner.length≤1048576∧∀ t∈s.Threads,t.Stack.length≤1048576
theorem Xgu {s g:Qa3} (h:SC s) : ∀ (n k:Nat),k≤s.Threads.length→s.Threads.length<n+k→Qew s n g (Qa3.mk (s.Threads.take k) s.Cells s.Owner s.Fault) k=some s
 | 0,k,h1,h2=>by omega
 | n+1,k,h1,h2=>by
  rw [Qew]
  have h0:=h.1
  by_cases hk:k<s.Threads.length
  ·have hs:=h.2.2.2 _ (List.getElem_mem hk)
   simp only [PS,hk,Qdn hk,Qff (k:=k) (by omega),Qdm (a:=[]) (b:=s.Threads[k].Stack) (by simp;omega),List.nil_append,Qdm (a:=s.Threads.take k) (b:=[(⟨s.Threads[k].Routine,s.Threads[k].Pc,s.Threads[k].State,s.Threads[k].Cond,s.Threads[k].Lock,s.Threads[k].Stack⟩ : Qa2)]) (by simp only [List.length_take,List.length_cons,List.length_nil];omega)]
   have:=Xgu (g:=g) h n (k+1) hk (by omega)
   rw [List.take_add_one,List.getElem?_eq_getElem hk] at this
   exact this
  ·have:k=s.Threads.length:=by omega
   subst this
   simp only [PS,Nat.lt_irrefl,List.take_length]
theorem Qxa {s:Qa3} (h:SC s) : Qgt s=some s:=by
 have h0:=h.1;have h1:=h.2.1;have h2:=h.2.2.1
 rw [Qgt,Qmf,Qdm (a:=[]) (b:=s.Cells) (by simp;omega),Qdm (a:=[]) (b:=s.Owner) (by simp;omega)]
 simp only [Option.bind_some,List.nil_append]
 exact Xgu h FU 0 (by omega) (Qeg (by omega))
theorem Xgm {s g:Qa3} (h:SC s) : ∀ (n k:Nat),k≤s.Threads.length→s.Threads.length<n+k→Qek s.Threads n g (s.Threads.take k) s.Cells s.Owner s.Fault k=some s
 | 0,k,h1,h2=>by omega
 | n+1,k,h1,h2=>by
  rw [Qek]
  have h0:=h.1
  by_cases hk:k<s.Threads.length
  ·have hs:=h.2.2.2 _ (List.getElem_mem hk)
   have e1:Xe2 (s.Threads.take k) (k:Int)=some ():=by unfold Xe2;rw [if_pos (by simp;omega)]
   have e2:nx1 (k:Int)=some ():=by unfold nx1;rw [if_pos (by rw [Qff (k:=k) (by omega)];omega)]
   simp only [PS,hk,Qdn hk,Qff (k:=k) (by omega),Qdm (a:=[]) (b:=s.Threads[k].Stack) (by simp;omega),List.nil_append,e1,e2]
   have:=Xgm (g:=g) h n (k+1) hk (by omega)
   rw [List.take_add_one,List.getElem?_eq_getElem hk] at this
   exact this
  ·have:k=s.Threads.length:=by omega
   subst this
   have e:Xht s.Threads (s.Threads.length:Int)=some ():=by unfold Xht;rw [if_pos (Int.le_refl _)]
   simp only [PS,Nat.lt_irrefl,e,List.take_length]
theorem Xkp {s:Qa3} (h:SC s) : Qh8 s=some s:=by
 have h0:=h.1;have h1:=h.2.1;have h2:=h.2.2.1
 rw [Qh8,cl_f (by omega),cl_i (by omega),cl_t (by omega)]
 simp only [Option.bind_some]
 exact Xgm h FU 0 (by omega) (Qeg (by omega))
def Qbe (c:Int) : Int×Int:=if c=1∨c=2∨c=14 then (0,1) else if c=3∨c=11∨c=15 then (1,0) else if 4≤c∧c≤9 then (2,1) else (0,0)
theorem Qpn {c:Int} (h : 1≤c∧c≤17) : c=1∨c=2∨c=3∨c=4∨c=5∨c=6∨c=7∨c=8∨c=9∨c=10∨c=11∨c=12∨c=13∨c=14∨c=15∨c=16∨c=17:=by omega
theorem Qpb {o:GOp} (h : 1≤o.Code∧o.Code≤17) : Qik o=some (Qbe o.Code):=by
 rcases Qpn h with hc | hc | hc | hc | hc | hc | hc | hc | hc | hc | hc | hc | hc | hc | hc | hc | hc <;>
  simp [Qik,Qgd,Qgc,Qd5,hc,Qbe]
theorem Qta {c:Int} (h : 1≤c∧c≤17) : Qfr c=some (Qbe c):=by
 rcases Qpn h with hc | hc | hc | hc | hc | hc | hc | hc | hc | hc | hc | hc | hc | hc | hc | hc | hc <;>
  simp [Qfr,Qes,Qev,hc,Qbe,Qgk,inr]
theorem Qrh (c:Int) : 0≤(Qbe c).1∧(Qbe c).1≤2∧0≤(Qbe c).2∧(Qbe c).2≤1:=by
 unfold Qbe;split
 ·simp
 ·split
  ·simp
  ·split <;> simp
theorem Qty {p:Qa9} {long:Int} {o:GOp} (h:Qmi p long o=true) : (1≤o.Code∧o.Code≤17)∧((o.Code=2∨o.Code=3)→0≤o.A∧o.A≤p.Cells - 1)∧((o.Code=12∨o.Code=13)→0≤o.A∧o.A≤p.Locks - 1)∧(o.Code=16→0≤o.B∧o.B≤p.Locks - 1):=by
 unfold Qmi at h
 by_cases h1:o.Code=1
 ·exact ⟨by omega,by omega,by omega,by omega⟩
 rw [if_neg h1] at h
 by_cases h2:o.Code=2∨o.Code=3
 ·rw [if_pos h2] at h
  simp only [Bool.and_eq_true] at h
  have:=Qcm.1 h.2.1
  exact ⟨by omega,fun _=>this,by omega,by omega⟩
 rw [if_neg h2] at h
 by_cases h3:o.Code=10∨o.Code=11
 ·exact ⟨by omega,by omega,by omega,by omega⟩
 rw [if_neg h3] at h
 by_cases h4:o.Code=12∨o.Code=13
 ·rw [if_pos h4] at h
  simp only [Bool.and_eq_true] at h
  have:=Qcm.1 h.2.1
  exact ⟨by omega,by omega,fun _=>this,by omega⟩
 rw [if_neg h4] at h
 by_cases h5:o.Code=14
 ·exact ⟨by omega,by omega,by omega,by omega⟩
 rw [if_neg h5] at h
 by_cases h6:o.Code=16
 ·rw [if_pos h6] at h
  simp only [Bool.and_eq_true] at h
  have:=Qcm.1 h.2.2
  exact ⟨by omega,by omega,by omega,fun _=>this⟩
 rw [if_neg h6] at h
 by_cases h7:o.Code=17
 ·exact ⟨by omega,by omega,by omega,by omega⟩
 rw [if_neg h7] at h
 simp only [Bool.and_eq_true] at h
 have:=Qcm.1 h.2.1.1
 exact ⟨this,by omega,by omega,by omega⟩
theorem Xb2 {p:Qa9} {s:Qa3} {k:Nat} {o:GOp} {long:Int} (hk:k<s.Threads.length) (h:TG p s s.Threads[k]) (ho:Qmi p long o=true) : ∃ f:Int,Qir s k o=some f∧Qe9 s k o=some f∧0≤f∧f≤4∧(f=0→(Qbe o.Code).1≤s.Threads[k].Stack.length∧(s.Threads[k].Stack.length:Int) - (Qbe o.Code).1+(Qbe o.Code).2≤8∧(o.Code=15→∃ r:Int×Bool,Qcq s s.Threads[k]=some r∧Qcv s s.Threads[k]=some r.1∧r.2=true)):=by
 obtain ⟨hc,hA,hL,hB⟩:=Qty ho
 have hsk:=h.sk
 obtain ⟨t0,t1,t2,t3⟩:=Qrh o.Code
 have w:w64 (w64 ((s.Threads[k].Stack.length:Int) - (Qbe o.Code).1)+(Qbe o.Code).2)=(s.Threads[k].Stack.length:Int) - (Qbe o.Code).1+(Qbe o.Code).2:=by
  rw [Qdl (n:=(s.Threads[k].Stack.length:Int) - (Qbe o.Code).1) (by omega),Qdl (by omega)]
 rw [Qir,Qe9,Qdn hk]
 simp only [Option.bind_some,Qpb hc,Qta hc,w]
 by_cases h1:(s.Threads[k].Stack.length:Int)<(Qbe o.Code).1
 ·exact ⟨1,by simp [h1],by simp [h1],by omega,by omega,by omega⟩
 by_cases h2:(s.Threads[k].Stack.length:Int) - (Qbe o.Code).1+(Qbe o.Code).2 > 8
 ·exact ⟨1,by simp [h1,h2],by simp [h1,h2],by omega,by omega,by omega⟩
 have d1:decide ((s.Threads[k].Stack.length:Int)<(Qbe o.Code).1)=false:=by simp;omega
 have d2:decide ((s.Threads[k].Stack.length:Int) - (Qbe o.Code).1+(Qbe o.Code).2 > 8)=false:=by simp;omega
 simp only [d1,d2,Bool.false_eq_true,if_false]
 have base:(Qbe o.Code).1≤s.Threads[k].Stack.length∧(s.Threads[k].Stack.length:Int) - (Qbe o.Code).1+(Qbe o.Code).2≤8:=⟨by omega,by omega⟩
 rw [Qhk,Qfo]
 by_cases c13:o.Code=13
 ·obtain ⟨v,hv,v1,v2⟩:=Qrb h (hL (.inr c13)).1 (hL (.inr c13)).2
  by_cases e:v=(k:Int)
  ·subst e
   exact ⟨0,by simp [c13,hv,Qfg,Qcc,Qdf],by simp [c13,hv],by omega,by omega,fun _=>⟨base.1,base.2,by omega⟩⟩
  ·exact ⟨2,by simp [c13,hv,e,Qhj,Qcc],by simp [c13,hv,e],by omega,by omega,by omega⟩
 have d13:(o.Code == 13)=false:=by simp [c13]
 simp only [d13,Bool.false_eq_true,if_false]
 rw [Qfg]
 by_cases c16:o.Code=16
 ·obtain ⟨v,hv,v1,v2⟩:=Qrb h (hB c16).1 (hB c16).2
  by_cases e:v=(k:Int)
  ·subst e
   exact ⟨0,by simp [c16,hv,Qcc,Qdf],by simp [c16,hv],by omega,by omega,fun _=>⟨base.1,base.2,by omega⟩⟩
  ·exact ⟨2,by simp [c16,hv,e,Qcc],by simp [c16,hv,e],by omega,by omega,by omega⟩
 have d16:(o.Code == 16)=false:=by simp [c16]
 simp only [d16,Bool.false_eq_true,if_false]
 rw [Qcc]
 by_cases c15:o.Code=15
 ·obtain ⟨r,j1,j2,j3⟩:=Qnf h
  cases hr:r.2
  ·rw [hr] at j2
   exact ⟨3,by simp [c15,j2],by simp [c15,j1,hr],by omega,by omega,by omega⟩
  ·rw [hr] at j2
   have:=j3 hr
   have dr:decide (r.1<0)=false:=by simp;omega
   refine ⟨0,?_,by simp [c15,j1,hr],by omega,by omega,fun _=>⟨base.1,base.2,fun _=>⟨r,j1,by simpa using j2,hr⟩⟩⟩
   simp only [Bool.false_eq_true,if_false,c15,beq_self_eq_true,if_true,j2,Option.bind_some,dr]
   rw [Qdf];simp [c15]
 have d15:(o.Code == 15)=false:=by simp [c15]
 simp only [d15,Bool.false_eq_true,if_false]
 rw [Qdf]
 by_cases c14:o.Code=14
 ·by_cases e:s.Threads.length=5
  ·exact ⟨4,by simp [c14,e],by simp [c14,e],by omega,by omega,by omega⟩
  ·have e':((s.Threads.length:Int) == 5)=false:=by rw [beq_eq_false_iff_ne];omega
   exact ⟨0,by simp [c14,e'],by simp [c14,e'],by omega,by omega,fun _=>⟨base.1,base.2,by omega⟩⟩
 ·exact ⟨0,by simp [c14],by simp [c14],by omega,by omega,fun _=>⟨base.1,base.2,by omega⟩⟩
end Go.Proofs.Ytdmmaanagmacjaa
