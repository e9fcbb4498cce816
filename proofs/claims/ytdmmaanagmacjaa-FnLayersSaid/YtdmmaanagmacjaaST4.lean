/- Plain facts for FnLayers; no condition. -/

import Derived.Test.YtdmmaanagmacjaaHC
set_option linter.unusedVariables false
set_option linter.unusedSimpArgs false
namespace Go.Proofs.Ytdmmaanagmacjaa
open Go Go.T
theorem Xkd {l:List Nat} {i:Int} {v:Nat} (h:rd l i=some v) : v∈l:=by
 unfold rd at h
 split at h
 ·exact List.mem_of_getElem? h
 ·cases h
theorem Xk2 {p:Qa9} {s:Qa3} (h:RG p s) (h4:s.Threads.length≠5) {t:Qa2} (ht:TH p t) : RG p ⟨s.Threads++[t],s.Cells,s.Owner,s.Fault⟩:=by
 have h1:=h.n1
 have h5:=h.n5
 refine ⟨h.bp,h.ops,h.pv,by simp,by simp;omega,h.own,fun x hx=>?_,h.cl,h.cf,fun u hu=>?_⟩
 ·have:=h.ow x hx
  simp;omega
 ·rcases List.mem_append.1 hu with hu | hu
  ·exact h.th u hu
  ·simp at hu;subst hu;exact ht
theorem do_rg {p:Qa9} {s:Qa3} {k:Nat} {o:GOp} {rr:List GOp} (hk:k<s.Threads.length) (hR:RG p s) (hst:s.Threads[k].State=1) (hrr:rr∈p.Routines) (hor:rr=(p.Routines[s.Threads[k].Routine.toNat]?).getD []) (hoo:o∈rr) (hpc:s.Threads[k].Pc+1≤(rr.length:Int)) (h14:o.Code=14→s.Threads.length≠5)
  (h1:(Qbe o.Code).1≤s.Threads[k].Stack.length) (h2:(s.Threads[k].Stack.length:Int) - (Qbe o.Code).1+(Qbe o.Code).2≤8) (h15:o.Code=15→∃ r:Int×Bool,Qcq s s.Threads[k]=some r∧Qcv s s.Threads[k]=some r.1∧r.2=true) :
  ∃ q:Qa3×Qa5,Qi2 s.Threads s.Cells s.Owner s.Fault k o ⟨k,0,-1,-1,s.Threads[k].Pc⟩=some q∧Qar s k o ⟨k,1,-1,-1,s.Threads[k].Pc⟩=some (q.2,q.1)∧RG p q.1:=by
 have ho:=(hR.ops rr hrr).2 o hoo
 have hov:=hR.pv rr hrr o hoo
 have h24:=(hR.ops rr hrr).1
 have h:=hR.tg _ (List.getElem_mem hk)
 have hth:=hR.th _ (List.getElem_mem hk)
 have hall : ∀ t∈s.Threads,t.Stack.length≤8:=fun t ht=>(hR.th t ht).sk
 have hcl:=hR.cl
 obtain ⟨hc,hA,hL,hB⟩:=Qty ho
 obtain ⟨hJ,hS⟩:=Xan ho
 have hsk:=h.sk
 have hpc0:=hth.pc
 rw [← hor] at hpc0
 have hP1 : 0≤w64 (s.Threads[k].Pc+1)∧w64 (s.Threads[k].Pc+1)≤(((p.Routines[s.Threads[k].Routine.toNat]?).getD []).length:Int):=by
  rw [← hor,Qdl (by omega)];omega
 have hlk:s.Threads[k].State=3∨s.Threads[k].State=4→0≤s.Threads[k].Lock∧s.Threads[k].Lock≤p.Locks - 1:=fun e=>by omega
 have hsame : ∀ {S:List Nat},S.length≤8→(∀ x∈S,x<18446744073709551616)→TH p ⟨s.Threads[k].Routine,w64 (s.Threads[k].Pc+1),s.Threads[k].State,s.Threads[k].Cond,s.Threads[k].Lock,S⟩:=fun a b=>Qxb hth hP1 hth.st hlk a b
 have hn5:=h.n5
 have hfl:=h.fl
 obtain ⟨t0,t1,t2,t3⟩:=Qrh o.Code
 have hts:=Qta hc
 have hti:=Qpb hc
 have htk:Qbe o.Code=Qbe o.Code:=rfl
 obtain ⟨m,hm⟩ : ∃ m:Nat,(s.Threads[k].Stack.length:Int) - (Qbe o.Code).1=(m:Int):=⟨((s.Threads[k].Stack.length:Int) - (Qbe o.Code).1).toNat,by omega⟩
 have hml:m≤s.Threads[k].Stack.length:=by omega
 have w:w64 ((s.Threads[k].Stack.length:Int) - (Qbe o.Code).1)=(m:Int):=by rw [hm,Qdl (by omega)]
 have f1:rd s.Threads (k:Int)=some s.Threads[k]:=Qdn hk
 have f2:slc s.Threads[k].Stack (m:Int) (s.Threads[k].Stack.length:Int)=some (s.Threads[k].Stack.drop m):=Xfl hml
 have f3:slc s.Threads[k].Stack 0 (m:Int)=some (s.Threads[k].Stack.take m):=Xfi hml
 have f4:app [] (s.Threads[k].Stack.drop m)=some (s.Threads[k].Stack.drop m):=by rw [Qdm (by simp;omega)];simp
 have f5:Qbk (s.Threads[k].Stack.drop m)=some (s.Threads[k].Stack.drop m):=cl_f (by simp;omega)
 have fa : ∀ v:Nat,app (s.Threads[k].Stack.take m) [v]=some (s.Threads[k].Stack.take m++[v]):=fun v=>Qdm (by simp;omega)
 have ltm:(s.Threads[k].Stack.take m).length≤8:=by simp;omega
 obtain ⟨jr,j1,j2,j3⟩:=Qnf h
 have ex:s.Threads.set k ⟨s.Threads[k].Routine,s.Threads[k].Pc,s.Threads[k].State,s.Threads[k].Cond,s.Threads[k].Lock,s.Threads[k].Stack⟩=s.Threads:=Xfx hk
 have f6:Qcv ⟨s.Threads,s.Cells,s.Owner,s.Fault⟩ ⟨s.Threads[k].Routine,s.Threads[k].Pc,s.Threads[k].State,s.Threads[k].Cond,s.Threads[k].Lock,s.Threads[k].Stack⟩=some (if jr.2=true then jr.1 else -1):=j2
 have specA:o.Code≠17→Qi2 s.Threads s.Cells s.Owner s.Fault k o ⟨k,0,-1,-1,s.Threads[k].Pc⟩=Qbb s.Threads s.Cells s.Owner s.Fault k o ⟨k,0,-1,-1,s.Threads[k].Pc⟩:=fun hne=>by
  rw [Qi2,if_neg (by simp [hne])]
 have top0:(Qbe o.Code).1=1→∃ v,rd (s.Threads[k].Stack.drop m) 0=some v∧v<18446744073709551616∧rd s.Threads[k].Stack (w64 ((s.Threads[k].Stack.length:Int) - 1))=some v∧((s.Threads[k].Stack.length:Int) == 0)=false:=fun e=>by
  have hlt:m<s.Threads[k].Stack.length:=by omega
  refine ⟨s.Threads[k].Stack[m],?_,hfl _ (List.getElem_mem hlt),?_,?_⟩
  ·rw [List.drop_eq_getElem_cons hlt];rfl
  ·have:w64 ((s.Threads[k].Stack.length:Int) - 1)=(m:Int):=by rw [e] at w;exact w
   rw [this,Qdn hlt]
  ·rw [beq_eq_false_iff_ne];omega
 have cell:(o.Code=2∨o.Code=3)→∃ v,rd s.Cells o.A=some v:=fun e=>by
  obtain ⟨a0,a1⟩:=hA e
  have:o.A.toNat<s.Cells.length:=by omega
  exact ⟨s.Cells[o.A.toNat],Qyu a0 (List.getElem?_eq_getElem this)⟩
 have lockA:(o.Code=12∨o.Code=13)→∃ v,rd s.Owner o.A=some v:=fun e=>by
  obtain ⟨v,hv,_⟩:=Qrb h (hL e).1 (hL e).2
  exact ⟨v,hv⟩
 rcases Qpn hc with hc1 | hc1 | hc1 | hc1 | hc1 | hc1 | hc1 | hc1 | hc1 | hc1 | hc1 | hc1 | hc1 | hc1 | hc1 | hc1 | hc1
 ·refine ⟨(⟨s.Threads.set k ⟨s.Threads[k].Routine,w64 (s.Threads[k].Pc+1),s.Threads[k].State,s.Threads[k].Cond,s.Threads[k].Lock,s.Threads[k].Stack.take m++[o.V]⟩,s.Cells,s.Owner,s.Fault⟩,⟨k,1,-1,-1,s.Threads[k].Pc⟩),?_,?_,Qg4 hR (hsame (by have e3:(Qbe o.Code).2=1:=(by rw [hc1];decide);simp;omega) (Qkj hfl hov)) rfl hR.cf rfl hR.ow⟩
  ·rw [specA (by omega),Qbb]
   simp only [f1,Option.bind_some,hts,w,f2,f4,f3,Int.toNat_natCast,ex,f6,fa]
   simp [hc1]
  ·rw [Qar]
   simp only [f1,Option.bind_some,hti,w,f2,f5,f3,Int.toNat_natCast,fa]
   simp [hc1]
 ·skip
  obtain ⟨v,hv⟩:=cell (.inl hc1)
  refine ⟨(⟨s.Threads.set k ⟨s.Threads[k].Routine,w64 (s.Threads[k].Pc+1),s.Threads[k].State,s.Threads[k].Cond,s.Threads[k].Lock,s.Threads[k].Stack.take m++[v]⟩,s.Cells,s.Owner,s.Fault⟩,⟨k,2,o.A,-1,s.Threads[k].Pc⟩),?_,?_,Qg4 hR (hsame (by have e3:(Qbe o.Code).2=1:=(by rw [hc1];decide);simp;omega) (Qkj hfl (hR.cf _ (Xkd hv)))) rfl hR.cf rfl hR.ow⟩
  ·rw [specA (by omega),Qbb]
   simp only [f1,Option.bind_some,hts,w,f2,f4,f3,Int.toNat_natCast,ex,f6,fa]
   simp [hc1,hv,fa]
  ·rw [Qar]
   simp only [f1,Option.bind_some,hti,w,f2,f5,f3,Int.toNat_natCast,fa]
   simp [hc1,hv,fa]
 ·skip
  obtain ⟨v,hv,hv2,hv3,hv4⟩:=top0 (by rw [hc1];decide)
  obtain ⟨v2,hc2⟩:=cell (.inr hc1)
  refine ⟨(⟨s.Threads.set k ⟨s.Threads[k].Routine,w64 (s.Threads[k].Pc+1),s.Threads[k].State,s.Threads[k].Cond,s.Threads[k].Lock,s.Threads[k].Stack.take m⟩,s.Cells.set o.A.toNat v,s.Owner,s.Fault⟩,⟨k,3,o.A,-1,s.Threads[k].Pc⟩),?_,?_,Qg4 hR (hsame (by simp;omega) (Qlm hfl)) (by simp) (Qyo hR.cf hv2) rfl hR.ow⟩
  ·rw [specA (by omega),Qbb]
   simp only [f1,Option.bind_some,hts,w,f2,f4,f3,Int.toNat_natCast,ex,f6,fa]
   simp [hc1,hv,hc2]
  ·rw [Qar]
   simp only [f1,Option.bind_some,hti,w,f2,f5,f3,Int.toNat_natCast,fa]
   simp [hc1,hv,hc2]
 ·skip
  have e2:(Qbe o.Code).1=2:=by rw [hc1];decide
  have lt1:m<s.Threads[k].Stack.length:=by omega
  have lt2:m+1<s.Threads[k].Stack.length:=by omega
  have r0:rd (s.Threads[k].Stack.drop m) 0=some s.Threads[k].Stack[m]:=by rw [List.drop_eq_getElem_cons lt1];rfl
  have r1:rd (s.Threads[k].Stack.drop m) 1=some s.Threads[k].Stack[m+1]:=by rw [List.drop_eq_getElem_cons lt1,List.drop_eq_getElem_cons lt2];rfl
  obtain ⟨z,z1,z2⟩:=Qh9 (c:=4) (hfl _ (List.getElem_mem lt1)) (hfl _ (List.getElem_mem lt2))
  refine ⟨(⟨s.Threads.set k ⟨s.Threads[k].Routine,w64 (s.Threads[k].Pc+1),s.Threads[k].State,s.Threads[k].Cond,s.Threads[k].Lock,s.Threads[k].Stack.take m++[z]⟩,s.Cells,s.Owner,s.Fault⟩,⟨k,1,-1,-1,s.Threads[k].Pc⟩),?_,?_,Qg4 hR (hsame (by have e3:(Qbe o.Code).2=1:=(by rw [hc1];decide);simp;omega) (Qkj hfl (Qk1 z1))) rfl hR.cf rfl hR.ow⟩
  ·rw [specA (by omega),Qbb]
   simp only [f1,Option.bind_some,hts,w,f2,f4,f3,Int.toNat_natCast,ex,f6,fa]
   simp [hc1,r0,r1,z1,fa]
  ·rw [Qar]
   simp only [f1,Option.bind_some,hti,w,f2,f5,f3,Int.toNat_natCast,fa]
   simp [hc1,r0,r1,z2,fa]
 ·skip
  have e2:(Qbe o.Code).1=2:=by rw [hc1];decide
  have lt1:m<s.Threads[k].Stack.length:=by omega
  have lt2:m+1<s.Threads[k].Stack.length:=by omega
  have r0:rd (s.Threads[k].Stack.drop m) 0=some s.Threads[k].Stack[m]:=by rw [List.drop_eq_getElem_cons lt1];rfl
  have r1:rd (s.Threads[k].Stack.drop m) 1=some s.Threads[k].Stack[m+1]:=by rw [List.drop_eq_getElem_cons lt1,List.drop_eq_getElem_cons lt2];rfl
  obtain ⟨z,z1,z2⟩:=Qh9 (c:=5) (hfl _ (List.getElem_mem lt1)) (hfl _ (List.getElem_mem lt2))
  refine ⟨(⟨s.Threads.set k ⟨s.Threads[k].Routine,w64 (s.Threads[k].Pc+1),s.Threads[k].State,s.Threads[k].Cond,s.Threads[k].Lock,s.Threads[k].Stack.take m++[z]⟩,s.Cells,s.Owner,s.Fault⟩,⟨k,1,-1,-1,s.Threads[k].Pc⟩),?_,?_,Qg4 hR (hsame (by have e3:(Qbe o.Code).2=1:=(by rw [hc1];decide);simp;omega) (Qkj hfl (Qk1 z1))) rfl hR.cf rfl hR.ow⟩
  ·rw [specA (by omega),Qbb]
   simp only [f1,Option.bind_some,hts,w,f2,f4,f3,Int.toNat_natCast,ex,f6,fa]
   simp [hc1,r0,r1,z1,fa]
  ·rw [Qar]
   simp only [f1,Option.bind_some,hti,w,f2,f5,f3,Int.toNat_natCast,fa]
   simp [hc1,r0,r1,z2,fa]
 ·skip
  have e2:(Qbe o.Code).1=2:=by rw [hc1];decide
  have lt1:m<s.Threads[k].Stack.length:=by omega
  have lt2:m+1<s.Threads[k].Stack.length:=by omega
  have r0:rd (s.Threads[k].Stack.drop m) 0=some s.Threads[k].Stack[m]:=by rw [List.drop_eq_getElem_cons lt1];rfl
  have r1:rd (s.Threads[k].Stack.drop m) 1=some s.Threads[k].Stack[m+1]:=by rw [List.drop_eq_getElem_cons lt1,List.drop_eq_getElem_cons lt2];rfl
  obtain ⟨z,z1,z2⟩:=Qh9 (c:=6) (hfl _ (List.getElem_mem lt1)) (hfl _ (List.getElem_mem lt2))
  refine ⟨(⟨s.Threads.set k ⟨s.Threads[k].Routine,w64 (s.Threads[k].Pc+1),s.Threads[k].State,s.Threads[k].Cond,s.Threads[k].Lock,s.Threads[k].Stack.take m++[z]⟩,s.Cells,s.Owner,s.Fault⟩,⟨k,1,-1,-1,s.Threads[k].Pc⟩),?_,?_,Qg4 hR (hsame (by have e3:(Qbe o.Code).2=1:=(by rw [hc1];decide);simp;omega) (Qkj hfl (Qk1 z1))) rfl hR.cf rfl hR.ow⟩
  ·rw [specA (by omega),Qbb]
   simp only [f1,Option.bind_some,hts,w,f2,f4,f3,Int.toNat_natCast,ex,f6,fa]
   simp [hc1,r0,r1,z1,fa]
  ·rw [Qar]
   simp only [f1,Option.bind_some,hti,w,f2,f5,f3,Int.toNat_natCast,fa]
   simp [hc1,r0,r1,z2,fa]
 ·skip
  have e2:(Qbe o.Code).1=2:=by rw [hc1];decide
  have lt1:m<s.Threads[k].Stack.length:=by omega
  have lt2:m+1<s.Threads[k].Stack.length:=by omega
  have r0:rd (s.Threads[k].Stack.drop m) 0=some s.Threads[k].Stack[m]:=by rw [List.drop_eq_getElem_cons lt1];rfl
  have r1:rd (s.Threads[k].Stack.drop m) 1=some s.Threads[k].Stack[m+1]:=by rw [List.drop_eq_getElem_cons lt1,List.drop_eq_getElem_cons lt2];rfl
  obtain ⟨z,z1,z2⟩:=Qh9 (c:=7) (hfl _ (List.getElem_mem lt1)) (hfl _ (List.getElem_mem lt2))
  refine ⟨(⟨s.Threads.set k ⟨s.Threads[k].Routine,w64 (s.Threads[k].Pc+1),s.Threads[k].State,s.Threads[k].Cond,s.Threads[k].Lock,s.Threads[k].Stack.take m++[z]⟩,s.Cells,s.Owner,s.Fault⟩,⟨k,1,-1,-1,s.Threads[k].Pc⟩),?_,?_,Qg4 hR (hsame (by have e3:(Qbe o.Code).2=1:=(by rw [hc1];decide);simp;omega) (Qkj hfl (Qk1 z1))) rfl hR.cf rfl hR.ow⟩
  ·rw [specA (by omega),Qbb]
   simp only [f1,Option.bind_some,hts,w,f2,f4,f3,Int.toNat_natCast,ex,f6,fa]
   simp [hc1,r0,r1,z1,fa]
  ·rw [Qar]
   simp only [f1,Option.bind_some,hti,w,f2,f5,f3,Int.toNat_natCast,fa]
   simp [hc1,r0,r1,z2,fa]
 ·skip
  have e2:(Qbe o.Code).1=2:=by rw [hc1];decide
  have lt1:m<s.Threads[k].Stack.length:=by omega
  have lt2:m+1<s.Threads[k].Stack.length:=by omega
  have r0:rd (s.Threads[k].Stack.drop m) 0=some s.Threads[k].Stack[m]:=by rw [List.drop_eq_getElem_cons lt1];rfl
  have r1:rd (s.Threads[k].Stack.drop m) 1=some s.Threads[k].Stack[m+1]:=by rw [List.drop_eq_getElem_cons lt1,List.drop_eq_getElem_cons lt2];rfl
  obtain ⟨z,z1,z2⟩:=Qh9 (c:=8) (hfl _ (List.getElem_mem lt1)) (hfl _ (List.getElem_mem lt2))
  refine ⟨(⟨s.Threads.set k ⟨s.Threads[k].Routine,w64 (s.Threads[k].Pc+1),s.Threads[k].State,s.Threads[k].Cond,s.Threads[k].Lock,s.Threads[k].Stack.take m++[z]⟩,s.Cells,s.Owner,s.Fault⟩,⟨k,1,-1,-1,s.Threads[k].Pc⟩),?_,?_,Qg4 hR (hsame (by have e3:(Qbe o.Code).2=1:=(by rw [hc1];decide);simp;omega) (Qkj hfl (Qk1 z1))) rfl hR.cf rfl hR.ow⟩
  ·rw [specA (by omega),Qbb]
   simp only [f1,Option.bind_some,hts,w,f2,f4,f3,Int.toNat_natCast,ex,f6,fa]
   simp [hc1,r0,r1,z1,fa]
  ·rw [Qar]
   simp only [f1,Option.bind_some,hti,w,f2,f5,f3,Int.toNat_natCast,fa]
   simp [hc1,r0,r1,z2,fa]
 ·skip
  have e2:(Qbe o.Code).1=2:=by rw [hc1];decide
  have lt1:m<s.Threads[k].Stack.length:=by omega
  have lt2:m+1<s.Threads[k].Stack.length:=by omega
  have r0:rd (s.Threads[k].Stack.drop m) 0=some s.Threads[k].Stack[m]:=by rw [List.drop_eq_getElem_cons lt1];rfl
  have r1:rd (s.Threads[k].Stack.drop m) 1=some s.Threads[k].Stack[m+1]:=by rw [List.drop_eq_getElem_cons lt1,List.drop_eq_getElem_cons lt2];rfl
  obtain ⟨z,z1,z2⟩:=Qh9 (c:=9) (hfl _ (List.getElem_mem lt1)) (hfl _ (List.getElem_mem lt2))
  refine ⟨(⟨s.Threads.set k ⟨s.Threads[k].Routine,w64 (s.Threads[k].Pc+1),s.Threads[k].State,s.Threads[k].Cond,s.Threads[k].Lock,s.Threads[k].Stack.take m++[z]⟩,s.Cells,s.Owner,s.Fault⟩,⟨k,1,-1,-1,s.Threads[k].Pc⟩),?_,?_,Qg4 hR (hsame (by have e3:(Qbe o.Code).2=1:=(by rw [hc1];decide);simp;omega) (Qkj hfl (Qk1 z1))) rfl hR.cf rfl hR.ow⟩
  ·rw [specA (by omega),Qbb]
   simp only [f1,Option.bind_some,hts,w,f2,f4,f3,Int.toNat_natCast,ex,f6,fa]
   simp [hc1,r0,r1,z1,fa]
  ·rw [Qar]
   simp only [f1,Option.bind_some,hti,w,f2,f5,f3,Int.toNat_natCast,fa]
   simp [hc1,r0,r1,z2,fa]
 ·skip
  refine ⟨(⟨s.Threads.set k ⟨s.Threads[k].Routine,o.A,s.Threads[k].State,s.Threads[k].Cond,s.Threads[k].Lock,s.Threads[k].Stack.take m⟩,s.Cells,s.Owner,s.Fault⟩,⟨k,1,-1,-1,s.Threads[k].Pc⟩),?_,?_,Qg4 hR (Qxb hth (by rw [← hor];exact hJ (.inl hc1)) hth.st hlk (by simp;omega) (Qlm hfl)) rfl hR.cf rfl hR.ow⟩
  ·rw [specA (by omega),Qbb]
   simp only [f1,Option.bind_some,hts,w,f2,f4,f3,Int.toNat_natCast,ex,f6,fa]
   simp [hc1]
  ·rw [Qar]
   simp only [f1,Option.bind_some,hti,w,f2,f5,f3,Int.toNat_natCast,fa]
   simp [hc1]
 ·skip
  obtain ⟨v,hv,hv2,hv3,hv4⟩:=top0 (by rw [hc1];decide)
  have hno:=Xi9 hv2
  have hnan:=Qu1 v
  refine ⟨(⟨s.Threads.set k ⟨s.Threads[k].Routine,if ((Qd9 v v != some .eq) || (Qd9 v 0 == some .eq))=true then o.A else w64 (s.Threads[k].Pc+1),s.Threads[k].State,s.Threads[k].Cond,s.Threads[k].Lock,s.Threads[k].Stack.take m⟩,s.Cells,s.Owner,s.Fault⟩,⟨k,1,-1,-1,s.Threads[k].Pc⟩),?_,?_,Qg4 hR (Qxb hth (by split; (rw [← hor];exact hJ (.inr hc1));exact hP1) hth.st hlk (by simp;omega) (Qlm hfl)) rfl hR.cf rfl hR.ow⟩
  ·rw [specA (by omega),Qbb]
   simp only [f1,Option.bind_some,hts,w,f2,f4,f3,Int.toNat_natCast,ex,f6,fa]
   cases hn:(Qd9 v v != some .eq) <;> by_cases hz:Qd9 v 0=some .eq <;> rw [hn] at hnan <;> simp [hc1,hv,hnan,hz]
  ·rw [Qar]
   simp only [f1,Option.bind_some,hti,w,f2,f5,f3,Int.toNat_natCast,fa]
   cases hn:(Qd9 v v != some .eq) <;> by_cases hz:Qd9 v 0=some .eq <;> simp [hn,hz] at hno <;> simp [hc1,hv,hno,hz]
 ·skip
  obtain ⟨v,hv⟩:=lockA (.inl hc1)
  refine ⟨(⟨s.Threads.set k ⟨s.Threads[k].Routine,w64 (s.Threads[k].Pc+1),s.Threads[k].State,s.Threads[k].Cond,s.Threads[k].Lock,s.Threads[k].Stack.take m⟩,s.Cells,s.Owner.set o.A.toNat (k:Int),s.Fault⟩,⟨k,4,o.A,-1,s.Threads[k].Pc⟩),?_,?_,Qg4 hR (hsame (by simp;omega) (Qlm hfl)) rfl hR.cf (by simp) (Qj6 hR.ow ⟨by omega,by omega⟩)⟩
  ·rw [specA (by omega),Qbb]
   simp only [f1,Option.bind_some,hts,w,f2,f4,f3,Int.toNat_natCast,ex,f6,fa]
   simp [hc1,hv]
  ·rw [Qar]
   simp only [f1,Option.bind_some,hti,w,f2,f5,f3,Int.toNat_natCast,fa]
   simp [hc1,hv]
 ·skip
  obtain ⟨v,hv⟩:=lockA (.inr hc1)
  refine ⟨(⟨s.Threads.set k ⟨s.Threads[k].Routine,w64 (s.Threads[k].Pc+1),s.Threads[k].State,s.Threads[k].Cond,s.Threads[k].Lock,s.Threads[k].Stack.take m⟩,s.Cells,s.Owner.set o.A.toNat (-1),s.Fault⟩,⟨k,5,o.A,-1,s.Threads[k].Pc⟩),?_,?_,Qg4 hR (hsame (by simp;omega) (Qlm hfl)) rfl hR.cf (by simp) (Qj6 hR.ow ⟨by omega,by omega⟩)⟩
  ·rw [specA (by omega),Qbb]
   simp only [f1,Option.bind_some,hts,w,f2,f4,f3,Int.toNat_natCast,ex,f6,fa]
   simp [hc1,hv]
  ·rw [Qar]
   simp only [f1,Option.bind_some,hti,w,f2,f5,f3,Int.toNat_natCast,fa]
   simp [hc1,hv]
 ·skip
  have ap1 : ∀ t:Qa2,app s.Threads [t]=some (s.Threads++[t]):=fun t=>Qdm (by simp;omega)
  have ap2 : ∀ t u:Qa2,app (s.Threads.set k t) [u]=some (s.Threads.set k t++[u]):=fun t u=>Qdm (by simp;omega)
  have hsa : ∀ t u:Qa2,(s.Threads++[u]).set k t=s.Threads.set k t++[u]:=fun t u=>List.set_append_left _ _ hk
  have hra : ∀ u:Qa2,rd (s.Threads++[u]) (k:Int)=some s.Threads[k]:=fun u=>by rw [Qmw,List.getElem?_append_left hk,List.getElem?_eq_getElem hk]
  refine ⟨(⟨s.Threads.set k ⟨s.Threads[k].Routine,w64 (s.Threads[k].Pc+1),s.Threads[k].State,s.Threads[k].Cond,s.Threads[k].Lock,s.Threads[k].Stack.take m++[fOf (s.Threads.length:Int)]⟩++[⟨o.A,0,1,-1,-1,[]⟩],s.Cells,s.Owner,s.Fault⟩,⟨k,6,(s.Threads.length:Int),-1,s.Threads[k].Pc⟩),?_,?_,Xk2 (s:=⟨s.Threads.set k ⟨s.Threads[k].Routine,w64 (s.Threads[k].Pc+1),s.Threads[k].State,s.Threads[k].Cond,s.Threads[k].Lock,s.Threads[k].Stack.take m++[fOf (s.Threads.length:Int)]⟩,s.Cells,s.Owner,s.Fault⟩) (Qg4 hR (hsame (by have e3:(Qbe o.Code).2=1:=(by rw [hc1];decide);simp;omega) (Qkj hfl (Xkw h.n5))) rfl hR.cf rfl hR.ow) (by simpa using h14 hc1) ⟨hS hc1,by simp,by simp,by simp,by simp,by simp⟩⟩
  ·rw [specA (by omega),Qbb]
   simp only [f1,Option.bind_some,hts,w,f2,f4,f3,Int.toNat_natCast,ex,f6,fa]
   simp [hc1,Qe1,ap1,hra,hsa]
  ·rw [Qar]
   simp only [f1,Option.bind_some,hti,w,f2,f5,f3,Int.toNat_natCast,fa]
   simp [hc1,Qhl,ap2]
 ·skip
  obtain ⟨v,hv,hv2,hv3,hv4⟩:=top0 (by rw [hc1];decide)
  obtain ⟨r,q1,q2,q3⟩:=h15 hc1
  have hjr:(if jr.2=true then jr.1 else -1)=r.1:=by rw [j2] at q2;exact Option.some.inj q2
  have htx : ∃ r':Int×Bool,Qgs v (s.Threads.length:Int)=some r'∧r'.1=r.1:=by
   rw [Qcq,hv4,hv3] at q1
   simp only [Bool.false_eq_true,if_false,Option.bind_some] at q1
   cases hx:Qgs v (s.Threads.length:Int) with
   | none=>rw [hx] at q1;cases q1
   | some r' =>
    rw [hx] at q1
    simp only [Option.bind_some,Option.some.injEq] at q1
    exact ⟨r',rfl,by rw [← q1]⟩
  obtain ⟨r',x1,x2⟩:=htx
  refine ⟨(⟨s.Threads.set k ⟨s.Threads[k].Routine,w64 (s.Threads[k].Pc+1),s.Threads[k].State,s.Threads[k].Cond,s.Threads[k].Lock,s.Threads[k].Stack.take m⟩,s.Cells,s.Owner,s.Fault⟩,⟨k,7,r.1,-1,s.Threads[k].Pc⟩),?_,?_,Qg4 hR (hsame (by simp;omega) (Qlm hfl)) rfl hR.cf rfl hR.ow⟩
  ·rw [specA (by omega),Qbb]
   simp only [f1,Option.bind_some,hts,w,f2,f4,f3,Int.toNat_natCast,ex,f6,fa,hjr]
   simp [hc1]
  ·rw [Qar]
   simp only [f1,Option.bind_some,hti,w,f2,f5,f3,Int.toNat_natCast,fa]
   simp [hc1,hv,x1,x2]
 ·skip
  obtain ⟨v,hv,_⟩:=Qrb h (hB hc1).1 (hB hc1).2
  refine ⟨(⟨s.Threads.set k ⟨s.Threads[k].Routine,w64 (w64 (s.Threads[k].Pc+1) - 1),3,o.A,o.B,s.Threads[k].Stack.take m⟩,s.Cells,s.Owner.set o.B.toNat (-1),s.Fault⟩,⟨k,8,o.A,o.B,s.Threads[k].Pc⟩),?_,?_,Qg4 hR (Qxb hth (by rw [← hor,Qdl (n:=s.Threads[k].Pc+1) (by omega),Qdl (by omega)];omega) (by omega) (fun _=>hB hc1) (by simp;omega) (Qlm hfl)) rfl hR.cf (by simp) (Qj6 hR.ow ⟨by omega,by omega⟩)⟩
  ·rw [specA (by omega),Qbb]
   simp only [f1,Option.bind_some,hts,w,f2,f4,f3,Int.toNat_natCast,ex,f6,fa]
   simp [hc1,hv]
  ·rw [Qar]
   simp only [f1,Option.bind_some,hti,w,f2,f5,f3,Int.toNat_natCast,fa]
   simp [hc1,hv]
 ·skip
  have e0:(Qbe o.Code).1=0:=by rw [hc1];decide
  have em:m=s.Threads[k].Stack.length:=by omega
  have hil:Qwe s.Threads[k].Stack (m:Int)=some ():=by unfold Qwe;rw [if_pos (by omega)]
  have htk:s.Threads[k].Stack.take m=s.Threads[k].Stack:=by rw [em,List.take_length]
  have hst3:s.Threads[k].State≠3:=by omega
  have hT' : ∀ t:Qa2,t.State=1→∀ j (hj:j<(s.Threads.set k t).length),slp o.A (s.Threads.set k t)[j]=slp o.A (s.Threads[j]'(by simpa using hj)):=by
   intro t ht j hj
   rw [List.getElem_set]
   by_cases e:k=j
   ·subst e;simp [slp,ht,hst]
   ·simp [e]
  have sp:=Xa8 (C:=s.Cells) (O:=s.Owner) (F:=s.Fault) hk (by omega) hst3 (o:=o) (ev:=⟨k,10,o.A,-1,s.Threads[k].Pc⟩) (ev0:=⟨0,0,0,0,0⟩) (g0:=⟨[],[],[],0⟩) (R:=s.Threads[k].Routine) (Pc:=w64 (s.Threads[k].Pc+1)) (St:=s.Threads[k].State) (Co:=s.Threads[k].Cond) (Lo:=s.Threads[k].Lock) (stk:=s.Threads[k].Stack) FU 0 (by omega) (Qeg (by omega))
  have im:=Xbu (T:=s.Threads.set k ⟨s.Threads[k].Routine,w64 (s.Threads[k].Pc+1),s.Threads[k].State,s.Threads[k].Cond,s.Threads[k].Lock,s.Threads[k].Stack⟩) (o:=o) (by simp;omega) FU 0 (by omega) (Qeg (by simp;omega))
  have specB:Qi2 s.Threads s.Cells s.Owner s.Fault k o ⟨k,0,-1,-1,s.Threads[k].Pc⟩=Qbr s.Threads s.Cells s.Owner k s.Threads[k] FU s.Threads s.Threads[k].Stack s.Cells s.Owner s.Fault o ⟨k,10,o.A,-1,s.Threads[k].Pc⟩ ⟨[],[],[],0⟩ ⟨0,0,0,0,0⟩ s.Threads[k].Routine (w64 (s.Threads[k].Pc+1)) s.Threads[k].State s.Threads[k].Cond s.Threads[k].Lock 0:=by
   rw [Qi2,if_pos (by simp [hc1]),Qkl]
   simp only [f1,Option.bind_some,hts,w,f2,f4,Int.toNat_natCast,ex,f6,hil]
   simp [hc1]
  rw [specB]
  rw [show ((0:Nat) : Int)=0 from rfl] at sp im
  rcases im with ⟨i1,i2⟩ | ⟨j,hj,_,i1,i2,i3⟩
  ·refine ⟨_,sp.2 (fun j hj _=>by have:=i2 j (by simpa using hj) (by omega);rwa [hT' ⟨s.Threads[k].Routine,w64 (s.Threads[k].Pc+1),s.Threads[k].State,s.Threads[k].Cond,s.Threads[k].Lock,s.Threads[k].Stack⟩ hst] at this),?_,Qg4 hR (hsame (by omega) hfl) rfl hR.cf rfl hR.ow⟩
   rw [Qar]
   simp only [f1,Option.bind_some,hti,w,f2,f5,f3,Int.toNat_natCast,htk]
   simp [hc1,Qb9,i1]
  ·have hj':j<s.Threads.length:=by simpa using hj
   rw [hT' ⟨s.Threads[k].Routine,w64 (s.Threads[k].Pc+1),s.Threads[k].State,s.Threads[k].Cond,s.Threads[k].Lock,s.Threads[k].Stack⟩ hst] at i2
   have hne:k≠j:=by intro e;subst e;simp [slp,hst] at i2
   have hg:(s.Threads.set k ⟨s.Threads[k].Routine,w64 (s.Threads[k].Pc+1),s.Threads[k].State,s.Threads[k].Cond,s.Threads[k].Lock,s.Threads[k].Stack⟩)[j]=s.Threads[j]:=by rw [List.getElem_set,if_neg hne]
   have hrj:rd (s.Threads.set k ⟨s.Threads[k].Routine,w64 (s.Threads[k].Pc+1),s.Threads[k].State,s.Threads[k].Cond,s.Threads[k].Lock,s.Threads[k].Stack⟩) (j:Int)=some s.Threads[j]:=by rw [Qdn hj,hg]
   refine ⟨_,sp.1 j hj' (by omega) i2 (fun q hq a b=>by have:=i3 q (by simpa using hq) (by omega) b;rwa [hT' ⟨s.Threads[k].Routine,w64 (s.Threads[k].Pc+1),s.Threads[k].State,s.Threads[k].Cond,s.Threads[k].Lock,s.Threads[k].Stack⟩ hst] at this),?_,?_⟩
   ·rw [Qar]
    simp only [f1,Option.bind_some,hti,w,f2,f5,f3,Int.toNat_natCast,htk]
    simp [hc1,Qb9,i1,hrj]
    exact List.set_comm _ _ hne
   ·have h3:s.Threads[j].State=3:=by unfold slp at i2;simp at i2;exact i2.1
    have hthj:=hR.th _ (List.getElem_mem hj')
    have hR2:RG p ⟨s.Threads.set j ⟨s.Threads[j].Routine,s.Threads[j].Pc,4,s.Threads[j].Cond,s.Threads[j].Lock,s.Threads[j].Stack⟩,s.Cells,s.Owner,s.Fault⟩:=Qg4 hR (Qxb hthj hthj.pc (by omega) (fun _=>hthj.lk (.inl h3)) hthj.sk hthj.fl) rfl hR.cf rfl hR.ow
    exact Qg4 hR2 (hsame (by omega) hfl) rfl hR.cf rfl (by simpa using hR.ow)
end Go.Proofs.Ytdmmaanagmacjaa
