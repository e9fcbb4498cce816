/- Plain facts for FnLayers; no condition. -/

import Derived.Test.YtdmmaanagmacjaaST2
import Derived.Laws.FloatBits
set_option linter.unusedVariables false
set_option linter.unusedSimpArgs false
namespace Go.Proofs.Ytdmmaanagmacjaa
open Go Go.T
theorem Xl2 : 2 ^ FloatKind.f64.format.width=18446744073709551616:=by decide +kernel
theorem Xgc:Xig<18446744073709551616:=by decide +kernel
theorem Xdk (x y:Nat) : fad x y<18446744073709551616:=by
 unfold fad
 cases h:FloatKind.f64.format.add x y with
 | none=>exact Xgc
 | some r=>have:=Ieee.Format.add_lt _ h;rw [Xl2] at this;exact this
theorem Xkh (x y:Nat) : fsb x y<18446744073709551616:=by
 unfold fsb
 cases h:FloatKind.f64.format.sub x y with
 | none=>exact Xgc
 | some r=>have:=Ieee.Format.sub_lt _ h;rw [Xl2] at this;exact this
theorem Xgn (x y:Nat) : fml x y<18446744073709551616:=by
 unfold fml
 cases h:FloatKind.f64.format.mul x y with
 | none=>exact Xgc
 | some r=>have:=Ieee.Format.mul_lt _ h;rw [Xl2] at this;exact this
theorem Qx2 (x y:Nat) : fdv x y<18446744073709551616:=by
 unfold fdv
 cases h:FloatKind.f64.format.div x y with
 | none=>exact Xgc
 | some r=>have:=Ieee.Format.div_lt _ h;rw [Xl2] at this;exact this
theorem Qk1 {c:Int} {x y z:Nat} (h:Qec c x y=some z) : z<18446744073709551616:=by
 have j0 : ∀ {b:Bool} {z:Nat},Qck b=some z→z<18446744073709551616:=by
  intro b z h
  unfold Qck at h
  cases b <;> simp at h <;> omega
 unfold Qec at h
 split at h
 ·cases h;exact Xdk _ _
 split at h
 ·cases h;exact Xkh _ _
 split at h
 ·cases h;exact Xgn _ _
 split at h
 ·cases h;exact Qx2 _ _
 split at h
 ·exact j0 h
 ·cases hr:Qcr x y with
  | none=>rw [hr] at h;cases h
  | some b=>rw [hr] at h;exact j0 h
theorem Xkw {n:Nat} (h:n≤5) : fOf (n:Int)<18446744073709551616:=by
 have:n=0∨n=1∨n=2∨n=3∨n=4∨n=5:=by omega
 rcases this with rfl | rfl | rfl | rfl | rfl | rfl <;> decide +kernel
structure TH (p:Qa9) (t:Qa2) : Prop where
 rt : 0≤t.Routine∧t.Routine≤(p.Routines.length:Int) - 1
 pc : 0≤t.Pc∧t.Pc≤(((p.Routines[t.Routine.toNat]?).getD []).length:Int)
 st : 1≤t.State∧t.State≤4
 sk:t.Stack.length≤8
 lk:t.State=3∨t.State=4→0≤t.Lock∧t.Lock≤p.Locks - 1
 fl : ∀ x∈t.Stack,x<18446744073709551616
structure RG (p:Qa9) (s:Qa3) : Prop where
 bp:PB4 p
 ops : ∀ r∈p.Routines,r.length≤24∧∀ o∈r,Qmi p r.length o=true
 pv : ∀ r∈p.Routines,∀ o∈r,o.V<18446744073709551616
 n1 : 1≤s.Threads.length
 n5:s.Threads.length≤5
 own:(s.Owner.length:Int)=p.Locks
 ow : ∀ x∈s.Owner,-1≤x∧x≤(s.Threads.length:Int) - 1
 cl:(s.Cells.length:Int)=p.Cells
 cf : ∀ x∈s.Cells,x<18446744073709551616
 th : ∀ t∈s.Threads,TH p t
theorem RG.tg {p:Qa9} {s:Qa3} (h:RG p s) : ∀ t∈s.Threads,TG p s t:=fun t ht=>by
 have k:=h.th t ht
 exact ⟨h.bp,h.ops,h.n1,h.n5,h.own,h.ow,k.rt,k.pc,k.st,k.sk,fun e=>k.lk (.inr e),k.fl⟩
theorem RG.sc {p:Qa9} {s:Qa3} (h:RG p s) : SC s:=by
 have h1:=h.n5;have h2:=h.own;have h3:=h.cl;have h4:=h.bp
 obtain ⟨⟨_,c⟩,⟨_,l⟩,_⟩:=h4
 exact ⟨by omega,by omega,by omega,fun t ht=>by have:=(h.th t ht).sk;omega⟩
theorem Qg4 {p:Qa9} {s:Qa3} (h:RG p s) {k:Nat} {t:Qa2} {C:List Nat} {O:List Int} {F:Int} (ht:TH p t) (hC:C.length=s.Cells.length) (hCf : ∀ x∈C,x<18446744073709551616) (hO:O.length=s.Owner.length) (hOr : ∀ x∈O,-1≤x∧x≤(s.Threads.length:Int) - 1) : RG p ⟨s.Threads.set k t,C,O,F⟩:=by
 refine ⟨h.bp,h.ops,h.pv,by simpa using h.n1,by simpa using h.n5,?_,fun x hx=>?_,?_,hCf,fun u hu=>?_⟩
 ·show (O.length:Int)=p.Locks
  rw [hO];exact h.own
 ·have:=hOr x hx
  simpa using this
 ·show (C.length:Int)=p.Cells
  rw [hC];exact h.cl
 ·rcases List.mem_or_eq_of_mem_set hu with hu | rfl
  ·exact h.th u hu
  ·exact ht
theorem Qyo {C:List Nat} {i:Nat} {v:Nat} (h : ∀ x∈C,x<18446744073709551616) (hv:v<18446744073709551616) : ∀ x∈C.set i v,x<18446744073709551616:=by
 intro x hx
 rcases List.mem_or_eq_of_mem_set hx with hx | rfl
 ·exact h x hx
 ·exact hv
theorem Qj6 {O:List Int} {i:Nat} {v n:Int} (h : ∀ x∈O,-1≤x∧x≤n) (hv : -1≤v∧v≤n) : ∀ x∈O.set i v,-1≤x∧x≤n:=by
 intro x hx
 rcases List.mem_or_eq_of_mem_set hx with hx | rfl
 ·exact h x hx
 ·exact hv
theorem Qlm {S:List Nat} {m:Nat} (h : ∀ x∈S,x<18446744073709551616) : ∀ x∈S.take m,x<18446744073709551616:=fun x hx=>h x (List.mem_of_mem_take hx)
theorem Qkj {S:List Nat} {m:Nat} {v:Nat} (h : ∀ x∈S,x<18446744073709551616) (hv:v<18446744073709551616) : ∀ x∈S.take m++[v],x<18446744073709551616:=by
 intro x hx
 rcases List.mem_append.1 hx with hx | hx
 ·exact Qlm h x hx
 ·simp at hx;subst hx;exact hv
theorem Qxb {p:Qa9} {t:Qa2} (h:TH p t) {pc st co lo:Int} {S:List Nat} (hpc : 0≤pc∧pc≤(((p.Routines[t.Routine.toNat]?).getD []).length:Int)) (hst : 1≤st∧st≤4) (hlo:st=3∨st=4→0≤lo∧lo≤p.Locks - 1) (hS:S.length≤8) (hf : ∀ x∈S,x<18446744073709551616) : TH p ⟨t.Routine,pc,st,co,lo,S⟩:=⟨h.rt,hpc,hst,hS,hlo,hf⟩
theorem Xc9 {p:Qa9} {s:Qa3} {t:Qa2} (h:TG p s t) : (Qed p t=some (GOp.mk 0 0 0 0,false)∧Qda p t=some (GOp.mk 0 0 0 0,false)) ∨
  ∃ o r,r∈p.Routines∧o∈r∧r=(p.Routines[t.Routine.toNat]?).getD []∧t.Pc+1≤(r.length:Int)∧Qed p t=some (o,true)∧Qda p t=some (o,true):=by
 have hr:t.Routine.toNat<p.Routines.length:=by have:=h.rt;have:=h.bp;omega
 have hx:rd p.Routines t.Routine=some (p.Routines[t.Routine.toNat]):=Qyu h.rt.1 (List.getElem?_eq_getElem hr)
 have hpc:=h.pc
 rw [List.getElem?_eq_getElem hr,Option.getD_some] at hpc
 have hmem:=List.getElem_mem hr
 have hg:(p.Routines[t.Routine.toNat]?).getD []=p.Routines[t.Routine.toNat]:=by rw [List.getElem?_eq_getElem hr,Option.getD_some]
 rw [hg]
 generalize p.Routines[t.Routine.toNat]=r at *
 rw [Qed,Qda,hx]
 simp only [Option.bind_some]
 by_cases he:t.Pc=(r.length:Int)
 ·left
  have h2:decide (t.Pc<(r.length:Int))=false:=by simp;omega
  simp [he]
 ·right
  have h1:(t.Pc == (r.length:Int))=false:=by simp [he]
  have h2:decide (t.Pc<(r.length:Int))=true:=by simp;omega
  have hk:t.Pc.toNat<r.length:=by omega
  have ho:rd r t.Pc=some (r[t.Pc.toNat]):=Qyu hpc.1 (List.getElem?_eq_getElem hk)
  exact ⟨r[t.Pc.toNat],r,hmem,List.getElem_mem hk,rfl,by omega,by simp [h1,ho],by simp [h2,ho]⟩
theorem Xja {s:Qa3} {k:Nat} {o:GOp} (hk:k<s.Threads.length) (hc:o.Code=14) (h:Qe9 s k o=some 0) : s.Threads.length≠5:=by
 intro e
 have hti:=Qpb (o:=o) (by omega)
 rw [Qe9,Qdn hk] at h
 simp only [Option.bind_some,hti] at h
 rw [Qfo] at h
 split at h
 ·cases h
 split at h
 ·cases h
 ·simp [hc,e] at h
theorem Xan {p:Qa9} {long:Int} {o:GOp} (h:Qmi p long o=true) : ((o.Code=10∨o.Code=11)→0≤o.A∧o.A≤long)∧(o.Code=14→0≤o.A∧o.A≤(p.Routines.length:Int) - 1):=by
 unfold Qmi at h
 refine ⟨fun hc=>?_,fun hc=>?_⟩
 ·have e1 : ¬ o.Code=1:=by omega
  have e2 : ¬ (o.Code=2∨o.Code=3):=by omega
  rw [if_neg e1,if_neg e2,if_pos hc] at h
  simp only [Bool.and_eq_true] at h
  exact Qcm.1 h.2.1
 ·have e1 : ¬ o.Code=1:=by omega
  have e2 : ¬ (o.Code=2∨o.Code=3):=by omega
  have e3 : ¬ (o.Code=10∨o.Code=11):=by omega
  have e4 : ¬ (o.Code=12∨o.Code=13):=by omega
  rw [if_neg e1,if_neg e2,if_neg e3,if_neg e4,if_pos hc] at h
  simp only [Bool.and_eq_true] at h
  exact Qcm.1 h.2.1
end Go.Proofs.Ytdmmaanagmacjaa
