/- Plain facts for FnLayers; no condition. -/

import Derived.Test.YtdmmaanagmacjaaA1
set_option linter.unusedVariables false
namespace Go.Proofs.Ytdmmaanagmacjaa
open Go Go.T
def DV (d:List Int) (N:Nat) : Prop:=d.length=N∧∀ i,i<N→∃ c:Nat,d[i]? = some (c:Int)∧c≤i
theorem Xis (x y:Nat) : Qix (x:Int) (y:Int)=some ((max x y:Nat) : Int):=by
 unfold Qix
 by_cases h:(x:Int) > (y:Int)
 ·simp only [h,decide_true,if_true];congr 1;omega
 ·simp only [h,decide_false,Bool.false_eq_true,if_false];congr 1;omega
theorem Xc8 (x y:Nat) : imax (x:Int) (y:Int)=((max x y:Nat) : Int):=by
 unfold imax;split <;> omega
theorem Xb1 {d:List Int} {i c:Nat} (h:d[i]? = some (c:Int)) : rd d (i:Int)=some (c:Int):=by rw [Qmw,h]
theorem Xgh {d:List Int} {N j c:Nat} (h:DV d N) (hj:j<N) (hc:c≤j) : DV (d.set j (c:Int)) N:=by
 refine ⟨by simp [h.1],fun i hi=>?_⟩
 by_cases e:i=j
 ·subst e;exact ⟨c,by simp [h.1,hi],hc⟩
 ·obtain ⟨x,h1,h2⟩:=h.2 i hi
  exact ⟨x,by rw [List.getElem?_set_ne (by omega)];exact h1,h2⟩
theorem Xcj {p:List Qa5} {a:List (Vector Int 4)} {v:Vector Int 4} {j:Nat} {o:List (List Int)} {KS:List (List Bool)→List Int→List (List Int)→Int→Option (List (List Int)×Bool)} {KI:List (List Int)→List Int→List (Vector Int 4)→Int→Option (List (List Int)×Bool)}
  (hl:p.length≤200) (hj:j<p.length) (hv:VR v (Qf8 p j)) : ∀ (n m i:Nat) (d:List Int),i+m=j→m<n→DV d p.length →
  ∃ d',DV d' p.length∧Qc1 KS p j n (tbl (fun i=>tbl (Qf8 p i) p.length) p.length) d o i=Qch KS p j FU (tbl (fun i=>tbl (Qf8 p i) p.length) p.length) d' o ∧
   Qba KI a j n o d v a i=Qbf KI a j FU o d' a
 | 0,m,i,d,h1,h2,hd=>by omega
 | n+1,0,i,d,h1,h2,hd=>by
  have:i=j:=by omega
  subst this
  refine ⟨d,hd,?_,?_⟩
  ·rw [Qc1];simp
  ·rw [Qba];simp
 | n+1,m+1,i,d,h1,h2,hd=>by
  have hi:i<j:=by omega
  have c1:decide ((i:Int)<(j:Int))=true:=by simp;omega
  have r1:rd (tbl (fun i=>tbl (Qf8 p i) p.length) p.length) (j:Int)=some (tbl (Qf8 p j) p.length):=Qrw hj
  have r2:rd (tbl (Qf8 p j) p.length) (i:Int)=some (Qf8 p j i):=Qrw (by omega)
  have r3:=Xdp hv (k:=i) (by omega)
  have w1:w64 ((i:Int)+1)=((i+1:Nat) : Int):=Qff (by omega)
  rw [Qc1,Qba]
  simp only [c1,if_true,r1,r2,r3,Option.bind_some,w1]
  cases hb:Qf8 p j i
  ·simp only [Bool.false_eq_true,if_false]
   exact Xcj hl hj hv n m (i+1) d (by omega) (by omega) hd
  ·obtain ⟨x,x1,x2⟩:=hd.2 j hj
   obtain ⟨y,y1,y2⟩:=hd.2 i (by omega)
   have w2:w64 ((y:Int)+1)=((y+1:Nat) : Int):=Qff (by omega)
   simp only [if_true,Xb1 x1,Xb1 y1,Option.bind_some,w2,Xis,Xc8,Int.toNat_natCast]
   exact Xcj hl hj hv n m (i+1) _ (by omega) (by omega) (Xgh hd hj (by omega))
def OV (o:List (List Int)) (j:Nat) : Prop:=o.length≤200∧∀ r∈o,r.length≤j
theorem Xh5 {p:List Qa5} {a:List (Vector Int 4)} {A:List (List Bool)} {j c:Nat} {d:List Int} {KS:List (List Bool)→List Int→List (List Int)→Int→Option (List (List Int)×Bool)} {KI:List (List Int)→List Int→List (Vector Int 4)→Int→Option (List (List Int)×Bool)}
  (hj:j<200) (hd:d[j]? = some (c:Int)) (hc:c≤j) : ∀ (n m:Nat) (o:List (List Int)),c+1≤o.length+m→m<n→OV o j →
  ∃ o',OV o' (j+1)∧Qch KS p j n A d o=KS A d o' ((j+1:Nat) : Int)∧Qbf KI a j n o d a=KI o' d a ((j+1:Nat) : Int)
 | 0,m,o,h1,h2,ho=>by omega
 | n+1,m,o,h1,h2,ho=>by
  rw [Qch,Qbf]
  simp only [Xb1 hd,Option.bind_some]
  by_cases hlt:o.length≤c
  ·have c1:decide ((o.length:Int)≤(c:Int))=true:=by simp;omega
   have ha:app o [[]]=some (o++[[]]):=Qdm (by have:=ho.1;simp;omega)
   simp only [c1,if_true,ha,Option.bind_some]
   refine Xh5 hj hd hc n (m - 1) (o++[[]]) (by simp;omega) (by omega) ⟨by simp;omega,fun r hr=>?_⟩
   rcases List.mem_append.1 hr with h | h
   ·exact ho.2 r h
   ·have:r=[]:=by simpa using h
    subst this;simp
  ·have hco:c<o.length:=by omega
   have c1:decide ((o.length:Int)≤(c:Int))=false:=by simp;omega
   have hr:=ho.2 o[c] (List.getElem_mem hco)
   have ha:app o[c] [(j:Int)]=some (o[c]++[(j:Int)]):=Qdm (by simp;omega)
   simp only [c1,Bool.false_eq_true,if_false,Qdn hco,ha,Option.bind_some,Qff (show j<4611686018427387904 by omega),Int.toNat_natCast]
   refine ⟨_,⟨by simpa using ho.1,fun r hr'=>?_⟩,rfl,rfl⟩
   rcases List.mem_or_eq_of_mem_set hr' with h | h
   ·have:=ho.2 r h;omega
   ·subst h;simp;omega
theorem Xgw {p:List Qa5} {a:List (Vector Int 4)} (hl:p.length≤200) (hal:a.length=p.length) (ha : ∀ i,i<p.length→∃ v,a[i]? = some v∧VR v (Qf8 p i)) : ∀ (n m j:Nat) (d:List Int) (o:List (List Int)),j+m=p.length→m<n→DV d p.length→OV o j →
  ∃ r:List (List Int)×Bool,Qbq p n (tbl (fun i=>tbl (Qf8 p i) p.length) p.length) d o j=some r∧Qb3 a n o d a j=some r∧OV r.1 200
 | 0,m,j,d,o,h1,h2,hd,ho=>by omega
 | n+1,0,j,d,o,h1,h2,hd,ho=>by
  have:j=p.length:=by omega
  subst this
  refine ⟨(o,true),?_,?_,⟨ho.1,fun r hr=>by have:=ho.2 r hr;omega⟩⟩
  ·rw [Qbq];simp
  ·rw [Qb3];simp [hal]
 | n+1,m+1,j,d,o,h1,h2,hd,ho=>by
  have hj:j<p.length:=by omega
  obtain ⟨v,hv1,hv2⟩:=ha j hj
  obtain ⟨d',hd',e1,e2⟩:=Xcj (a:=a) (o:=o) (KS:=Qbq p n) (KI:=Qb3 a n) hl hj hv2 FU j 0 d (by omega) (Qeg (by omega)) hd
  obtain ⟨c,hc1,hc2⟩:=hd'.2 j hj
  obtain ⟨o',ho',e3,e4⟩:=Xh5 (p:=p) (a:=a) (A:=tbl (fun i=>tbl (Qf8 p i) p.length) p.length) (KS:=Qbq p n) (KI:=Qb3 a n) (by omega) hc1 hc2 FU (c+1) o (by omega) (Qeg (by omega)) ho
  obtain ⟨r,q1,q2,q3⟩:=Xgw hl hal ha n m (j+1) d' o' (by omega) (by omega) hd' ho'
  rw [show ((0:Nat) : Int)=0 from rfl] at e1 e2
  refine ⟨r,?_,?_,q3⟩
  ·rw [Qbq,show decide ((j:Int)<(p.length:Int))=true by simp;omega]
   simp only [if_true]
   rw [e1,e3,q1]
  ·have hr:rd a (j:Int)=some v:=by rw [Qmw,hv1]
   rw [Qb3,show decide ((j:Int)<(a.length:Int))=true by simp;omega]
   simp only [if_true,hr,Option.bind_some]
   rw [e2,e4,q2]
end Go.Proofs.Ytdmmaanagmacjaa
