/- Plain facts for FnLayers; no condition. -/

import Derived.Test.YtdmmaanagmacjaaLYa
set_option linter.unusedVariables false
set_option linter.unusedSimpArgs false
namespace Go.Proofs.Ytdmmaanagmacjaa
open Go Go.T
theorem Xkm {p:List Int} (hp:p.length<1000000) : ∀ (n k:Nat),k≤p.length→p.length<n+k→Qd2 p p n k=some true
 | 0,k,h1,h2=>by omega
 | n+1,k,h1,h2=>by
  rw [Qd2]
  by_cases hk:k<p.length
  ·have d:decide ((k:Int)<(p.length:Int))=true:=decide_eq_true (by omega)
   simp only [d,if_true,Qdn hk,Option.bind_some,bne_self_eq_false,Bool.false_eq_true,if_false,Qff (show k<4611686018427387904 by omega)]
   exact Xkm hp n (k+1) (by omega) (by omega)
  ·have d:decide ((k:Int)<(p.length:Int))=false:=decide_eq_false (by omega)
   simp only [d,Bool.false_eq_true,if_false]
theorem Xi4 {p:List Int} (hp:p.length<1000000) : Qgu p p=some true:=by
 unfold Qgu
 simp only [bne_self_eq_false,Bool.false_eq_true,if_false]
 exact Xkm hp FU 0 (by omega) (by have:=Qeg (n:=p.length) (by omega);omega)
theorem Xkf {p:List (List Int)} (hp:p.length<1000000) (hq : ∀ r∈p,r.length<1000000) : ∀ (n k:Nat),k≤p.length→p.length<n+k→Qcp p p n k=some true
 | 0,k,h1,h2=>by omega
 | n+1,k,h1,h2=>by
  rw [Qcp]
  by_cases hk:k<p.length
  ·have d:decide ((k:Int)<(p.length:Int))=true:=decide_eq_true (by omega)
   simp only [d,if_true,Qdn hk,Option.bind_some,Xi4 (hq _ (List.getElem_mem hk)),Bool.not_true,Bool.false_eq_true,if_false,Qff (show k<4611686018427387904 by omega)]
   exact Xkf hp hq n (k+1) (by omega) (by omega)
  ·have d:decide ((k:Int)<(p.length:Int))=false:=decide_eq_false (by omega)
   simp only [d,Bool.false_eq_true,if_false]
theorem Xe4 {p:List (List Int)} (hp:p.length<1000000) (hq : ∀ r∈p,r.length<1000000) : Qgb p p=some true:=by
 unfold Qgb
 simp only [bne_self_eq_false,Bool.false_eq_true,if_false]
 exact Xkf hp hq FU 0 (by omega) (by have:=Qeg (n:=p.length) (by omega);omega)
def PD (p:List Qa5) (d:List Int) (j i:Nat) : Prop:=∃ c:Nat,d[j]? = some (c:Int)∧(∀ x,x<i→Qf8 p j x=true→∃ y:Nat,d[x]? = some (y:Int)∧y+1≤c)∧(c=0∨∃ x y:Nat,x<i∧Qf8 p j x=true∧d[x]? = some (y:Int)∧c=y+1)
theorem Xjm {p:List Qa5} {d:List Int} {j k:Nat} {v:Int} (h:PD p d k k) (hk:k<j) : PD p (d.set j v) k k:=by
 obtain ⟨c,h1,h2,h3⟩:=h
 refine ⟨c,by rw [List.getElem?_set_ne (by omega)];exact h1,fun x hx ha=>?_,?_⟩
 ·obtain ⟨y,y1,y2⟩:=h2 x hx ha
  exact ⟨y,by rw [List.getElem?_set_ne (by omega)];exact y1,y2⟩
 ·rcases h3 with h | ⟨x,y,x1,x2,x3,x4⟩
  ·exact .inl h
  ·exact .inr ⟨x,y,x1,x2,by rw [List.getElem?_set_ne (by omega)];exact x3,x4⟩
theorem lay1 {p:List Qa5} {a:List (Vector Int 4)} {v:Vector Int 4} {j:Nat} {o:List (List Int)} {KI:List (List Int)→List Int→List (Vector Int 4)→Int→Option (List (List Int)×Bool)}
    (hl:p.length≤200) (hj:j<p.length) (hv:VR v (Qf8 p j)) : ∀ (n m i:Nat) (d:List Int),i+m=j→m<n→DV d p.length→(∀ k,k<j→PD p d k k)→PD p d j i →
    ∃ d',DV d' p.length∧(∀ k,k<j+1→PD p d' k k)∧(∀ k,k≠j→d'[k]? = d[k]?)∧Qba KI a j n o d v a i=Qbf KI a j FU o d' a
  | 0,m,i,d,h1,h2,hd,hp,hq=>by omega
  | n+1,0,i,d,h1,h2,hd,hp,hq=>by
    have:i=j:=by omega
    subst this
    refine ⟨d,hd,fun k hk=>?_,fun _ _=>rfl,?_⟩
    · by_cases e:k=i
      · exact e ▸ hq
      · exact hp k (by omega)
    · rw [Qba];simp
  | n+1,m+1,i,d,h1,h2,hd,hp,hq=>by
    have hi:i<j:=by omega
    have c1:decide ((i:Int)<(j:Int))=true:=by simp;omega
    have r3:=Xdp hv (k:=i) (by omega)
    have w1:w64 ((i:Int)+1)=((i+1:Nat) : Int):=Qff (by omega)
    rw [Qba]
    simp only [c1,if_true,r3,Option.bind_some,w1]
    cases hb:Qf8 p j i
    · simp only [Bool.false_eq_true,if_false]
      refine lay1 hl hj hv n m (i+1) d (by omega) (by omega) hd hp ?_
      obtain ⟨c,q1,q2,q3⟩:=hq
      refine ⟨c,q1,fun x hx ha=>?_,?_⟩
      · by_cases e:x=i
        · subst e;rw [hb] at ha;cases ha
        · exact q2 x (by omega) ha
      · rcases q3 with h | ⟨x,y,x1,x2⟩
        · exact .inl h
        · exact .inr ⟨x,y,by omega,x2⟩
    · obtain ⟨x,x1,x2⟩:=hd.2 j hj
      obtain ⟨y,y1,y2⟩:=hd.2 i (by omega)
      have w2:w64 ((y:Int)+1)=((y+1:Nat) : Int):=Qff (by omega)
      simp only [if_true,Xb1 x1,Xb1 y1,Option.bind_some,w2,Xc8,Int.toNat_natCast]
      have hjd:j<d.length:=by rw [hd.1];exact hj
      obtain ⟨d',e1,e2,e3,e4⟩:=lay1 hl hj hv n m (i+1) (d.set j ((max x (y+1) : Nat) : Int)) (KI:=KI) (o:=o) (by omega) (by omega) (Xgh hd hj (by omega)) (fun k hk=>Xjm (hp k hk) hk) (by
        obtain ⟨c,q1,q2,q3⟩:=hq
        have hc:c=x:=by rw [x1] at q1;injection q1 with q1;omega
        subst hc
        refine ⟨max c (y+1),by simp [hjd],fun z hz ha=>?_,?_⟩
        · rw [List.getElem?_set_ne (by omega)]
          by_cases e:z=i
          · subst e;exact ⟨y,y1,by omega⟩
          · obtain ⟨u,u1,u2⟩:=q2 z (by omega) ha
            exact ⟨u,u1,by omega⟩
        · by_cases hm:y+1≤c
          · rcases q3 with h | ⟨z,u,z1,z2,z3,z4⟩
            · omega
            · exact .inr ⟨z,u,by omega,z2,by rw [List.getElem?_set_ne (by omega)];exact z3,by omega⟩
          · exact .inr ⟨i,y,by omega,hb,by rw [List.getElem?_set_ne (by omega)];exact y1,by omega⟩)
      exact ⟨d',e1,e2,fun k hk=>by rw [e3 k hk,List.getElem?_set_ne (by omega)],e4⟩
def OI (o:List (List Int)) (d:List Int) (j:Nat) : Prop:=
 (∀ (c:Nat) (r:List Int),o[c]? = some r→∀ x∈r,∃ k:Nat,k<j∧x=(k:Int)∧d[k]? = some (c:Int)) ∧
 (∀ k c:Nat,k<j→d[k]? = some (c:Int)→∃ r,o[c]? = some r∧(k:Int)∈r)∧(o.map List.length).sum=j
theorem Xg0 {o:List (List Int)} {d d':List Int} {j:Nat} (h:OI o d j) (e : ∀ k,k<j→d'[k]? = d[k]?) : OI o d' j:=
 ⟨fun c r hr x hx=>by obtain ⟨k,h1,h2,h3⟩:=h.1 c r hr x hx;exact ⟨k,h1,h2,by rw [e k h1];exact h3⟩,fun k c hk hd=>h.2.1 k c hk (by rw [← e k hk];exact hd),h.2.2⟩
theorem Xj3 {o:List (List Int)} {c:Nat} {x:Int} (h:c<o.length) : ((o.set c (o[c]++[x])).map List.length).sum=(o.map List.length).sum+1:=by
 induction o generalizing c with
 | nil=>simp at h
 | cons r o ih =>
  cases c with
  | zero=>simp;omega
  | succ c =>
   have:=ih (c:=c) (by simpa using h)
   simp only [List.set_cons_succ,List.getElem_cons_succ,List.map_cons,List.sum_cons]
   omega
theorem lay2 {a:List (Vector Int 4)} {j c:Nat} {d:List Int} {KI:List (List Int)→List Int→List (Vector Int 4)→Int→Option (List (List Int)×Bool)}
  (hj:j<200) (hd:d[j]? = some (c:Int)) (hc:c≤j) : ∀ (n m:Nat) (o:List (List Int)),c+1≤o.length+m→m<n→OV o j→OI o d j →
  ∃ o',OV o' (j+1)∧OI o' d (j+1)∧Qbf KI a j n o d a=KI o' d a ((j+1:Nat) : Int)
 | 0,m,o,h1,h2,ho,hi=>by omega
 | n+1,m,o,h1,h2,ho,hi=>by
  rw [Qbf]
  simp only [Xb1 hd,Option.bind_some]
  by_cases hlt:o.length≤c
  ·have c1:decide ((o.length:Int)≤(c:Int))=true:=by simp;omega
   have ha:app o [[]]=some (o++[[]]):=Qdm (by have:=ho.1;simp;omega)
   simp only [c1,if_true,ha,Option.bind_some]
   refine lay2 hj hd hc n (m - 1) (o++[[]]) (by simp;omega) (by omega) ⟨by simp;omega,fun r hr=>?_⟩ ⟨fun e r hr x hx=>?_,fun k e hk hde=>?_,by simpa using hi.2.2⟩
   ·rcases List.mem_append.1 hr with h | h
    ·exact ho.2 r h
    ·have:r=[]:=by simpa using h
     subst this;simp
   ·by_cases he:e<o.length
    ·rw [List.getElem?_append_left he] at hr
     exact hi.1 e r hr x hx
    ·rw [List.getElem?_append_right (by omega)] at hr
     have:r=[]:=by
      rcases Nat.eq_zero_or_pos (e - o.length) with q | q
      ·rw [q] at hr;simpa using hr.symm
      ·rw [List.getElem?_eq_none (by simp;omega)] at hr;cases hr
     subst this;cases hx
   ·obtain ⟨r,r1,r2⟩:=hi.2.1 k e hk hde
    have he:e<o.length:=(List.getElem?_eq_some_iff.1 r1).1
    exact ⟨r,by rw [List.getElem?_append_left he];exact r1,r2⟩
  ·have hco:c<o.length:=by omega
   have c1:decide ((o.length:Int)≤(c:Int))=false:=by simp;omega
   have hr:=ho.2 o[c] (List.getElem_mem hco)
   have ha:app o[c] [(j:Int)]=some (o[c]++[(j:Int)]):=Qdm (by simp;omega)
   simp only [c1,Bool.false_eq_true,if_false,Qdn hco,ha,Option.bind_some,Qff (show j<4611686018427387904 by omega),Int.toNat_natCast]
   refine ⟨_,⟨by simpa using ho.1,fun r hr'=>?_⟩,⟨fun e r hre x hx=>?_,fun k e hk hde=>?_,?_⟩,rfl⟩
   ·rcases List.mem_or_eq_of_mem_set hr' with h | h
    ·have:=ho.2 r h;omega
    ·subst h;simp;omega
   ·by_cases he:e=c
    ·subst he
     have:r=o[e]++[(j:Int)]:=by simpa [hco] using hre.symm
     subst this
     rcases List.mem_append.1 hx with h | h
     ·obtain ⟨k,k1,k2,k3⟩:=hi.1 e o[e] (List.getElem?_eq_getElem hco) x h
      exact ⟨k,by omega,k2,k3⟩
     ·exact ⟨j,by omega,by simpa using h,hd⟩
    ·rw [List.getElem?_set_ne (by omega)] at hre
     obtain ⟨k,k1,k2,k3⟩:=hi.1 e r hre x hx
     exact ⟨k,by omega,k2,k3⟩
   ·by_cases hkj:k=j
    ·subst hkj
     have:e=c:=by rw [hd] at hde;injection hde with q;omega
     subst this
     exact ⟨o[e]++[(k:Int)],by simp [hco],by simp⟩
    ·obtain ⟨r,r1,r2⟩:=hi.2.1 k e (by omega) hde
     by_cases he:e=c
     ·subst he
      have:r=o[e]:=by rw [List.getElem?_eq_getElem hco] at r1;exact (Option.some.inj r1).symm
      subst this
      exact ⟨o[e]++[(j:Int)],by simp [hco],List.mem_append_left _ r2⟩
     ·exact ⟨r,by rw [List.getElem?_set_ne (by omega)];exact r1,r2⟩
   ·rw [Xj3 hco,hi.2.2]
theorem lay0 {p:List Qa5} {a:List (Vector Int 4)} (hl:p.length≤200) (hal:a.length=p.length) (ha : ∀ i,i<p.length→∃ v,a[i]? = some v∧VR v (Qf8 p i)) : ∀ (n m j:Nat) (d:List Int) (o:List (List Int)),j+m=p.length→m<n→DV d p.length→OV o j→OI o d j→(∀ k,k<j→PD p d k k)→(∀ k,j≤k→k<p.length→d[k]? = some 0) →
  ∃ (r:List (List Int)) (d':List Int),Qb3 a n o d a j=some (r,true)∧OV r 200∧OI r d' p.length∧(∀ k,k<p.length→PD p d' k k)
 | 0,m,j,d,o,h1,h2,hd,ho,hi,hp,hz=>by omega
 | n+1,0,j,d,o,h1,h2,hd,ho,hi,hp,hz=>by
  have:j=p.length:=by omega
  subst this
  refine ⟨o,d,?_,⟨ho.1,fun r hr=>by have:=ho.2 r hr;omega⟩,hi,hp⟩
  rw [Qb3];simp [hal]
 | n+1,m+1,j,d,o,h1,h2,hd,ho,hi,hp,hz=>by
  have hj:j<p.length:=by omega
  obtain ⟨v,hv1,hv2⟩:=ha j hj
  obtain ⟨d',hd',hp',hs',e2⟩:=lay1 (a:=a) (o:=o) (KI:=Qb3 a n) hl hj hv2 FU j 0 d (by omega) (Qeg (by omega)) hd hp ⟨0,hz j (Nat.le_refl _) hj,fun x hx=>by omega,.inl rfl⟩
  obtain ⟨c,hc1,hc2⟩:=hd'.2 j hj
  obtain ⟨o',ho',hi',e4⟩:=lay2 (a:=a) (KI:=Qb3 a n) (by omega) hc1 hc2 FU (c+1) o (by omega) (Qeg (by omega)) ho (Xg0 hi (fun k hk=>hs' k (by omega)))
  obtain ⟨r,d2,q2,q3,q4,q5⟩:=lay0 hl hal ha n m (j+1) d' o' (by omega) (by omega) hd' ho' hi' hp' (fun k hk hk2=>by rw [hs' k (by omega)];exact hz k (by omega) hk2)
  rw [show ((0:Nat) : Int)=0 from rfl] at e2
  refine ⟨r,d2,?_,q3,q4,q5⟩
  have hr:rd a (j:Int)=some v:=by rw [Qmw,hv1]
  rw [Qb3,show decide ((j:Int)<(a.length:Int))=true by simp;omega]
  simp only [if_true,hr,Option.bind_some]
  rw [e2,e4,q2]
theorem Qzn {p:List Qa5} {i j:Nat} (hg:Qsu p=true) (hi:i<p.length) (hj:j<p.length) : Qde p i j=some (Qf8 p j i,true):=by
 have h1:p.all Qjq=true∧p.length≤200:=by simpa [Qsu] using hg
 obtain ⟨a,e1,e2,e3⟩:=Qov h1.2 h1.1
 obtain ⟨v,v1,v2⟩:=e3 j hj
 have hp:p.length<1099511627776:=by omega
 have w:w64 ((p.length:Int) - 1)=(p.length:Int) - 1:=Qdl (by omega)
 have n1:inr (i:Int) 0 ((p.length:Int) - 1)=true:=Qcm.2 ⟨by omega,by omega⟩
 have n2:inr (j:Int) 0 ((p.length:Int) - 1)=true:=Qcm.2 ⟨by omega,by omega⟩
 have hr:rd a (j:Int)=some v:=by rw [Qmw,v1]
 rw [Qde,Qoq hp]
 simp only [hg,Qh2,w,Qpj,n1,n2,e1,hr,Xdp v2 (k:=i) (by omega),Option.bind_some,Bool.not_true,Bool.false_eq_true,if_false]
section
variable {p:List Qa5} {o:List (List Int)} {ok:Bool}
theorem fl2 {K0:Int→Int→Option Bool} {K1:Int→Option Bool} {v14 v15 v18 y:Int} {x17:List Int} (hx:x17.length<1000000) (h : ∀ x∈x17,Qde p x y=some (false,true)) : ∀ (n k:Nat),k≤x17.length→x17.length<n+k →
  Qbd K0 K1 p (o,ok) v14 v15 x17 v18 y n k=Qbd K0 K1 p (o,ok) v14 v15 x17 v18 y 1 (x17.length:Int)
 | 0,k,h1,h2=>by omega
 | n+1,k,h1,h2=>by
  by_cases hk:k<x17.length
  ·have d:decide ((k:Int)<(x17.length:Int))=true:=decide_eq_true (by omega)
   rw [Qbd]
   simp only [d,if_true,Qdn hk,h _ (List.getElem_mem hk),Option.bind_some,Bool.not_true,Bool.false_eq_true,if_false,Qff (show k<4611686018427387904 by omega)]
   exact fl2 hx h n (k+1) (by omega) (by omega)
  ·have:k=x17.length:=by omega
   subst this
   have d:decide ((x17.length:Int)<(x17.length:Int))=false:=decide_eq_false (by omega)
   rw [Qbd,Qbd]
   simp only [d,Bool.false_eq_true,if_false]
theorem fl3 {K0:Int→Int→Option Bool} {K1:Int→Option Bool} {v14 v18 y:Int} {c:Nat} {x17 x36:List Int} {g:Int→Bool} (hx:x36.length<1000000) (hv:c<100000) (r0:rd o (c:Int)=some x36) (r1:rd o ((c+1:Nat) : Int)=some x17) (h : ∀ x∈x36,Qde p x y=some (g x,true)) : ∀ (n k:Nat) (f:Bool),k≤x36.length→x36.length<n+k→(f || (x36.drop k).any g)=true →
  Qc2 K0 K1 p (o,ok) v14 ((c+1:Nat) : Int) x17 v18 y x36 n f k=K1 (w64 (v18+1))
 | 0,k,f,h1,h2,h3=>by omega
 | n+1,k,f,h1,h2,h3=>by
  rw [Qc2]
  by_cases hk:k<x36.length
  ·have d:decide ((k:Int)<(x36.length:Int))=true:=decide_eq_true (by omega)
   rw [List.drop_eq_getElem_cons hk,List.any_cons] at h3
   simp only [d,if_true,Qdn hk,h _ (List.getElem_mem hk),Option.bind_some,Qff (show k<4611686018427387904 by omega)]
   cases f
   ·simp only [Bool.false_eq_true,if_false]
    exact fl3 hx hv r0 r1 h n (k+1) _ (by omega) (by omega) (by simpa using h3)
   ·simp only [if_true]
    exact fl3 hx hv r0 r1 h n (k+1) true (by omega) (by omega) (by simp)
  ·have:k=x36.length:=by omega
   subst this
   have d:decide ((x36.length:Int)<(x36.length:Int))=false:=decide_eq_false (by omega)
   have w:w64 (((c+1:Nat) : Int) - 1)=(c:Int):=by rw [Qdl (by omega)] <;> omega
   have hf:f=true:=by simpa using h3
   have q1:neI ((c+1:Nat) : Int) (c:Int)=some ():=by unfold neI;rw [if_neg (by omega)]
   have q2:eqv x36 x36=some ():=by unfold eqv;rw [if_pos rfl]
   simp only [d,Bool.false_eq_true,if_false,w,r0,r1,q1,q2,Option.bind_some,Qe2,hf,Bool.not_true]
theorem fl1 {K0:Int→Int→Option Bool} {s:Int} {c:Nat} {x17:List Int} (hx:x17.length<1000000) (hv:c<100000) (r1:rd o (c:Int)=some x17) (hs : ∀ x∈x17,∀ y∈x17,Qde p x y=some (false,true))
  (hb:c≠0→∃ (x36:List Int),rd o ((c - 1:Nat) : Int)=some x36∧x36.length<1000000∧∀ y∈x17,∃ g:Int→Bool,(∀ x∈x36,Qde p x y=some (g x,true))∧x36.any g=true) : ∀ (n k:Nat),k≤x17.length→x17.length<n+k →
  Qc4 K0 p (o,ok) s (c:Int) x17 n k=K0 (w64 (s+(x17.length:Int))) ((c+1:Nat) : Int)
 | 0,k,h1,h2=>by omega
 | n+1,k,h1,h2=>by
  rw [Qc4]
  have q2:eqv x17 x17=some ():=by unfold eqv;rw [if_pos rfl]
  have w1:w64 ((c:Int)+1)=((c+1:Nat) : Int):=Qff (by omega)
  by_cases hk:k<x17.length
  ·have d:decide ((k:Int)<(x17.length:Int))=true:=decide_eq_true (by omega)
   have hy:=List.getElem_mem hk
   have wk:w64 ((k:Int)+1)=((k+1:Nat) : Int):=Qff (by omega)
   simp only [d,if_true,Qdn hk,Option.bind_some]
   have e:=fl2 (p:=p) (o:=o) (ok:=ok) (K0:=K0) (K1:=Qc4 K0 p (o,ok) s (c:Int) x17 n) (v14:=s) (v15:=(c:Int)) (v18:=(k:Int)) (y:=x17[k]) hx (fun x hx=>hs x hx _ hy) FU 0 (by omega) (by have:=Qeg (n:=x17.length) (by omega);omega)
   rw [show ((0:Nat) : Int)=0 from rfl] at e
   rw [e,Qbd]
   have d2:decide ((x17.length:Int)<(x17.length:Int))=false:=decide_eq_false (by omega)
   simp only [d2,Bool.false_eq_true,if_false]
   by_cases hc:c=0
   ·subst hc
    have d3:decide (((0:Nat) : Int) > 0)=false:=by simp
    have d4:(((0:Nat) : Int) == 0)=true:=by simp
    simp only [d3,d4,Bool.false_eq_true,if_false,Qe2,Bool.not_true,wk]
    exact fl1 hx hv r1 hs hb n (k+1) (by omega) (by omega)
   ·obtain ⟨x36,r0,h36,hb'⟩:=hb hc
    obtain ⟨g,g1,g2⟩:=hb' _ hy
    obtain ⟨c',rfl⟩ : ∃ c',c=c'+1:=⟨c - 1,by omega⟩
    rw [show c'+1 - 1=c' from rfl] at r0
    have d3:decide (((c'+1:Nat) : Int) > 0)=true:=decide_eq_true (by omega)
    have d4:(((c'+1:Nat) : Int) == 0)=false:=by simp;omega
    have w:w64 (((c'+1:Nat) : Int) - 1)=(c':Int):=by rw [Qdl (by omega)] <;> omega
    have q1:neI ((c'+1:Nat) : Int) (c':Int)=some ():=by unfold neI;rw [if_neg (by omega)]
    have e3:=fl3 (p:=p) (o:=o) (ok:=ok) (K0:=K0) (K1:=Qc4 K0 p (o,ok) s ((c'+1:Nat) : Int) x17 n) (v14:=s) (v18:=(k:Int)) (y:=x17[k]) h36 (by omega) r0 r1 g1 FU 0 false (by omega) (by have:=Qeg (n:=x36.length) (by omega);omega) (by simpa using g2)
    rw [show ((0:Nat) : Int)=0 from rfl] at e3
    simp only [d3,d4,if_true,w,r0,r1,q1,Option.bind_some,e3,wk]
    exact fl1 hx hv r1 hs hb n (k+1) (by omega) (by omega)
  ·have:k=x17.length:=by omega
   subst this
   have d:decide ((x17.length:Int)<(x17.length:Int))=false:=decide_eq_false (by omega)
   simp only [d,Bool.false_eq_true,if_false,r1,q2,Option.bind_some,w1]
end
theorem Xfp {o:List (List Int)} {c:Nat} (h:c<o.length) : ((o.take (c+1)).map List.length).sum=((o.take c).map List.length).sum+o[c].length:=by
 rw [List.take_succ_eq_append_getElem h]
 simp only [List.map_append,List.sum_append,List.map_cons,List.map_nil,List.sum_cons,List.sum_nil,Nat.add_zero]
theorem Qy4 (o:List (List Int)) (c:Nat) : ((o.take c).map List.length).sum≤(o.map List.length).sum:=by
 induction o generalizing c with
 | nil=>simp
 | cons r o ih=>cases c with
  | zero=>simp
  | succ c=>have:=ih c;simp only [List.take_succ_cons,List.map_cons,List.sum_cons];omega
theorem fl0 {p:List Qa5} {o:List (List Int)} {d:List Int} (hg:Qsu p=true) (ho:OV o 200) (hi:OI o d p.length) (hp : ∀ k,k<p.length→PD p d k k) : ∀ (n m c:Nat),c+m=o.length→m<n →
    Qbp p (o,true) n (((o.take c).map List.length).sum:Nat) c=some true
  | 0,m,c,h1,h2=>by omega
  | n+1,0,c,h1,h2=>by
    have:c=o.length:=by omega
    subst this
    have d:decide ((o.length:Int)<(o.length:Int))=false:=decide_eq_false (by omega)
    rw [Qbp]
    simp only [d,Bool.false_eq_true,if_false,Bool.not_true,List.take_length,hi.2.2,beq_self_eq_true]
  | n+1,m+1,c,h1,h2=>by
    have hgl:p.length≤200:=by
      have h9:p.all Qjq=true∧p.length≤200:=by simpa [Qsu] using hg
      exact h9.2
    have hc:c<o.length:=by omega
    have hol:=ho.1
    have d0:decide ((c:Int)<(o.length:Int))=true:=decide_eq_true (by omega)
    have hrl:=ho.2 _ (List.getElem_mem hc)
    have hge:o[c]? = some o[c]:=List.getElem?_eq_getElem hc
    rw [Qbp]
    simp only [d0,if_true,Qdn hc,Option.bind_some]
    have e:=fl1 (p:=p) (o:=o) (ok:=true) (K0:=Qbp p (o,true) n) (s:=((((o.take c).map List.length).sum:Nat) : Int)) (c:=c) (x17:=o[c]) (by omega) (by omega) (Qdn hc) (fun x hx y hy=>by
        obtain ⟨kx,x1,rfl,x3⟩:=hi.1 c _ hge x hx
        obtain ⟨ky,y1,rfl,y3⟩:=hi.1 c _ hge y hy
        rw [Qzn hg x1 y1]
        cases hb:Qf8 p ky kx
        · rfl
        · exfalso
          have hlt:=Xez ky y1 kx hb
          obtain ⟨e,e1,e2,_⟩:=hp ky y1
          obtain ⟨z,z1,z2⟩:=e2 kx hlt hb
          rw [y3] at e1
          rw [x3] at z1
          injection e1 with e1
          injection z1 with z1
          omega) (fun hc0=>by
        refine ⟨o[c - 1],Qdn (by omega),by have:=ho.2 _ (List.getElem_mem (show c - 1<o.length by omega));omega,fun y hy=>?_⟩
        obtain ⟨ky,y1,rfl,y3⟩:=hi.1 c _ hge y hy
        refine ⟨fun x=>Qf8 p ky x.toNat,fun x hx=>?_,?_⟩
        · obtain ⟨kx,x1,rfl,x3⟩:=hi.1 (c - 1) _ (List.getElem?_eq_getElem (by omega)) x hx
          rw [Qzn hg x1 y1];rfl
        · obtain ⟨e,e1,_,e3⟩:=hp ky y1
          have ec:e=c:=by rw [y3] at e1;injection e1 with e1;omega
          subst ec
          rcases e3 with h | ⟨x,z,x1,x2,x3,x4⟩
          · omega
          · obtain ⟨r,r1,r2⟩:=hi.2.1 x z (by omega) x3
            have hz:z=e - 1:=by omega
            subst hz
            have:r=o[e - 1]:=by rw [List.getElem?_eq_getElem (by omega)] at r1;exact (Option.some.inj r1).symm
            subst this
            exact List.any_eq_true.2 ⟨(x:Int),r2,by simpa using x2⟩) FU 0 (by omega) (by have:=Qeg (n:=o[c].length) (by omega);omega)
    rw [show ((0:Nat) : Int)=0 from rfl] at e
    have hsl:=Qy4 o (c+1)
    have hst:=Xfp hc
    have ht:=hi.2.2
    rw [e,Qdl (by omega)]
    have:=fl0 hg ho hi hp n m (c+1) (by omega) (by omega)
    rw [hst] at this
    exact this
theorem u8_of {y:Int} (h:(Lit.int .u8 y).wf=true) : 0≤y∧y<256:=by
 have a:IntKind.u8.min=0:=by decide
 have b:IntKind.u8.max=255:=by decide
 simp only [Lit.wf,a,b] at h
 simp at h
 omega
theorem Xk0 {x:List Int} (h : ∀ y∈x,(Lit.int .u8 y).wf=true) (hl:x.length≤1048576) : Bys x:=⟨hl,fun y hy=>u8_of (h y hy)⟩
theorem Xjl {x y:List Int} (h0:x.length≤9223372036854775807) (h1:y.length≤9223372036854775807) : ∃ b,Qol x y=some b∧(b=false→x.length≤1048576∧y.length≤1048576):=by
 unfold Qol
 by_cases hx:(x.length:Int) > 1048576
 ·simp only [hx,decide_true,if_true]
  exact ⟨true,rfl,fun h=>by cases h⟩
 ·have w:w64 (1048576 - (x.length:Int))=1048576 - (x.length:Int):=Qdl (by omega)
  simp only [hx,decide_false,Bool.false_eq_true,if_false,w]
  exact ⟨_,rfl,fun h=>by have:=of_decide_eq_false h;omega⟩
theorem Qwv (x0 x1:List Int) (g0:x0.length≤9223372036854775807∧∀ y0∈x0,(Lit.int .u8 y0).wf=true) (g1:x1.length≤9223372036854775807∧∀ y0∈x1,(Lit.int .u8 y0).wf=true) : Qie x0 x1=some true:=by
 obtain ⟨b,b1,b2⟩:=Xjl g0.1 g1.1
 unfold Qie
 simp only [b1,Option.bind_some]
 cases b
 ·obtain ⟨hx,_⟩:=b2 rfl
  obtain ⟨p,a',s',t1,t2,_⟩:=Xjs (s:=0) (Xk0 g0.2 hx) (a:=0) (by omega) (by omega)
  have hp':p.length<1099511627776:=by omega
  have dr:Qen x0=some p:=by
   unfold Qen Qfj
   simp only [t1,Option.bind_some]
  simp only [Bool.false_eq_true,if_false,dr,Option.bind_some]
  rw [Qif,Qim,Qv9 hp',Qoq hp']
  cases hg:Qsu p
  ·have sn:=Xe4 (p:=[]) (by simp) (by simp)
   obtain ⟨n,hn⟩ : ∃ n,FU=n+1:=⟨FU - 1,by have:=Qeg (n:=0) (by omega);omega⟩
   have d:decide ((0:Int)<(([] : List (List Int)).length:Int))=false:=by simp
   simp [sn,hn,Qbp]
  ·have h1:p.all Qjq=true∧p.length≤200:=by simpa [Qsu] using hg
   obtain ⟨a,e1,e2,e3⟩:=Qov h1.2 h1.1
   have hd:DV (List.replicate p.length 0) p.length:=⟨by simp,fun i hi=>⟨0,by simp [hi],by omega⟩⟩
   obtain ⟨r,q1,q2,q3⟩:=Xgw h1.2 e2 e3 FU p.length 0 (List.replicate p.length 0) [] (by omega) (Qeg (by omega)) hd ⟨by simp,by simp⟩
   obtain ⟨o,d,f1,f2,f3,f4⟩:=lay0 h1.2 e2 e3 FU p.length 0 (List.replicate p.length 0) [] (by omega) (Qeg (by omega)) hd ⟨by simp,by simp⟩ ⟨by simp,fun k c hk=>by omega,by simp⟩ (fun k hk=>by omega) (fun k hk hk2=>by simp [hk2])
   rw [show ((0:Nat) : Int)=0 from rfl] at q1 q2 f1
   have er:r=(o,true):=by rw [f1] at q2;exact (Option.some.inj q2).symm
   subst er
   have sl:=Xe4 (p:=o) (by have:=f2.1;omega) (fun r hr=>by have:=f2.2 r hr;omega)
   have fin:=fl0 hg f2 f3 f4 FU o.length 0 (by omega) (Qeg (by have:=f2.1;omega))
   rw [show ((((o.take 0).map List.length).sum:Nat) : Int)=0 by simp,show ((0:Nat) : Int)=0 from rfl] at fin
   simp [Qwp (p:=p) (by omega),Xb8 (z:=(0:Int)) (n:=p.length) (by omega),q1,e1,f1,sl,fin]
 ·simp
end Go.Proofs.Ytdmmaanagmacjaa
