/- Plain facts for FnLayers; no condition. -/

import Derived.Test.YtdmmaanagmacjaaDR
set_option linter.unusedVariables false
set_option linter.unusedSimpArgs false
namespace Go.Proofs.Ytdmmaanagmacjaa
open Go Go.T
def PW (m n:Nat) (p:Qa9) : Prop:=(-9223372036854775808≤p.Cells∧p.Cells<9223372036854775808)∧(-9223372036854775808≤p.Locks∧p.Locks<9223372036854775808)∧(-9223372036854775808≤p.Conds∧p.Conds<9223372036854775808)∧1≤p.Routines.length∧p.Routines.length≤m∧∀ r∈p.Routines,Qwu n r
theorem Qwu.mono {n n':Nat} {l:List GOp} (h:Qwu n l) (hn:n≤n') : Qwu n' l:=⟨by have:=h.1;omega,h.2⟩
theorem Qwu.app {n n':Nat} {l l':List GOp} (h:Qwu n l) (h':Qwu n' l') : Qwu (n+n') (l++l'):=⟨by have:=h.1;have:=h'.1;simp;omega,fun o ho=>by
  rcases List.mem_append.1 ho with q | q
  · exact h.2 o q
  · exact h'.2 o q⟩
theorem PW.set {m n n':Nat} {p:Qa9} {l:List GOp} {i:Nat} (h:PW m n p) (hl:Qwu n' l) (hn:n≤n') : PW m n' ⟨p.Cells,p.Locks,p.Conds,p.Routines.set i l⟩:=by
 obtain ⟨a,b,c,d,e,f⟩:=h
 refine ⟨a,b,c,by simpa using d,by simpa using e,fun r hr=>?_⟩
 rcases List.mem_or_eq_of_mem_set hr with q | q
 ·exact (f r q).mono hn
 ·exact q ▸ hl
theorem PW.add {m n n':Nat} {p:Qa9} {l:List GOp} (h:PW m n p) (hl:Qwu n' l) (hn:n'≤n) : PW (m+1) n ⟨p.Cells,p.Locks,p.Conds,p.Routines++[l]⟩:=by
 obtain ⟨a,b,c,d,e,f⟩:=h
 refine ⟨a,b,c,by simp,by simp;omega,fun r hr=>?_⟩
 rcases List.mem_append.1 hr with q | q
 ·exact f r q
 ·have:r=l:=by simpa using q
  exact this ▸ hl.mono hn
theorem PW.mono {m n m' n':Nat} {p:Qa9} (h:PW m n p) (hm:m≤m') (hn:n≤n') : PW m' n' p:=by
 obtain ⟨a,b,c,d,e,f⟩:=h
 exact ⟨a,b,c,d,by omega,fun r hr=>(f r hr).mono hn⟩
def N0 (p:Qa9) : Prop:=∃ r,p.Routines[0]? = some r∧1≤r.length
theorem N0.set {p:Qa9} {i:Nat} {l:List GOp} (h:N0 p) (hl : 1≤l.length) : N0 ⟨p.Cells,p.Locks,p.Conds,p.Routines.set i l⟩:=by
 obtain ⟨r,h1,h2⟩:=h
 have hlt : 0<p.Routines.length:=(List.getElem?_eq_some_iff.1 h1).1
 by_cases e:i=0
 ·subst e;exact ⟨l,by simp [hlt],hl⟩
 ·exact ⟨r,by show (p.Routines.set i l)[0]? = _;rw [List.getElem?_set_ne e];exact h1,h2⟩
theorem N0.set0 {p:Qa9} {l:List GOp} (h : 0<p.Routines.length) (hl : 1≤l.length) : N0 ⟨p.Cells,p.Locks,p.Conds,p.Routines.set (Int.toNat 0) l⟩:=⟨l,by simp [h],hl⟩
theorem N0.add {p:Qa9} {l:List GOp} (h:N0 p) : N0 ⟨p.Cells,p.Locks,p.Conds,p.Routines++[l]⟩:=by
 obtain ⟨r,h1,h2⟩:=h
 have hlt : 0<p.Routines.length:=(List.getElem?_eq_some_iff.1 h1).1
 exact ⟨r,by show (p.Routines++[l])[0]? = _;rw [List.getElem?_append_left hlt];exact h1,h2⟩
theorem Xkk {α:Type} {l:List α} (h : 0<l.length) : rd l 0=some l[0]:=by have:=Qdn (l:=l) (k:=0) h;simpa using this
theorem Xda {c a:Int} {v:Nat} (h1 : -9223372036854775808≤c∧c<9223372036854775808) (h2 : -9223372036854775808≤a∧a<9223372036854775808) (h4:v<18446744073709551616) : Qwu 1 [GOp.mk c a 0 v]:=⟨by simp,fun o ho=>by
  have:o=GOp.mk c a 0 v:=by simpa using ho
  exact this ▸ wfO h1 h2 (by omega) h4⟩
theorem Xgo {cd:List Int} {K0:Qa0→Qa9→Qa9→Int→Option (Qa9×Qa0)} {r2:Int×Qa0} {v6:Int} {p0 p:Qa9} (hb:Bys cd) (hp:p.Routines.length≤100) : ∀ (n k m:Nat) (a s:Int) (l:List GOp),k<n→m+6 * k≤1000→k≤100→0≤a→a+20 * (k:Int)≤700000000000→Qwu m l →
  ∃ l' a' s',Qbt K0 cd r2 v6 n ⟨a,s⟩ p0 p l k=K0 ⟨a',s'⟩ p0 ⟨p.Cells,p.Locks,p.Conds,p.Routines++[l']⟩ (w64 (v6+1))∧Qwu (m+6 * k) l'∧a≤a'∧a'≤a+20 * (k:Int)
 | 0,k,m,a,s,l,h1,h2,h3,h4,h5,hl=>by omega
 | n+1,0,m,a,s,l,h1,h2,h3,h4,h5,hl=>by
  have d:decide (((0:Nat) : Int) > 0)=false:=by simp
  have ha:app p.Routines [l]=some (p.Routines++[l]):=Qdm (by simp;omega)
  rw [Qbt]
  simp only [d,Bool.false_eq_true,if_false,ha,Option.bind_some]
  exact ⟨l,a,s,rfl,hl.mono (by omega),by omega,by omega⟩
 | n+1,k+1,m,a,s,l,h1,h2,h3,h4,h5,hl=>by
  rw [Qbt]
  have d:decide (((k+1:Nat) : Int) > 0)=true:=by simp <;> omega
  have w:w64 (((k+1:Nat) : Int) - 1)=(k:Int):=by rw [Qdl (by omega)] <;> omega
  obtain ⟨x,b,t,e1,x0,x1,b0,b1⟩:=dpk (s:=s) (n:=2) hb h4 (by omega)
  have x1':=x1 (by omega)
  obtain ⟨y,c,u,e2,y0,c0,c1⟩:=Xi0 (s:=t) (x:=x) hb (a:=b) (by omega) (by omega) x0 (by omega)
  have ha:app l y=some (l++y):=Qdm (by have:=hl.1;have:=y0.1;omega)
  simp only [d,if_true,e1,e2,Option.bind_some,ha,w]
  obtain ⟨l',a',s',q1,q2,q3,q4⟩:=Xgo hb hp n k (m+6) c u (l++y) (by omega) (by omega) (by omega) (by omega) (by omega) (hl.app y0)
  exact ⟨l',a',s',q1,q2.mono (by omega),by omega,by omega⟩
theorem Xh0 {cd:List Int} {p0 p:Qa9} {m n:Nat} {a s:Int} (hb:Bys cd) (h0 : 0≤a) (h1:a≤600000000000) (hm:m≤100) (hn:n≤1000) (hp:PW m n p) (hN:N0 p) :
  ∃ p' a' s',Qd0 cd ⟨a,s⟩ p0 p=some (p',⟨a',s'⟩)∧(PW m (n+2) p'∧N0 p')∧a≤a'∧a'≤a+20:=by
 obtain ⟨x,b,t,e1,b0,b1⟩:=done (s:=s) (n:=6) hb h0 (by omega)
 have pe:Qa9.mk p.Cells p.Locks p.Conds p.Routines=p:=rfl
 unfold Qd0
 simp only [e1,Option.bind_some,pe]
 cases x
 ·simp only [Bool.false_eq_true,if_false]
  exact ⟨_,_,_,rfl,⟨hp.mono (by omega) (by omega),hN⟩,b0,by omega⟩
 ·obtain ⟨y,c,u,e2,y0,y1,c0,c1⟩:=dpk (s:=t) (n:=(p.Routines.length:Int)) hb (a:=b) (by omega) (by omega)
  have hy:=y1 (by have:=hp.2.2.2.1;omega)
  obtain ⟨k,rfl⟩ : ∃ k:Nat,y=k:=⟨y.toNat,by omega⟩
  have hk:k<p.Routines.length:=by omega
  have hr:=hp.2.2.2.2.2 _ (List.getElem_mem hk)
  have hrl:=hr.1
  obtain ⟨v,d,w,e3,v0,d0,d1⟩:=dnum (s:=u) hb (a:=c) (by omega) (by omega)
  obtain ⟨z,f,g,e4,z0,z1,f0,f1⟩:=dpk (s:=w) (n:=((p.Routines[k].length:Nat) : Int)+1) hb (a:=d) (by omega) (by omega)
  have hz:=z1 (by omega)
  have w1:w64 ((p.Routines[k].length:Int)+1)=(p.Routines[k].length:Int)+1:=Qdl (by omega)
  have ha:app p.Routines[k] [GOp.mk 1 0 0 v,GOp.mk 11 z 0 0]=some (p.Routines[k]++[GOp.mk 1 0 0 v,GOp.mk 11 z 0 0]):=Qdm (by simp;omega)
  simp only [if_true,e2,Qdn hk,e3,w1,e4,ha,Option.bind_some]
  refine ⟨_,_,_,rfl,⟨hp.set (n':=n+2) (hr.app ⟨by simp,fun o ho=>?_⟩) (by omega),hN.set (by simp)⟩,by omega,by omega⟩
  have:o=GOp.mk 1 0 0 v∨o=GOp.mk 11 z 0 0:=by simpa using ho
  rcases this with q | q
  ·exact q ▸ wfO (by omega) (by omega) (by omega) v0
  ·exact q ▸ wfO (by omega) (by omega) (by omega) (by omega)
theorem Xgi {cd:List Int} {p0 p:Qa9} {m n:Nat} {a s:Int} (hb:Bys cd) (h0 : 0≤a) (h1:a≤500000000000) (hm:m≤100) (hn:n≤900) (hp:PW m n p) (hN:N0 p) :
  ∃ p' a' s',Qcx cd ⟨a,s⟩ p0 p=some (p',⟨a',s'⟩)∧(PW m (n+3) p'∧N0 p')∧a≤a'∧a'≤a+40:=by
 obtain ⟨x,b,t,e1,b0,b1⟩:=done (s:=s) (n:=2) hb h0 (by omega)
 have hl : 0<p.Routines.length:=hp.2.2.2.1
 have hr:=hp.2.2.2.2.2 _ (List.getElem_mem hl)
 have hrl:=hr.1
 unfold Qcx
 simp only [e1,Option.bind_some]
 cases x
 ·simp only [Bool.false_eq_true,if_false]
  obtain ⟨p',a',s',q1,q2,q3,q4⟩:=Xh0 (s:=t) (p0:=p0) hb (a:=b) (by omega) (by omega) hm (by omega) hp hN
  exact ⟨p',a',s',q1,⟨q2.1.mono (by omega) (by omega),q2.2⟩,by omega,by omega⟩
 ·have ha:app p.Routines[0] [GOp.mk 15 0 0 0]=some (p.Routines[0]++[GOp.mk 15 0 0 0]):=Qdm (by simp;omega)
  simp only [if_true,Xkk hl,ha,Option.bind_some]
  obtain ⟨p',a',s',q1,q2,q3,q4⟩:=Xh0 (s:=t) (p0:=p0) hb (a:=b) (by omega) (by omega) hm (n:=n+1) (by omega) (hp.set (i:=Int.toNat 0) (hr.app (Xda (c:=15) (a:=0) (v:=0) (by omega) (by omega) (by omega))) (by omega)) (hN.set (by simp))
  exact ⟨p',a',s',q1,⟨q2.1.mono (by omega) (by omega),q2.2⟩,by omega,by omega⟩
theorem Xh1 {cd:List Int} {r2:Int×Qa0} {p0:Qa9} (hb:Bys cd) : ∀ (n k m j:Nat) (v:Int) (p:Qa9) (a s:Int),k<n→k≤50→12≤m→m+k≤800→j+k≤90→0≤v→v≤200→0≤r2.1→r2.1≤100→v+(k:Int)=1+r2.1→PW j m p→(v≠0→N0 p)→0≤a→a+100 * (k:Int)≤400000000000 →
    ∃ p' a' s',Qbs cd r2 n ⟨a,s⟩ p0 p v=some (p',⟨a',s'⟩)∧(PW (j+k) (m+k+9) p'∧N0 p')∧a≤a'∧a'≤a+100 * (k:Int)+100
  | 0,k,m,j,v,p,a,s,h1,_,_,_,_,_,_,_,_,_,_,_,_,_=>by omega
  | n+1,k,m,j,v,p,a,s,h1,h2,h3,h4,h5,v0,v1,r0,r1,hv,hp,hN,a0,a1=>by
    have hl : 0<p.Routines.length:=hp.2.2.2.1
    have hl5:=hp.2.2.2.2.1
    have hr:=hp.2.2.2.2.2 _ (List.getElem_mem hl)
    have hrl:=hr.1
    have w:w64 (1+r2.1)=1+r2.1:=Qdl (by omega)
    rw [Qbs]
    simp only [w]
    by_cases hk:k=0
    · have d:decide (v<1+r2.1)=false:=by simp;omega
      have hN:=hN (by omega)
      obtain ⟨x,b,t,e1,b0,b1⟩:=done (s:=s) (n:=2) hb a0 (by omega)
      simp only [d,Bool.false_eq_true,if_false,e1,Option.bind_some]
      cases x
      · simp only [Bool.false_eq_true,if_false]
        obtain ⟨p',a',s',q1,q2,q3,q4⟩:=Xgi (s:=t) (p0:=p0) hb (a:=b) (by omega) (by omega) (by omega) (by omega) hp hN
        exact ⟨p',a',s',q1,⟨q2.1.mono (by omega) (by omega),q2.2⟩,by omega,by omega⟩
      · obtain ⟨y,c,u,e2,y0,y1,c0,c1⟩:=dpk (s:=t) (n:=2) hb (a:=b) (by omega) (by omega)
        have y1':=y1 (by omega)
        obtain ⟨z,f,g,e3,z0,f0,f1⟩:=Xi0 (s:=u) (x:=y) hb (a:=c) (by omega) (by omega) y0 (by omega)
        have ha:app p.Routines[0] z=some (p.Routines[0]++z):=Qdm (by have:=z0.1;omega)
        simp only [if_true,Xkk hl,e2,e3,ha,Option.bind_some]
        obtain ⟨p',a',s',q1,q2,q3,q4⟩:=Xgi (s:=g) (p0:=p0) hb (a:=f) (by omega) (by omega) (by omega) (n:=m+6) (by omega) (hp.set (i:=Int.toNat 0) (hr.app z0) (by omega)) (hN.set (by
          obtain ⟨r,n1,n2⟩:=hN
          have:r=p.Routines[0]:=by rw [List.getElem?_eq_getElem hl] at n1;exact (Option.some.inj n1).symm
          subst this
          simp;omega))
        exact ⟨p',a',s',q1,⟨q2.1.mono (by omega) (by omega),q2.2⟩,by omega,by omega⟩
    · have d:decide (v<1+r2.1)=true:=by simp;omega
      have w1:w64 (v+1)=v+1:=Qdl (by omega)
      have ha:app p.Routines[0] [GOp.mk 14 (v+1) 0 0]=some (p.Routines[0]++[GOp.mk 14 (v+1) 0 0]):=Qdm (by simp;omega)
      obtain ⟨x,b,t,e1,x0,x1,b0,b1⟩:=dpk (s:=s) (n:=2) hb a0 (by omega)
      have x1':=x1 (by omega)
      have w2:w64 (1+x)=((1+x.toNat:Nat) : Int):=by rw [Qdl (by omega)];omega
      simp only [d,if_true,Xkk hl,w1,ha,e1,w2,Option.bind_some]
      have hp1:=hp.set (i:=Int.toNat 0) (hr.app (Xda (c:=14) (a:=v+1) (v:=0) (by omega) (by omega) (by omega))) (by omega)
      obtain ⟨l',c,u,q1,q2,q3,q4⟩:=Xgo (K0:=Qbs cd r2 n) (r2:=r2) (v6:=v) (p0:=p0) (p:=⟨p.Cells,p.Locks,p.Conds,p.Routines.set (Int.toNat 0) (p.Routines[0]++[GOp.mk 14 (v+1) 0 0])⟩) hb (by show (p.Routines.set _ _).length≤100;simp;omega) FU (1+x.toNat) 0 b t [] (Qeg (by omega)) (by omega) (by omega) (by omega) (by omega) ⟨by simp,by simp⟩
      obtain ⟨p',a',s',f1,f2,f3,f4⟩:=Xh1 (r2:=r2) (p0:=p0) hb n (k - 1) (m+1) (j+1) (v+1) _ c u (by omega) (by omega) (by omega) (by omega) (by omega) (by omega) (by omega) r0 r1 (by omega) (hp1.add (q2.mono (n':=m+1) (by omega)) (by omega)) (fun _=>N0.add (N0.set0 hl (by simp))) (by omega) (by omega)
      rw [q1,w1]
      exact ⟨p',a',s',f1,⟨f2.1.mono (by omega) (by omega),f2.2⟩,by omega,by omega⟩
theorem dprog {cd:List Int} {a s:Int} (hb:Bys cd) (h0 : 0≤a) (h1:a≤300000000000) : ∃ p a' s',Qfu cd ⟨a,s⟩=some (p,⟨a',s'⟩)∧(PW 3 23 p∧N0 p)∧a≤a'∧a'≤a+310:=by
  obtain ⟨x,b,t,e1,x0,x1,b0,b1⟩:=dpk (s:=s) (n:=2) hb h0 (by omega)
  have x1':=x1 (by omega)
  unfold Qfu
  simp only [e1,Option.bind_some]
  have hp:PW 1 12 ⟨2,2,1,[[]]⟩:=⟨by decide,by decide,by decide,by simp,by simp,fun r hr=>by
    have:r=[]:=by simpa using hr
    subst this
    exact ⟨by simp,by simp⟩⟩
  obtain ⟨p',a',s',f1,f2,f3,f4⟩:=Xh1 (r2:=(x,Qa0.mk b t)) (p0:=Qa9.mk 0 0 0 []) hb FU (1+x.toNat) 12 1 0 _ b t (Qeg (by omega)) (by omega) (by omega) (by omega) (by omega) (by omega) (by omega) x0 (by show x≤100;omega) (by show (0:Int)+((1+x.toNat:Nat) : Int)=1+x;omega) hp (fun h=>absurd rfl h) (by omega) (by omega)
  exact ⟨p',a',s',f1,⟨f2.1.mono (by omega) (by omega),f2.2⟩,by omega,by omega⟩
end Go.Proofs.Ytdmmaanagmacjaa
