/- Plain facts for FnLayers; no condition. -/

import Derived.Test.YtdmmaanagmacjaaDR2
set_option linter.unusedVariables false
set_option linter.unusedSimpArgs false
namespace Go.Proofs.Ytdmmaanagmacjaa
open Go Go.T
theorem Qzp {cd:List Int} {p0 p:Qa9} {m n:Nat} {a s:Int} (hb:Bys cd) (h0 : 0≤a) (h1:a≤600000000000) (hn : 6≤n) (hp:PW m n p) (h3 : 2<p.Routines.length) :
  ∃ p' a' s',Qcg cd ⟨a,s⟩ p0 p=some (p',⟨a',s'⟩)∧PW m n p'∧a≤a'∧a'≤a+20:=by
 obtain ⟨x,b,t,e1,b0,b1⟩:=done (s:=s) (n:=4) hb h0 (by omega)
 unfold Qcg
 simp only [e1,Option.bind_some]
 cases x
 ·simp only [Bool.false_eq_true,if_false]
  exact ⟨_,_,_,rfl,hp,b0,by omega⟩
 ·obtain ⟨y,c,u,e2,y0,c0,c1⟩:=Xi0 (s:=t) (x:=0) hb (a:=b) (by omega) (by omega) (by omega) (by omega)
  have r2:rd p.Routines 2=some p.Routines[2]:=by have:=Qdn (l:=p.Routines) (k:=2) h3;simpa using this
  simp only [if_true,e2,r2,Option.bind_some]
  exact ⟨_,_,_,rfl,hp.set (y0.mono hn) (Nat.le_refl _),by omega,by omega⟩
theorem Xhr {cd:List Int} {a s:Int} (hb:Bys cd) (h0 : 0≤a) (h1:a≤500000000000) :
    ∃ p' a' s',Qem cd ⟨a,s⟩=some (p',⟨a',s'⟩)∧PW 3 10 p'∧a≤a'∧a'≤a+40:=by
  obtain ⟨x,b,t,e1,b0,b1⟩:=done (s:=s) (n:=2) hb h0 (by omega)
  have W : ∀ l:List GOp,l.length≤6→(∀ o∈l,(-9223372036854775808≤o.Code∧o.Code<9223372036854775808)∧(-9223372036854775808≤o.A∧o.A<9223372036854775808)∧(-9223372036854775808≤o.B∧o.B<9223372036854775808)∧o.V<18446744073709551616)→Qwu 6 l:=fun l h1 h2=>⟨h1,fun o ho=>by obtain ⟨p1,p2,p3,p4⟩:=h2 o ho;exact wfO p1 p2 p3 p4⟩
  have R : ∀ r∈([[(GOp.mk 14 1 0 0),(GOp.mk 14 2 0 0)],[(GOp.mk 12 0 0 0),(GOp.mk 12 1 0 0),(GOp.mk 13 1 0 0),(GOp.mk 13 0 0 0)],[(GOp.mk 12 1 0 0),(GOp.mk 12 0 0 0),(GOp.mk 13 0 0 0),(GOp.mk 13 1 0 0)]] : List (List GOp)),Qwu 6 r:=by
    intro r hr
    simp only [List.mem_cons,List.not_mem_nil,or_false] at hr
    rcases hr with rfl | rfl | rfl <;> refine W _ (by simp) ?_ <;> simp only [List.forall_mem_cons,List.not_mem_nil,false_implies,implies_true,and_true] <;> omega
  have hp:PW 3 10 ⟨1,2,1,[[(GOp.mk 14 1 0 0),(GOp.mk 14 2 0 0)],[(GOp.mk 12 0 0 0),(GOp.mk 12 1 0 0),(GOp.mk 13 1 0 0),(GOp.mk 13 0 0 0)],[(GOp.mk 12 1 0 0),(GOp.mk 12 0 0 0),(GOp.mk 13 0 0 0),(GOp.mk 13 1 0 0)]]⟩:=⟨by decide,by decide,by decide,by simp,by simp,fun r hr=>(R r hr).mono (by omega)⟩
  unfold Qem
  simp only [e1,Option.bind_some]
  cases x
  · simp only [Bool.false_eq_true,if_false]
    obtain ⟨p',a',s',q1,q2,q3,q4⟩:=Qzp (s:=t) (p0:=Qa9.mk 0 0 0 []) hb (a:=b) (by omega) (by omega) (by omega) hp (by simp)
    exact ⟨p',a',s',q1,q2,by omega,by omega⟩
  · have r0:rd ([[(GOp.mk 14 1 0 0),(GOp.mk 14 2 0 0)],[(GOp.mk 12 0 0 0),(GOp.mk 12 1 0 0),(GOp.mk 13 1 0 0),(GOp.mk 13 0 0 0)],[(GOp.mk 12 1 0 0),(GOp.mk 12 0 0 0),(GOp.mk 13 0 0 0),(GOp.mk 13 1 0 0)]] : List (List GOp)) 0=some [(GOp.mk 14 1 0 0),(GOp.mk 14 2 0 0)]:=Xkk (by simp)
    have ha:app [(GOp.mk 14 1 0 0),(GOp.mk 14 2 0 0)] [(GOp.mk 15 0 0 0)]=some ([(GOp.mk 14 1 0 0),(GOp.mk 14 2 0 0)]++[(GOp.mk 15 0 0 0)]):=Qdm (by simp)
    simp only [if_true,r0,ha,Option.bind_some]
    have hs:=hp.set (i:=Int.toNat 0) (l:=[(GOp.mk 14 1 0 0),(GOp.mk 14 2 0 0)]++[(GOp.mk 15 0 0 0)]) (n':=10) ((W _ (by simp) (by
      simp only [List.cons_append,List.nil_append,List.forall_mem_cons,List.not_mem_nil,false_implies,implies_true,and_true]
      omega)).mono (by omega)) (by omega)
    obtain ⟨p',a',s',q1,q2,q3,q4⟩:=Qzp (s:=t) (p0:=Qa9.mk 0 0 0 []) hb (a:=b) (by omega) (by omega) (by omega) hs (by simp)
    exact ⟨p',a',s',q1,q2,by omega,by omega⟩
theorem Xcm {cd:List Int} (hb:Bys cd) : ∀ (n k:Nat) (a s:Int) (l:List Int),k<n→k≤100→l.length+k≤200→0≤a→a+4 * (k:Int)≤500000000000 →
  ∃ l' a' s',Qbo cd n ⟨a,s⟩ l k=some (l',⟨a',s'⟩)∧l'.length=l.length+k∧a≤a'∧a'≤a+4 * (k:Int)+10
 | 0,k,a,s,l,h1,h2,h3,h4,h5=>by omega
 | n+1,0,a,s,l,h1,h2,h3,h4,h5=>by
  have d:decide (((0:Nat) : Int) > 0)=false:=by simp
  rw [Qbo]
  simp only [d,Bool.false_eq_true,if_false]
  by_cases hl : 0<l.length
  ·have d2:decide ((l.length:Int) > 0)=true:=by simp <;> omega
   obtain ⟨x,b,t,e1,b0,b1⟩:=done (s:=s) (n:=40) hb h4 (by omega)
   simp only [d2,if_true,e1,Option.bind_some]
   cases x
   ·simp only [Bool.false_eq_true,if_false]
    exact ⟨_,_,_,rfl,rfl,by omega,by omega⟩
   ·obtain ⟨y,c,u,e2,y0,c0,c1⟩:=Qwo (s:=t) (l:=[(-1),999,1000]) hb (a:=b) (by omega) (by omega) (by simp)
    simp only [if_true,e2,Xkk hl,Option.bind_some]
    exact ⟨_,_,_,rfl,by simp,by omega,by omega⟩
  ·have d2:decide ((l.length:Int) > 0)=false:=decide_eq_false (by omega)
   simp only [d2,Bool.false_eq_true,if_false]
   exact ⟨_,_,_,rfl,rfl,by omega,by omega⟩
 | n+1,k+1,a,s,l,h1,h2,h3,h4,h5=>by
  have d:decide (((k+1:Nat) : Int) > 0)=true:=by simp <;> omega
  have w:w64 (((k+1:Nat) : Int) - 1)=(k:Int):=by rw [Qdl (by omega)] <;> omega
  obtain ⟨x,b,t,e1,x0,x1,b0,b1⟩:=dpk (s:=s) (n:=4) hb h4 (by omega)
  have ha:app l [x]=some (l++[x]):=Qdm (by simp;omega)
  rw [Qbo]
  simp only [d,if_true,e1,ha,w,Option.bind_some]
  obtain ⟨l',a',s',q1,q2,q3,q4⟩:=Xcm hb n k b t (l++[x]) (by omega) (by omega) (by simp;omega) (by omega) (by omega)
  exact ⟨l',a',s',q1,by simp at q2;omega,by omega,by omega⟩
theorem Xjw {cd:List Int} {a s:Int} (hb:Bys cd) (h0 : 0≤a) (h1:a≤400000000000) : ∃ l a' s',Qf9 cd ⟨a,s⟩=some (l,⟨a',s'⟩)∧l.length≤40∧a≤a'∧a'≤a+200:=by
 obtain ⟨x,b,t,e1,x0,x1,b0,b1⟩:=dpk (s:=s) (n:=40) hb h0 (by omega)
 have x1':=x1 (by omega)
 unfold Qf9
 simp only [e1,Option.bind_some]
 obtain ⟨k,rfl⟩ : ∃ k:Nat,x=k:=⟨x.toNat,by omega⟩
 obtain ⟨l,a',s',q1,q2,q3,q4⟩:=Xcm hb FU k b t [] (Qeg (by omega)) (by omega) (by simp;omega) (by omega) (by omega)
 exact ⟨l,a',s',q1,by simp at q2;omega,by omega,by omega⟩
theorem PW.wf {m n:Nat} {p:Qa9} (h:PW m n p) (hm:m≤1000) (hn:n≤1000) : Qvw p∧SP p:=by
 obtain ⟨a,b,c,d,e,f⟩:=h
 exact ⟨⟨Xjg a,Xjg b,Xjg c,by omega,fun r hr=>⟨by have:=(f r hr).1;omega,(f r hr).2⟩⟩,by omega,fun r hr=>by have:=(f r hr).1;omega⟩
theorem Qz4 {p:Qa9} {ps:List Int} {m:Int} (g:Qvw p) (sm:SP p) (hl:ps.length≤1048576) : ∃ r:Qgp×Bool,Qgx p ps m=some r∧r.1.Trace.length≤200:=by
 rw [Qgx,Qvy sm g,Xhx hl,Qgk]
 cases hg:Qt0 p
 ·exact ⟨(Qpi,false),by simp [Qpi],by simp [Qpi]⟩
 cases hp:decide (ps.length≤200) && ps.all (fun x=>inr x 0 999)
 ·exact ⟨(Qpi,false),by simp [Qpi],by simp [Qpi]⟩
 cases hm:inr m 0 200
 ·exact ⟨(Qpi,false),by simp [Qpi],by simp [Qpi]⟩
 have hm':=Qcm.1 hm
 simp only [Bool.and_eq_true,decide_eq_true_eq,List.all_eq_true] at hp
 obtain ⟨R,s,r1,_,r3,_⟩:=Qy6 (p:=p) (ps:=ps) (m:=m.toNat) hg (fun r hr o ho=>((g.2.2.2.2 r hr).2 o ho).2.2.2) (by omega) (fun x hx=>(Qcm.1 (hp.2 x hx)).1) hp.1
 rw [show ((m.toNat:Nat) : Int)=m by omega] at r1
 simp only [Option.bind_some,Bool.not_true,Bool.false_eq_true,if_false,r1]
 exact ⟨_,rfl,r3⟩
theorem drun {cd:List Int} {a s:Int} {p:Qa9} {m n:Nat} (hb:Bys cd) (h0 : 0≤a) (h1:a≤300000000000) (hp:PW m n p) (hm:m≤1000) (hn:n≤1000) : ∃ r a' s',Qg9 cd ⟨a,s⟩ p=some (r,⟨a',s'⟩)∧r.Trace.length≤200∧a≤a'∧a'≤a+300:=by
 obtain ⟨l,b,t,e1,l0,b0,b1⟩:=Xjw (s:=s) hb h0 (by omega)
 obtain ⟨y,c,u,e2,y0,c0,c1⟩:=Qwo (s:=t) (l:=[10,30,60,100]) hb (a:=b) (by omega) (by omega) (by simp)
 obtain ⟨w,sp⟩:=hp.wf hm hn
 obtain ⟨r,r1,r2⟩:=Qz4 (m:=y) w sp (ps:=l) (by omega)
 unfold Qg9
 simp only [e1,e2,r1,Option.bind_some]
 exact ⟨_,_,_,rfl,r2,by omega,by omega⟩
theorem Xj2 {cd:List Int} {a s:Int} {l:List Qa5} (hb:Bys cd) (h0 : 0≤a) (h1:a≤300000000000) (hl : 0<l.length) : ∃ l' a' s',Qds cd ⟨a,s⟩ l=some (l',⟨a',s'⟩)∧l'.length=l.length∧a≤a'∧a'≤a+20:=by
 obtain ⟨x,b,t,e1,x0,x1,b0,b1⟩:=dpk (s:=s) (n:=(l.length:Int)) hb h0 (by omega)
 have x1':=x1 (by omega)
 obtain ⟨k,rfl⟩ : ∃ k:Nat,x=k:=⟨x.toNat,by omega⟩
 have hk:k<l.length:=by omega
 obtain ⟨y,c,u,e2,y0,y1,c0,c1⟩:=dpk (s:=t) (n:=4) hb (a:=b) (by omega) (by omega)
 unfold Qds
 simp only [e1,e2,Option.bind_some]
 split
 ·obtain ⟨z,d,v,e3,z0,z1,d0,d1⟩:=dpk (s:=u) (n:=6) hb (a:=c) (by omega) (by omega)
  simp only [e3,Qdn hk,Option.bind_some]
  exact ⟨_,_,_,rfl,by simp,by omega,by omega⟩
 split
 ·obtain ⟨z,d,v,e3,z0,z1,d0,d1⟩:=dpk (s:=u) (n:=14) hb (a:=c) (by omega) (by omega)
  simp only [e3,Qdn hk,Option.bind_some]
  exact ⟨_,_,_,rfl,by simp,by omega,by omega⟩
 split
 ·obtain ⟨z,d,v,e3,z0,d0,d1⟩:=Qwo (s:=u) (l:=[(-2),0,1,100]) hb (a:=c) (by omega) (by omega) (by simp)
  simp only [e3,Qdn hk,Option.bind_some]
  exact ⟨_,_,_,rfl,by simp,by omega,by omega⟩
 ·obtain ⟨z,d,v,e3,z0,z1,d0,d1⟩:=dpk (s:=u) (n:=3) hb (a:=c) (by omega) (by omega)
  simp only [e3,Qdn hk,Option.bind_some]
  exact ⟨_,_,_,rfl,by simp,by omega,by omega⟩
theorem Qz0 {cd:List Int} {a s:Int} {l:List Qa5} (hb:Bys cd) (h0 : 0≤a) (h1:a≤200000000000) : ∃ l' a' s',Qc5 cd ⟨a,s⟩ l=some (l',⟨a',s'⟩)∧l'.length=l.length∧a≤a'∧a'≤a+40:=by
 unfold Qc5
 by_cases hl : 0<l.length
 ·have d2:decide ((l.length:Int) > 0)=true:=by simp <;> omega
  obtain ⟨x,b,t,e1,b0,b1⟩:=done (s:=s) (n:=12) hb h0 (by omega)
  simp only [d2,if_true,e1,Option.bind_some]
  cases x
  ·simp only [Bool.false_eq_true,if_false]
   exact ⟨_,_,_,rfl,rfl,by omega,by omega⟩
  ·simp only [if_true]
   obtain ⟨l',a',s',q1,q2,q3,q4⟩:=Xj2 (s:=t) hb (a:=b) (by omega) (by omega) hl
   exact ⟨l',a',s',q1,q2,by omega,by omega⟩
 ·have d2:decide ((l.length:Int) > 0)=false:=decide_eq_false (by omega)
  simp only [d2,Bool.false_eq_true,if_false]
  exact ⟨_,_,_,rfl,rfl,by omega,by omega⟩
theorem Xdz {cd:List Int} {a s:Int} {p:Qa9} {m n:Nat} (hb:Bys cd) (h0 : 0≤a) (h1:a≤100000000000) (hp:PW m n p) (hm:m≤1000) (hn:n≤1000) : ∃ l' a' s',Qcn cd ⟨a,s⟩ p=some (l',⟨a',s'⟩)∧l'.length≤200∧a≤a'∧a'≤a+400:=by
 obtain ⟨r,b,t,e1,r0,b0,b1⟩:=drun (s:=s) hb h0 (by omega) hp hm hn
 have ha:app [] r.Trace=some ([]++r.Trace):=Qdm (by simp;omega)
 have pe:Qa9.mk p.Cells p.Locks p.Conds p.Routines=p:=rfl
 unfold Qcn
 simp only [pe,e1,ha,Option.bind_some,List.nil_append]
 by_cases h40:(r.Trace.length:Int) > 40
 ·obtain ⟨x,c,u,e2,c0,c1⟩:=done (s:=t) (n:=10) hb (a:=b) (by omega) (by omega)
  simp only [h40,decide_true,if_true,e2,Option.bind_some]
  cases x
  ·have sl:slc r.Trace 0 40=some ((r.Trace.drop (0:Int).toNat).take ((40:Int).toNat - (0:Int).toNat)):=by unfold slc;rw [if_pos (by omega)]
   simp only [Bool.not_false,if_true,Qf6,sl,Option.bind_some]
   obtain ⟨l',a',s',q1,q2,q3,q4⟩:=Qz0 (s:=u) (l:=(r.Trace.drop (0:Int).toNat).take ((40:Int).toNat - (0:Int).toNat)) hb (a:=c) (by omega) (by omega)
   exact ⟨l',a',s',q1,by rw [q2];simp;omega,by omega,by omega⟩
  ·simp only [Bool.not_true,Bool.false_eq_true,if_false,Qf5]
   obtain ⟨l',a',s',q1,q2,q3,q4⟩:=Qz0 (s:=u) (l:=r.Trace) hb (a:=c) (by omega) (by omega)
   exact ⟨l',a',s',q1,by omega,by omega,by omega⟩
 ·simp only [h40,decide_false,Bool.false_eq_true,if_false,Qf1]
  obtain ⟨l',a',s',q1,q2,q3,q4⟩:=Qz0 (s:=t) (l:=r.Trace) hb (a:=b) (by omega) (by omega)
  exact ⟨l',a',s',q1,by omega,by omega,by omega⟩
theorem Xjs {cd:List Int} {a s:Int} (hb:Bys cd) (h0 : 0≤a) (h1:a≤10000000000) : ∃ l' a' s',Qf7 cd ⟨a,s⟩=some (l',⟨a',s'⟩)∧l'.length≤200∧a≤a'∧a'≤a+1000:=by
 obtain ⟨p,b,t,e1,p0,b0,b1⟩:=dprog (s:=s) hb h0 (by omega)
 obtain ⟨x,c,u,e2,c0,c1⟩:=done (s:=t) (n:=4) hb (a:=b) (by omega) (by omega)
 have pe:Qa9.mk p.Cells p.Locks p.Conds p.Routines=p:=rfl
 unfold Qf7
 simp only [e1,e2,pe,Option.bind_some]
 cases x
 ·simp only [Bool.false_eq_true,if_false]
  obtain ⟨l',a',s',q1,q2,q3,q4⟩:=Xdz (s:=u) hb (a:=c) (by omega) (by omega) p0.1 (by omega) (by omega)
  exact ⟨l',a',s',q1,q2,by omega,by omega⟩
 ·obtain ⟨p2,d,v,e3,p3,d0,d1⟩:=Xhr (s:=u) hb (a:=c) (by omega) (by omega)
  have pe2:Qa9.mk p2.Cells p2.Locks p2.Conds p2.Routines=p2:=rfl
  simp only [if_true,e3,pe2,Option.bind_some]
  obtain ⟨l',a',s',q1,q2,q3,q4⟩:=Xdz (s:=v) hb (a:=d) (by omega) (by omega) p3 (by omega) (by omega)
  exact ⟨l',a',s',q1,q2,by omega,by omega⟩
end Go.Proofs.Ytdmmaanagmacjaa
