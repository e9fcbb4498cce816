/- Plain facts for FnLayers; no condition. -/

import Derived.Test.YtdmmaanagmacjaaPT
set_option linter.unusedVariables false
set_option linter.unusedSimpArgs false
namespace Go.Proofs.Ytdmmaanagmacjaa
open Go Go.T
theorem DRu64 (n:Int) (h : 0≤n∧n<18446744073709551616) : IntKind.u64.wrap n=n:=by
 unfold IntKind.wrap
 simp [IntKind.bits,IntKind.signed]
 omega
theorem Xjg {n:Int} (h : -9223372036854775808≤n∧n<9223372036854775808) : (Lit.int .i64 n).wf=true:=by
 have a:IntKind.i64.min = -9223372036854775808:=by decide
 have b:IntKind.i64.max=9223372036854775807:=by decide
 simp only [Lit.wf,a,b]
 simp
 omega
def Bys (cd:List Int) : Prop:=cd.length≤1048576∧∀ x∈cd,0≤x∧x<256
theorem Xlh (n:Int) : 0≤Xbn .u64 n 255∧Xbn .u64 n 255<256:=by
 unfold Xbn
 have h2:(BitVec.ofInt IntKind.u64.bits n &&& BitVec.ofInt IntKind.u64.bits 255).toNat≤255:=by
  rw [BitVec.toNat_and]
  exact Nat.le_trans Nat.and_le_right (by decide)
 rw [DRu64 _ (by omega)]
 omega
theorem Xc3 {cd:List Int} {a s:Int} (hb:Bys cd) (h0 : 0≤a) (h1:a≤1099511627776) : ∃ x s',Qer cd ⟨a,s⟩=some (x,⟨a+1,s'⟩)∧0≤x∧x<256:=by
 have w1:w64 (a+1)=a+1:=Qdl (by omega)
 have j : ∀ v:Int,0≤v→v<256→∃ x s',Qcy cd ⟨a,s⟩ v=some (x,⟨a+1,s'⟩)∧0≤x∧x<256:=by
  intro v hv hv'
  unfold Qcy
  simp only [w1]
  split
  ·exact ⟨_,_,rfl,hv,hv'⟩
  ·have:=Xlh (Int.fdiv (IntKind.wrap .u64 ((IntKind.wrap .u64 ((IntKind.wrap .u64 (s * 6364136223846793005))+(IntKind.wrap .u64 v)))+1442695040888963407)) (2 ^ (min (Int.toNat 40) 64)))
   refine ⟨_,_,rfl,?_⟩
   rw [Qdl (by omega)]
   exact this
 unfold Qer
 by_cases hl:a<(cd.length:Int)
 ·obtain ⟨k,rfl⟩ : ∃ k:Nat,a=k:=⟨a.toNat,by omega⟩
  have hk:k<cd.length:=by omega
  have hx:=hb.2 _ (List.getElem_mem hk)
  have d:decide ((k:Int)<(cd.length:Int))=true:=by simp;omega
  simp only [d,if_true,Qdn hk,Option.bind_some]
  rw [Qdl (by omega)]
  exact j _ hx.1 hx.2
 ·have d:decide (a<(cd.length:Int))=false:=by simp;omega
  simp only [d,Bool.false_eq_true,if_false]
  exact j 0 (by omega) (by omega)
theorem dpk {cd:List Int} {a s n:Int} (hb:Bys cd) (h0 : 0≤a) (h1:a≤1000000000000) : ∃ x a' s',Qai cd ⟨a,s⟩ n=some (x,⟨a',s'⟩)∧0≤x∧(0<n→x<n)∧a≤a'∧a'≤a+2:=by
 unfold Qai
 by_cases hn:n≤1
 ·simp only [hn,decide_true,if_true]
  exact ⟨0,a,s,rfl,by omega,by omega,by omega,by omega⟩
 ·obtain ⟨x,s1,e1,x0,x1⟩:=Xc3 (s:=s) hb h0 (by omega)
  have nn:nz n=some ():=by unfold nz;rw [if_neg (by omega)]
  simp only [hn,decide_false,Bool.false_eq_true,if_false,e1,Option.bind_some,nn]
  by_cases h2:n > 200
  ·obtain ⟨y,s2,e2,y0,y1⟩:=Xc3 (s:=s1) hb (a:=a+1) (by omega) (by omega)
   simp only [h2,decide_true,if_true,e2,Option.bind_some]
   rw [Qdl (n:=x * 256) (by omega),Qdl (by omega)]
   exact ⟨_,_,_,rfl,Int.tmod_nonneg _ (by omega),fun _=>Int.tmod_lt_of_pos _ (by omega),by omega,by omega⟩
  ·simp only [h2,decide_false,Bool.false_eq_true,if_false]
   exact ⟨_,_,_,rfl,Int.tmod_nonneg _ (by omega),fun _=>Int.tmod_lt_of_pos _ (by omega),by omega,by omega⟩
theorem done {cd:List Int} {a s n:Int} (hb:Bys cd) (h0 : 0≤a) (h1:a≤1000000000000) : ∃ b a' s',Qbh cd ⟨a,s⟩ n=some (b,⟨a',s'⟩)∧a≤a'∧a'≤a+2:=by
 obtain ⟨x,a',s',e,_,_,h2,h3⟩:=dpk (s:=s) (n:=n) hb h0 h1
 unfold Qbh
 simp only [e,Option.bind_some]
 exact ⟨_,_,_,rfl,h2,h3⟩
theorem Qwo {cd:List Int} {a s:Int} {l:List Int} (hb:Bys cd) (h0 : 0≤a) (h1:a≤1000000000000) (hl : 0<l.length) : ∃ x a' s',Qbz cd ⟨a,s⟩ l=some (x,⟨a',s'⟩)∧x∈l∧a≤a'∧a'≤a+2:=by
 obtain ⟨x,a',s',e,x0,x1,h2,h3⟩:=dpk (s:=s) (n:=(l.length:Int)) hb h0 h1
 have hx:=x1 (by omega)
 obtain ⟨k,rfl⟩ : ∃ k:Nat,x=k:=⟨x.toNat,by omega⟩
 have hk:k<l.length:=by omega
 unfold Qbz
 simp only [e,Option.bind_some,Qdn hk]
 exact ⟨_,_,_,rfl,List.getElem_mem hk,h2,h3⟩
theorem Qzd : ∀ (n m:Nat) (v:Nat) (k:Int),v<18446744073709551616→k = -(m:Int)∨(m=0∧0≤k)→m≤1000000→m<n→∃ r,Qd4 n v k=some r∧r<18446744073709551616
 | 0,m,v,k,hv,hk,hm,hn=>by omega
 | n+1,m,v,k,hv,hk,hm,hn=>by
  rw [Qd4]
  by_cases h:k<0
  ·simp only [h,decide_true,if_true]
   rw [Qdl (by omega)]
   exact Qzd n (m - 1) _ _ (Qx2 _ _) (by omega) (by omega) (by omega)
  ·simp only [h,decide_false,Bool.false_eq_true,if_false]
   exact ⟨_,rfl,hv⟩
theorem Xae : ∀ (n m:Nat) (v:Nat) (k:Int),v<18446744073709551616→k≤(m:Int) → -1000000≤k→m≤1000000→m<n→∃ r,Qd1 n v k=some r∧r<18446744073709551616
 | 0,m,v,k,hv,hk,hk2,hm,hn=>by omega
 | n+1,m,v,k,hv,hk,hk2,hm,hn=>by
  rw [Qd1]
  by_cases h:k > 0
  ·simp only [h,decide_true,if_true]
   rw [Qdl (by omega)]
   exact Xae n (m - 1) _ _ (Xgn _ _) (by omega) (by omega) (by omega) (by omega)
  ·simp only [h,decide_false,Bool.false_eq_true,if_false]
   exact Qzd FU k.natAbs v k hv (by omega) (by omega) (Qeg (by omega))
theorem Xcn {v:Nat} {k:Int} (hv:v<18446744073709551616) (h0 : -5000≤k) (h1:k≤5000) : ∃ r,Qg0 v k=some r∧r<18446744073709551616:=by
 unfold Qg0
 exact Xae FU k.toNat v k hv (by omega) (by omega) (by omega) (Qeg (by omega))
theorem Xgz {v:Nat} (h:v<18446744073709551616) : fng v<18446744073709551616:=by
 unfold fng
 exact Nat.xor_lt_two_pow (n:=64) h (by decide)
theorem Xjc (n:Int) : fOf n<18446744073709551616:=by
 have:=FloatKind.f64.format.write_lt (.number (n<0) n.natAbs 0)
 rw [Xl2] at this
 exact this
theorem dnum {cd:List Int} {a s:Int} (hb:Bys cd) (h0 : 0≤a) (h1:a≤900000000000) : ∃ v a' s',Qee cd ⟨a,s⟩=some (v,⟨a',s'⟩)∧v<18446744073709551616∧a≤a'∧a'≤a+8:=by
 obtain ⟨x,b,t,e,x0,x1,b0,b1⟩:=dpk (s:=s) (n:=12) hb h0 (by omega)
 unfold Qee
 simp only [e,Option.bind_some]
 split
 ·exact ⟨_,_,_,rfl,Qx2 _ _,b0,by omega⟩
 split
 ·exact ⟨_,_,_,rfl,Qx2 _ _,b0,by omega⟩
 split
 ·exact ⟨_,_,_,rfl,Qx2 _ _,b0,by omega⟩
 split
 ·exact ⟨_,_,_,rfl,Xgz (by omega),b0,by omega⟩
 split
 ·obtain ⟨y,c,u,e2,y0,y1,c0,c1⟩:=dpk (s:=t) (n:=9) hb (a:=b) (by omega) (by omega)
  obtain ⟨z,d,v,e3,hz,d0,d1⟩:=Qwo (s:=u) (l:=[(-1074),(-1070),(-1022),1019,1020,(-3),52]) hb (a:=c) (by omega) (by omega) (by simp)
  have hz' : -5000≤z∧z≤5000:=by
   simp only [List.mem_cons,List.not_mem_nil,or_false] at hz
   omega
  obtain ⟨r,e4,hr⟩:=Xcn (v:=fad 4607182418800017408 (fOf y)) (Xdk _ _) hz'.1 hz'.2
  simp only [e2,e3,e4,Option.bind_some]
  exact ⟨_,_,_,rfl,hr,by omega,by omega⟩
 split
 ·obtain ⟨y,c,u,e2,y0,y1,c0,c1⟩:=dpk (s:=t) (n:=99) hb (a:=b) (by omega) (by omega)
  obtain ⟨z,d,v,e3,z0,z1,d0,d1⟩:=dpk (s:=u) (n:=9) hb (a:=c) (by omega) (by omega)
  have hz:=z1 (by omega)
  have w:w64 (z - 4)=z - 4:=Qdl (by omega)
  obtain ⟨r,e4,hr⟩:=Xcn (v:=fad 4607182418800017408 (fOf y)) (k:=z - 4) (Xdk _ _) (by omega) (by omega)
  simp only [e2,e3,w,e4,Option.bind_some]
  exact ⟨_,_,_,rfl,Xgz hr,by omega,by omega⟩
 ·obtain ⟨y,c,u,e2,y0,y1,c0,c1⟩:=dpk (s:=t) (n:=5) hb (a:=b) (by omega) (by omega)
  simp only [e2,Option.bind_some]
  exact ⟨_,_,_,rfl,Xjc _,by omega,by omega⟩
def Qwu (n:Nat) (l:List GOp) : Prop:=l.length≤n∧∀ o∈l,Xau o
theorem wfO {c a b:Int} {v:Nat} (h1 : -9223372036854775808≤c∧c<9223372036854775808) (h2 : -9223372036854775808≤a∧a<9223372036854775808) (h3 : -9223372036854775808≤b∧b<9223372036854775808) (h4:v<18446744073709551616) : Xau ⟨c,a,b,v⟩:=
 ⟨Xjg h1,Xjg h2,Xjg h3,h4⟩
theorem Xi0 {cd:List Int} {a s x:Int} (hb:Bys cd) (h0 : 0≤a) (h1:a≤800000000000) (hx0 : 0≤x) (hx1:x<100) : ∃ l a' s',Qdo cd ⟨a,s⟩ x=some (l,⟨a',s'⟩)∧Qwu 6 l∧a≤a'∧a'≤a+12:=by
 obtain ⟨y,b,t,e,y0,y1,b0,b1⟩:=dpk (s:=s) (n:=8) hb h0 (by omega)
 have R : ∀ l:List GOp,l.length≤6→(∀ o∈l,(-9223372036854775808≤o.Code∧o.Code<9223372036854775808)∧(-9223372036854775808≤o.A∧o.A<9223372036854775808)∧(-9223372036854775808≤o.B∧o.B<9223372036854775808)∧o.V<18446744073709551616)→Qwu 6 l:=fun l h1 h2=>⟨h1,fun o ho=>by obtain ⟨p1,p2,p3,p4⟩:=h2 o ho;exact wfO p1 p2 p3 p4⟩
 unfold Qdo
 simp only [e,Option.bind_some]
 split
 ·refine ⟨_,_,_,rfl,R _ (by simp) ?_,by omega,by omega⟩
  simp only [List.forall_mem_cons,List.not_mem_nil,false_implies,implies_true,and_true]
  omega
 split
 ·refine ⟨_,_,_,rfl,R _ (by simp) ?_,by omega,by omega⟩
  simp only [List.forall_mem_cons,List.not_mem_nil,false_implies,implies_true,and_true]
  omega
 split
 ·refine ⟨_,_,_,rfl,R _ (by simp) ?_,by omega,by omega⟩
  simp only [List.forall_mem_cons,List.not_mem_nil,false_implies,implies_true,and_true]
  omega
 split
 ·refine ⟨_,_,_,rfl,R _ (by simp) ?_,by omega,by omega⟩
  simp only [List.forall_mem_cons,List.not_mem_nil,false_implies,implies_true,and_true]
  omega
 split
 ·refine ⟨_,_,_,rfl,R _ (by simp) ?_,by omega,by omega⟩
  simp only [List.forall_mem_cons,List.not_mem_nil,false_implies,implies_true,and_true]
  omega
 split
 ·obtain ⟨v,c,u,e2,v0,c0,c1⟩:=dnum (s:=t) hb (a:=b) (by omega) (by omega)
  obtain ⟨z,d,w,e3,hz,d0,d1⟩:=Qwo (s:=u) (l:=[4,5,6,7,8,9]) hb (a:=c) (by omega) (by omega) (by simp)
  have hz' : 4≤z∧z≤9:=by
   simp only [List.mem_cons,List.not_mem_nil,or_false] at hz
   omega
  simp only [e2,e3,Option.bind_some]
  refine ⟨_,_,_,rfl,R _ (by simp) ?_,by omega,by omega⟩
  simp only [List.forall_mem_cons,List.not_mem_nil,false_implies,implies_true,and_true]
  omega
 split
 ·obtain ⟨v,c,u,e2,v0,c0,c1⟩:=dnum (s:=t) hb (a:=b) (by omega) (by omega)
  simp only [e2,Option.bind_some]
  refine ⟨_,_,_,rfl,R _ (by simp) ?_,by omega,by omega⟩
  simp only [List.forall_mem_cons,List.not_mem_nil,false_implies,implies_true,and_true]
  omega
 ·have h2 : 0≤Int.tmod x 2:=Int.tmod_nonneg _ hx0
  have h3:Int.tmod x 2<2:=Int.tmod_lt_of_pos _ (by omega)
  have w:w64 (1 - Int.tmod x 2)=1 - Int.tmod x 2:=Qdl (by omega)
  simp only [w]
  refine ⟨_,_,_,rfl,R _ (by simp) ?_,by omega,by omega⟩
  simp only [List.forall_mem_cons,List.not_mem_nil,false_implies,implies_true,and_true]
  omega
end Go.Proofs.Ytdmmaanagmacjaa
