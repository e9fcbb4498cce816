/- Plain facts for FnExactPreemptsIn; no condition. -/

import Derived.Test.YtemmdkcpcjidmaaGreatIS
set_option linter.unusedVariables false
set_option linter.unusedSimpArgs false
namespace Go.Proofs.YtemmdkcpcjidmaaGreat
open Go Go.T
def Xg0 (x:(List GOp)) : Prop:=x.length≤1048576
theorem Xot (x:(List GOp)) (g:x.length≤9223372036854775807) (l:Int) (h0 : 0≤l) (h1:l≤1048576) : ∃ r:Int,Qk7 x l=some r∧r≤l∧(0≤r→Xg0 x):=by
 rw [Qk7,Qh4 (by omega)]
 by_cases h:l - (x.length:Int)<0
 ·exact ⟨-1,by simp [h],by omega,fun h=>by omega⟩
 ·exact ⟨l - (x.length:Int),by simp [h],by omega,fun _=>by show x.length≤1048576;omega⟩
def Xcu (x:(List (List GOp))) : Prop:=x.length≤1048576∧∀ y∈x,Xg0 y
theorem Xly (x:(List (List GOp))) (g:x.length≤9223372036854775807∧∀ y0∈x,y0.length≤9223372036854775807∧∀ y1∈y0,Xac y1) (l:Int) (h0 : 0≤l) (h1:l≤1048576) : ∃ r:Int,Qkk x l=some r∧r≤l∧(0≤r→Xcu x):=by
 have g1:=g.1
 rw [Qkk,Qh4 (by omega)]
 by_cases h:l - (x.length:Int)<0
 ·exact ⟨-1,by simp [h],by omega,fun h=>by omega⟩
 ·have hd:decide (l - (x.length:Int)<0)=false:=by simp [h]
  simp only [PS,hd]
  obtain ⟨r,e1,e2,e3⟩:=szL (p:=x) (s:=Qk7) (small:=fun y=>Xg0 y) (F:=Qex x) (by intros;rw [Qex]) (by omega) (fun y hy l h0 h1=>Xot y ((g.2 y hy).1) l h0 h1) (l:=l - (x.length:Int)) (by omega) (by omega)
  exact ⟨r,e1,by omega,fun h=>⟨by omega,e3 h⟩⟩
def Xcp (x:Qaf) : Prop:=Xcu x.Routines
theorem Xmx (x:Qaf) (g:Qqk x) (l:Int) (h0 : 0≤l) (h1:l≤1048576) : ∃ r:Int,Qkr x l=some r∧r≤l∧(0≤r→Xcp x):=by
 rw [Qkr]
 obtain ⟨r0,a0,b0,c0⟩:=Xly x.Routines (g.2.2.2) l (by omega) (by omega)
 simp only [PS,a0]
 by_cases d0:r0<0
 ·exact ⟨-1,by simp [d0],by omega,fun h=>by omega⟩
 have q0:decide (r0<0)=false:=by simp [d0]
 simp only [PS,q0]
 exact ⟨r0,rfl,by omega,fun h=>c0 (by omega)⟩
def Qu0 (x:(List Qaa)) : Prop:=x.length≤1048576
theorem Xhc (x:(List Qaa)) (g:x.length≤9223372036854775807) (l:Int) (h0 : 0≤l) (h1:l≤1048576) : ∃ r:Int,Qib x l=some r∧r≤l∧(0≤r→Qu0 x):=by
 rw [Qib,Qh4 (by omega)]
 by_cases h:l - (x.length:Int)<0
 ·exact ⟨-1,by simp [h],by omega,fun h=>by omega⟩
 ·exact ⟨l - (x.length:Int),by simp [h],by omega,fun _=>by show x.length≤1048576;omega⟩
def Qz6 (x:(List Int)) : Prop:=x.length≤1048576
theorem Xh7 (x:(List Int)) (g:x.length≤9223372036854775807) (l:Int) (h0 : 0≤l) (h1:l≤1048576) : ∃ r:Int,Qiq x l=some r∧r≤l∧(0≤r→Qz6 x):=by
 rw [Qiq,Qh4 (by omega)]
 by_cases h:l - (x.length:Int)<0
 ·exact ⟨-1,by simp [h],by omega,fun h=>by omega⟩
 ·exact ⟨l - (x.length:Int),by simp [h],by omega,fun _=>by show x.length≤1048576;omega⟩
def Qlz (x:(List Nat)) : Prop:=x.length≤1048576
theorem Qvc (x:(List Nat)) (g:x.length≤9223372036854775807) (l:Int) (h0 : 0≤l) (h1:l≤1048576) : ∃ r:Int,Qf8 x l=some r∧r≤l∧(0≤r→Qlz x):=by
 rw [Qf8,Qh4 (by omega)]
 by_cases h:l - (x.length:Int)<0
 ·exact ⟨-1,by simp [h],by omega,fun h=>by omega⟩
 ·exact ⟨l - (x.length:Int),by simp [h],by omega,fun _=>by show x.length≤1048576;omega⟩
def Qr6 (x:Qa0) : Prop:=Qlz x.Stack
theorem Xfm (x:Qa0) (g:Qp7 x) (l:Int) (h0 : 0≤l) (h1:l≤1048576) : ∃ r:Int,Qgy x l=some r∧r≤l∧(0≤r→Qr6 x):=by
 rw [Qgy]
 obtain ⟨r0,a0,b0,c0⟩:=Qvc x.Stack ((g.2.2.2.2.2).1) l (by omega) (by omega)
 simp only [PS,a0]
 by_cases d0:r0<0
 ·exact ⟨-1,by simp [d0],by omega,fun h=>by omega⟩
 have q0:decide (r0<0)=false:=by simp [d0]
 simp only [PS,q0]
 exact ⟨r0,rfl,by omega,fun h=>c0 (by omega)⟩
def Qrc (x:(List Qa0)) : Prop:=x.length≤1048576∧∀ y∈x,Qr6 y
theorem Xd5 (x:(List Qa0)) (g:x.length≤9223372036854775807∧∀ y0∈x,Qp7 y0) (l:Int) (h0 : 0≤l) (h1:l≤1048576) : ∃ r:Int,Qh8 x l=some r∧r≤l∧(0≤r→Qrc x):=by
 have g1:=g.1
 rw [Qh8,Qh4 (by omega)]
 by_cases h:l - (x.length:Int)<0
 ·exact ⟨-1,by simp [h],by omega,fun h=>by omega⟩
 ·have hd:decide (l - (x.length:Int)<0)=false:=by simp [h]
  simp only [PS,hd]
  obtain ⟨r,e1,e2,e3⟩:=szL (p:=x) (s:=Qgy) (small:=fun y=>Qr6 y) (F:=Qdb x) (by intros;rw [Qdb]) (by omega) (fun y hy l h0 h1=>Xfm y (g.2 y hy) l h0 h1) (l:=l - (x.length:Int)) (by omega) (by omega)
  exact ⟨r,e1,by omega,fun h=>⟨by omega,e3 h⟩⟩
def Qv4 (x:Qa1) : Prop:=Qrc x.Threads∧Qlz x.Cells∧Qz6 x.Owner
theorem Xim (x:Qa1) (g:Qtw x) (l:Int) (h0 : 0≤l) (h1:l≤1048576) : ∃ r:Int,Qj4 x l=some r∧r≤l∧(0≤r→Qv4 x):=by
 rw [Qj4]
 obtain ⟨r0,a0,b0,c0⟩:=Xd5 x.Threads (g.1) l (by omega) (by omega)
 simp only [PS,a0]
 by_cases d0:r0<0
 ·exact ⟨-1,by simp [d0],by omega,fun h=>by omega⟩
 have q0:decide (r0<0)=false:=by simp [d0]
 simp only [PS,q0]
 obtain ⟨r1,a1,b1,c1⟩:=Qvc x.Cells ((g.2.1).1) r0 (by omega) (by omega)
 simp only [PS,a1]
 by_cases d1:r1<0
 ·exact ⟨-1,by simp [d1],by omega,fun h=>by omega⟩
 have q1:decide (r1<0)=false:=by simp [d1]
 simp only [PS,q1]
 obtain ⟨r2,a2,b2,c2⟩:=Xh7 x.Owner ((g.2.2.1).1) r1 (by omega) (by omega)
 simp only [PS,a2]
 by_cases d2:r2<0
 ·exact ⟨-1,by simp [d2],by omega,fun h=>by omega⟩
 have q2:decide (r2<0)=false:=by simp [d2]
 simp only [PS,q2]
 exact ⟨r2,rfl,by omega,fun h=>⟨c0 (by omega),c1 (by omega),c2 (by omega)⟩⟩
def Xfv (x:Qbi) : Prop:=Qu0 x.Trace∧Qz6 x.Picks∧Qv4 x.End
theorem Xpj (x:Qbi) (g:Qzk x) (l:Int) (h0 : 0≤l) (h1:l≤1048576) : ∃ r:Int,Qm7 x l=some r∧r≤l∧(0≤r→Xfv x):=by
 rw [Qm7]
 obtain ⟨r0,a0,b0,c0⟩:=Xhc x.Trace ((g.2.1).1) l (by omega) (by omega)
 simp only [PS,a0]
 by_cases d0:r0<0
 ·exact ⟨-1,by simp [d0],by omega,fun h=>by omega⟩
 have q0:decide (r0<0)=false:=by simp [d0]
 simp only [PS,q0]
 obtain ⟨r1,a1,b1,c1⟩:=Xh7 x.Picks ((g.2.2.1).1) r0 (by omega) (by omega)
 simp only [PS,a1]
 by_cases d1:r1<0
 ·exact ⟨-1,by simp [d1],by omega,fun h=>by omega⟩
 have q1:decide (r1<0)=false:=by simp [d1]
 simp only [PS,q1]
 obtain ⟨r2,a2,b2,c2⟩:=Xim x.End (g.2.2.2) r1 (by omega) (by omega)
 simp only [PS,a2]
 by_cases d2:r2<0
 ·exact ⟨-1,by simp [d2],by omega,fun h=>by omega⟩
 have q2:decide (r2<0)=false:=by simp [d2]
 simp only [PS,q2]
 exact ⟨r2,rfl,by omega,fun h=>⟨c0 (by omega),c1 (by omega),c2 (by omega)⟩⟩
theorem QtoOp (x:GOp) : Qp5 x=some x:=rfl
theorem Xon (x:(List GOp)) (h:Xg0 x) : Qke x=some x:=by
 have hl:x.length<1099511627776:=by have:=(show x.length≤1048576 from h);omega
 rw [Qke]
 exact toL (t:=Qp5) (by intros;rw [Qh2]) hl (fun y hy=>QtoOp y) _
theorem Xmm (x:(List (List GOp))) (h:Xcu x) : Qks x=some x:=by
 have hl:x.length<1099511627776:=by have:=h.1;omega
 rw [Qks]
 exact toL (t:=Qke) (by intros;rw [Qgb]) hl (fun y hy=>Xon y (h.2 y hy)) _
theorem Xko (x:Qaf) (h:Xcp x) : Qhk x=some x:=by
 rw [Qhk];simp only [PS,Xmm _ (h)]
theorem Xid (x:Qaa) : Qje x=some x:=rfl
theorem Xhb (x:(List Qaa)) (h:Qu0 x) : Qi0 x=some x:=by
 have hl:x.length<1099511627776:=by have:=(show x.length≤1048576 from h);omega
 rw [Qi0]
 exact toL (t:=Qje) (by intros;rw [Qea]) hl (fun y hy=>Xid y) _
theorem Xfr (x:(List Int)) (h:Qz6 x) : Qin x=some x:=by
 have hl:x.length<1099511627776:=by have:=(show x.length≤1048576 from h);omega
 rw [Qin]
 exact toLs (by intros;rw [Qga]) hl _
theorem Qvd (x:(List Nat)) (h:Qlz x) : Qf6 x=some x:=by
 have hl:x.length<1099511627776:=by have:=(show x.length≤1048576 from h);omega
 rw [Qf6]
 exact toLs (by intros;rw [Qdl]) hl _
theorem Xfp (x:Qa0) (h:Qr6 x) : Qgz x=some x:=by
 rw [Qgz];simp only [PS,Qvd _ (h)]
theorem Xd6 (x:(List Qa0)) (h:Qrc x) : Qha x=some x:=by
 have hl:x.length<1099511627776:=by have:=h.1;omega
 rw [Qha]
 exact toL (t:=Qgz) (by intros;rw [Qdz]) hl (fun y hy=>Xfp y (h.2 y hy)) _
theorem Xj5 (x:Qa1) (h:Qv4 x) : Qjn x=some x:=by
 rw [Qjn];simp only [PS,Xd6 _ (h.1),Qvd _ (h.2.1),Xfr _ (h.2.2)]
theorem Xnv (x:Qbi) (h:Xfv x) : Qih x=some x:=by
 rw [Qih];simp only [PS,Xhb _ (h.1),Xfr _ (h.2.1),Xj5 _ (h.2.2)]
theorem Xow (x:Nat) : Qew x x=some true:=by
 unfold Qew
 rcases Qrp x with h | h
 ·simp [h]
 ·unfold Qgx
  by_cases h0:Qci x 0=some .eq
  ·simp [h,h0]
  ·simp [h,h0]
theorem QeqOp (x:GOp) : Qm2 x x=some true:=by
 simp [Qm2,Xow]
theorem Xnp (x:(List GOp)) (h:Xg0 x) : Qkd x x=some true:=by
 have hl:x.length<1099511627776:=by have:=(show x.length≤1048576 from h);omega
 rw [Qkd];simp only [PS, ]
 exact eqL (e:=Qm2) (by intros;rw [Qh3]) hl (fun y hy=>QeqOp y)
theorem Xn0 (x:(List (List GOp))) (h:Xcu x) : Qkt x x=some true:=by
 have hl:x.length<1099511627776:=by have:=h.1;omega
 rw [Qkt];simp only [PS, ]
 exact eqL (e:=Qkd) (by intros;rw [Qg9]) hl (fun y hy=>Xnp y (h.2 y hy))
theorem Xmg (x:Qaf) (h:Xcp x) : Qkj x x=some true:=by
 simp [Qkj,Xn0 _ (h)]
theorem Xjj (x:Qaa) : Qhn x x=some true:=by
 simp [Qhn]
theorem Xev (x:(List Qaa)) (h:Qu0 x) : Qi9 x x=some true:=by
 have hl:x.length<1099511627776:=by have:=(show x.length≤1048576 from h);omega
 rw [Qi9];simp only [PS, ]
 exact eqL (e:=Qhn) (by intros;rw [Qeb]) hl (fun y hy=>Xjj y)
theorem Xh4 (x:(List Int)) (h:Qz6 x) : Qio x x=some true:=by
 have hl:x.length<1099511627776:=by have:=(show x.length≤1048576 from h);omega
 rw [Qio];simp only [PS, ]
 exact eqLs (by intros;rw [Qg2]) hl
theorem Quz (x:(List Nat)) (h:Qlz x) : Qf7 x x=some true:=by
 have hl:x.length<1099511627776:=by have:=(show x.length≤1048576 from h);omega
 rw [Qf7];simp only [PS, ]
 exact eqL (e:=Qew) (by intros;rw [Qdk]) hl (fun y _=>Xow y)
theorem Xfu (x:Qa0) (h:Qr6 x) : Qh1 x x=some true:=by
 simp [Qh1,Quz _ (h)]
theorem Xe5 (x:(List Qa0)) (h:Qrc x) : Qhe x x=some true:=by
 have hl:x.length<1099511627776:=by have:=h.1;omega
 rw [Qhe];simp only [PS, ]
 exact eqL (e:=Qh1) (by intros;rw [Qdy]) hl (fun y hy=>Xfu y (h.2 y hy))
theorem Xjh (x:Qa1) (h:Qv4 x) : Qj5 x x=some true:=by
 simp [Qj5,Xe5 _ (h.1),Quz _ (h.2.1),Xh4 _ (h.2.2)]
theorem Xp1 (x:Qbi) (h:Xfv x) : Qlu x x=some true:=by
 simp [Qlu,Xev _ (h.1),Xh4 _ (h.2.1),Xjh _ (h.2.2)]
theorem Qs4 (x0:Qaf) (x1:Qbi) (g0:Qqk x0) (g1:Qzk x1) (core : ∀ (sm0:Xcp x0),∀ (sm1:Xfv x1),∃ r:Int×Bool,Qgm x0 x1=some r∧Qgs x0 x1=some r) : Qd6 x0 x1=some true:=by
 rw [Qd6]
 obtain ⟨s0,z0,za0,zb0⟩:=Xmx x0 g0 1048576 (by omega) (by omega)
 simp only [PS,z0]
 by_cases hs0:s0<0
 ·simp [hs0]
 have hd0:decide (s0<0)=false:=by simp [hs0]
 simp only [PS,hd0]
 have sm0:=zb0 (by omega)
 obtain ⟨s1,z1,za1,zb1⟩:=Xpj x1 g1 s0 (by omega) (by omega)
 simp only [PS,z1]
 by_cases hs1:s1<0
 ·simp [hs1]
 have hd1:decide (s1<0)=false:=by simp [hs1]
 simp only [PS,hd1]
 have sm1:=zb1 (by omega)
 obtain ⟨r,e1,e2⟩:=core sm0 sm1
 simp only [PS,e1,e2,Xko x0 sm0,Xmg x0 sm0,Xnv x1 sm1,Xp1 x1 sm1,Qde]
end Go.Proofs.YtemmdkcpcjidmaaGreat
