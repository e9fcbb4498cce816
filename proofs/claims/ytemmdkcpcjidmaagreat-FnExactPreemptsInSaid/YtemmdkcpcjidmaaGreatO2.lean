/- Plain facts for FnExactPreemptsIn; no condition. -/

import Derived.Test.YtemmdkcpcjidmaaGreatO1
set_option linter.unusedVariables false
set_option linter.unusedSimpArgs false
namespace Go.Proofs.YtemmdkcpcjidmaaGreat
open Go Go.T
theorem Xl1 {p:Qaf} {long:Int} {o:GOp} (hp:PB4 p) (hl : 0≤long∧long≤24) : Qfy p o long=some (Ql5 p long o):=by
 obtain ⟨⟨c1,c2⟩,⟨c3,c4⟩,⟨c5,c6⟩,c7,c8⟩:=hp
 obtain ⟨l1,l2⟩:=hl
 obtain ⟨c,a,b,v⟩:=o
 have w1:w64 (p.Cells - 1)=p.Cells - 1:=Qh4 (by omega)
 have w2:w64 (p.Locks - 1)=p.Locks - 1:=Qh4 (by omega)
 have w3:w64 (p.Conds - 1)=p.Conds - 1:=Qh4 (by omega)
 have w4:w64 ((p.Routines.length:Int) - 1)=(p.Routines.length:Int) - 1:=Qh4 (by omega)
 unfold Qfy Qla Ql5
 simp only [Qm5,Option.bind_some]
 by_cases hc : 1≤c∧c≤17
 ·have hc':inr c 1 17=true:=Qcm.2 hc
  have:c=1∨c=2∨c=3∨c=4∨c=5∨c=6∨c=7∨c=8∨c=9∨c=10∨c=11∨c=12∨c=13∨c=14∨c=15∨c=16∨c=17:=by omega
  rcases this with rfl | rfl | rfl | rfl | rfl | rfl | rfl | rfl | rfl | rfl | rfl | rfl | rfl | rfl | rfl | rfl | rfl
  all_goals simp [Qi3,Qbo,Xda,Qm5,Qe1,Qe2,Qe4,hc',w1,w2,w3,w4]
  all_goals (by_cases hv0:v=0 <;> by_cases ha0:a=0 <;> by_cases hb0:b=0)
  all_goals first
   | (simp [hv0,ha0,hb0];done)
   | (simp [hv0,ha0,hb0,inr];done)
   | (cases inr a 0 (p.Conds - 1) <;> simp [hv0,ha0,hb0];done)
   | (subst ha0;cases inr 0 0 (p.Conds - 1) <;> simp [hv0,hb0];done)
   | (subst hb0;cases inr a 0 (p.Conds - 1) <;> simp [hv0,ha0];done)
 ·have hc':inr c 1 17=false:=by
   cases h:inr c 1 17
   ·rfl
   ·exact absurd (Qcm.1 h) hc
  have h1:c≠1:=by omega
  have h2:c≠2:=by omega
  have h3:c≠3:=by omega
  have h10:c≠10:=by omega
  have h11:c≠11:=by omega
  have h12:c≠12:=by omega
  have h13:c≠13:=by omega
  have h14:c≠14:=by omega
  have h16:c≠16:=by omega
  have h17:c≠17:=by omega
  simp [Qi3,Qbo,hc',h1,h2,h3,h10,h11,h12,h13,h14,h16,h17]
def SP (p:Qaf) : Prop:=p.Routines.length≤1048576∧∀ r∈p.Routines,r.length≤1048576
def Qjy (p:Qaf) : Bool:=inr p.Cells 0 4 && inr p.Locks 0 4 && inr p.Conds 0 2 && inr (p.Routines.length:Int) 1 4 && p.Routines.all (fun r=>decide (r.length≤24) && r.all (Ql5 p r.length))
theorem Qsz {p q:Qaf} {K:Qaf→Int→Option Bool} {v:Int} {x:List GOp} (hp:PB4 p) (hx:x.length≤1048576) (hw : ∀ o∈x,Xac o) (hlong:x.length≤24) : ∀ (n k:Nat),k≤x.length→x.length<n+k →
  Qcj K q v x n p k=if (x.drop k).all (Ql5 p x.length) then K p (w64 (v+1)) else some false
 | 0,k,h1,h2=>by omega
 | n+1,k,h1,h2=>by
  rw [Qcj]
  by_cases hk:k<x.length
  ·have ho:=hw _ (List.getElem_mem hk)
   rw [List.drop_eq_getElem_cons hk,List.all_cons]
   simp only [PS,hk,Qfs hk,Qik (k:=k) (by omega),Xkv hp (long:=(x.length:Int)) ⟨by omega,by omega⟩ ho.2.2.2,Qsz hp hx hw hlong n (k+1) hk (by omega)]
   cases Ql5 p x.length x[k] <;> simp
  ·have:k=x.length:=by omega
   subst this
   have : ¬ (x.length:Int) > 24:=by omega
   simp [this]
theorem Qrw {p q:Qaf} {K:Qaf→Int→Option Bool} {v:Int} {x:List GOp} (hx:x.length≤1048576) (hlong : 24<x.length) (hs : ∀ o∈x,∃ b,Qjg p x.length o=some b) : ∀ (n k:Nat),k≤x.length→x.length<n+k →
  Qcj K q v x n p k=some false
 | 0,k,h1,h2=>by omega
 | n+1,k,h1,h2=>by
  rw [Qcj]
  by_cases hk:k<x.length
  ·obtain ⟨b,hb⟩:=hs _ (List.getElem_mem hk)
   simp only [PS,hk,Qfs hk,Qik (k:=k) (by omega),hb,Qrw hx hlong hs n (k+1) hk (by omega)]
   cases b <;> simp
  ·have:k=x.length:=by omega
   subst this
   have:(x.length:Int) > 24:=by omega
   simp [this]
theorem Xms {c:Prop} [Decidable c] {α:Type} {x y:Option α} (hx : ∃ b,x=some b) (hy : ∃ b,y=some b) : ∃ b,(if c then x else y)=some b:=by split <;> assumption
theorem Qzl {p:Qaf} {long:Int} {o:GOp} (hv:o.V<18446744073709551616) : ∃ b,Qjg p long o=some b:=by
 have hu : ∃ s,Qhj o.Code=some s:=by
  unfold Qhj Qbx
  repeat' first | exact ⟨_,rfl⟩ | apply Xms
 obtain ⟨s,hs⟩:=hu
 have hpl : ∃ b,Qhm o=some b:=by
  unfold Qhm Qgq
  simp only [hs,Qkc,Option.bind_some,Qx1 hv]
  repeat' first | exact ⟨_,rfl⟩ | apply Xms
 obtain ⟨b,hb⟩:=hpl
 unfold Qjg Qhp Qhr Qhu
 simp only [hb,Option.bind_some]
 repeat' first | exact ⟨_,rfl⟩ | apply Xms
theorem Qtb {p:Qaf} (hp:PB4 p) (sm:SP p) (hw : ∀ r∈p.Routines,∀ o∈r,Xac o) : ∀ (n k:Nat),k≤p.Routines.length→p.Routines.length<n+k →
  Qdp p n p k=some ((p.Routines.drop k).all (fun r=>decide (r.length≤24) && r.all (Ql5 p r.length)))
 | 0,k,h1,h2=>by omega
 | n+1,k,h1,h2=>by
  rw [Qdp]
  have hpl:=hp.2.2.2.2
  by_cases hk:k<p.Routines.length
  ·have hm:=List.getElem_mem hk
   have hx:p.Routines[k].length≤1048576:=sm.2 _ hm
   rw [List.drop_eq_getElem_cons hk,List.all_cons]
   simp only [PS,hk,Qfs hk]
   rw [show (0:Int)=((0:Nat) : Int) from rfl]
   by_cases hl:p.Routines[k].length≤24
   ·rw [Qsz hp hx (hw _ hm) hl FU 0 (by omega) (by have:=Qip (n:=p.Routines[k].length) (by omega);omega),Qik (k:=k) (by omega),Qtb hp sm hw n (k+1) hk (by omega),List.drop_zero]
    cases p.Routines[k].all (Ql5 p p.Routines[k].length) <;> simp [hl]
   ·rw [Qrw hx (by omega) (fun o ho=>Qzl (hw _ hm o ho).2.2.2) FU 0 (by omega) (by have:=Qip (n:=p.Routines[k].length) (by omega);omega)]
    simp [hl]
  ·have:k=p.Routines.length:=by omega
   subst this
   simp
theorem Qt6 {p:Qaf} (hp:PB4 p) (sm:SP p) : ∀ (n k:Nat),k≤p.Routines.length→p.Routines.length<n+k →
  Qdn p n p k=some ((p.Routines.drop k).all (fun r=>decide (r.length≤24) && r.all (Ql5 p r.length)))
 | 0,k,h1,h2=>by omega
 | n+1,k,h1,h2=>by
  rw [Qdn]
  have hpl:=hp.2.2.2.2
  by_cases hk:k<p.Routines.length
  ·have hm:=List.getElem_mem hk
   have hx:p.Routines[k].length≤1048576:=sm.2 _ hm
   rw [List.drop_eq_getElem_cons hk,List.all_cons]
   by_cases hl:p.Routines[k].length≤24
   ·have hl' : ¬ (p.Routines[k].length:Int) > 24:=by omega
    obtain ⟨r,e1,e2⟩:=Xmh (p:=p.Routines[k]) (t:=fun o=>Qgk o p p.Routines[k]) (q:=fun o => !Ql5 p p.Routines[k].length o) (F:=fun n=>Qap p.Routines[k] p p.Routines[k] n) (by intros;rw [Qap]) (by omega) (fun o _=>by rw [Qgk,Xl1 hp ⟨by omega,by omega⟩];rfl)
    have e3:Qb3 p.Routines[k] p p.Routines[k]=some (!p.Routines[k].all (Ql5 p p.Routines[k].length)):=by
     rw [Qb3,Qbl,e1]
     simp only [PS,e2]
     rw [List.not_all_eq_any_not]
    simp only [PS,hk,Qfs hk,e3,Qik (k:=k) (by omega),Qt6 hp sm n (k+1) hk (by omega)]
    cases p.Routines[k].all (Ql5 p p.Routines[k].length) <;> simp [hl,hl']
   ·have hl':(p.Routines[k].length:Int) > 24:=by omega
    simp only [PS,hk,Qfs hk]
    simp [hl,hl']
  ·have:k=p.Routines.length:=by omega
   subst this
   simp
theorem Xno {p:Qaf} (g:Qqk p) : ∀ r∈p.Routines,∀ o∈r,Xac o:=fun r hr o ho=>(g.2.2.2.2 r hr).2 o ho
theorem Qy7 {p:Qaf} (sm:SP p) (g:Qqk p) : Qi6 p=some (Qjy p):=by
 rw [Qi6]
 unfold Qjy
 simp only [Qkc,Option.bind_some]
 cases h1:inr p.Cells 0 4
 ·simp
 cases h2:inr p.Locks 0 4
 ·simp
 cases h3:inr p.Conds 0 2
 ·simp
 cases h4:inr (p.Routines.length:Int) 1 4
 ·simp
 have hp:PB4 p:=⟨Qcm.1 h1,Qcm.1 h2,Qcm.1 h3,by have:=Qcm.1 h4;omega⟩
 have:=Qtb hp sm (Xno g) FU 0 (by omega) (by have:=Qip (n:=p.Routines.length) (by have:=hp.2.2.2.2;omega);omega)
 rw [List.drop_zero] at this
 simpa using this
theorem Qyt {p:Qaf} (sm:SP p) : Qft p=some (Qjy p):=by
 rw [Qft]
 unfold Qjy
 simp only [Qm5,Option.bind_some]
 cases h1:inr p.Cells 0 4
 ·simp
 cases h2:inr p.Locks 0 4
 ·simp
 cases h3:inr p.Conds 0 2
 ·simp
 cases h4:inr (p.Routines.length:Int) 1 4
 ·simp
 have hp:PB4 p:=⟨Qcm.1 h1,Qcm.1 h2,Qcm.1 h3,by have:=Qcm.1 h4;omega⟩
 have:=Qt6 hp sm FU 0 (by omega) (by have:=Qip (n:=p.Routines.length) (by have:=hp.2.2.2.2;omega);omega)
 rw [List.drop_zero] at this
 simpa using this
end Go.Proofs.YtemmdkcpcjidmaaGreat
