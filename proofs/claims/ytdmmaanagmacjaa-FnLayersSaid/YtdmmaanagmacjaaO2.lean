/- Plain facts for FnLayers; no condition. -/

import Derived.Test.YtdmmaanagmacjaaO1
set_option linter.unusedVariables false
set_option linter.unusedSimpArgs false
namespace Go.Proofs.Ytdmmaanagmacjaa
open Go Go.T
def SP (p:Qa9) : Prop:=p.Routines.length≤1048576∧∀ r∈p.Routines,r.length≤1048576
def Qt0 (p:Qa9) : Bool:=inr p.Cells 0 4 && inr p.Locks 0 4 && inr p.Conds 0 2 && inr (p.Routines.length:Int) 1 4 && p.Routines.all (fun r=>decide (r.length≤24) && r.all (Qmi p r.length))
theorem Qq4 {p q:Qa9} {K:Qa9→Int→Option Bool} {v:Int} {x:List GOp} (hp:PB4 p) (hx:x.length≤1048576) (hw : ∀ o∈x,Xau o) (hlong:x.length≤24) : ∀ (n k:Nat),k≤x.length→x.length<n+k →
  Qc0 K q v x n p k=if (x.drop k).all (Qmi p x.length) then K p (w64 (v+1)) else some false
 | 0,k,h1,h2=>by omega
 | n+1,k,h1,h2=>by
  rw [Qc0]
  by_cases hk:k<x.length
  ·have ho:=hw _ (List.getElem_mem hk)
   rw [List.drop_eq_getElem_cons hk,List.all_cons]
   simp only [PS,hk,Qdn hk,Qff (k:=k) (by omega),Xhi hp (long:=(x.length:Int)) ⟨by omega,by omega⟩ ho.2.2.2,Qq4 hp hx hw hlong n (k+1) hk (by omega)]
   cases Qmi p x.length x[k] <;> simp
  ·have:k=x.length:=by omega
   subst this
   have : ¬ (x.length:Int) > 24:=by omega
   simp [this]
theorem Qo2 {p q:Qa9} {K:Qa9→Int→Option Bool} {v:Int} {x:List GOp} (hx:x.length≤1048576) (hlong : 24<x.length) (hs : ∀ o∈x,∃ b,Qhu p x.length o=some b) : ∀ (n k:Nat),k≤x.length→x.length<n+k →
  Qc0 K q v x n p k=some false
 | 0,k,h1,h2=>by omega
 | n+1,k,h1,h2=>by
  rw [Qc0]
  by_cases hk:k<x.length
  ·obtain ⟨b,hb⟩:=hs _ (List.getElem_mem hk)
   simp only [PS,hk,Qdn hk,Qff (k:=k) (by omega),hb,Qo2 hx hlong hs n (k+1) hk (by omega)]
   cases b <;> simp
  ·have:k=x.length:=by omega
   subst this
   have:(x.length:Int) > 24:=by omega
   simp [this]
theorem Xj5 {c:Prop} [Decidable c] {α:Type} {x y:Option α} (hx : ∃ b,x=some b) (hy : ∃ b,y=some b) : ∃ b,(if c then x else y)=some b:=by split <;> assumption
theorem Qwb {p:Qa9} {long:Int} {o:GOp} (hv:o.V<18446744073709551616) : ∃ b,Qhu p long o=some b:=by
 have hu : ∃ s,Qgg o.Code=some s:=by
  unfold Qgg Qbi
  repeat' first | exact ⟨_,rfl⟩ | apply Xj5
 obtain ⟨s,hs⟩:=hu
 have hpl : ∃ b,Qgm o=some b:=by
  unfold Qgm Qfv
  simp only [hs,Qgk,Option.bind_some,Qtu hv]
  repeat' first | exact ⟨_,rfl⟩ | apply Xj5
 obtain ⟨b,hb⟩:=hpl
 unfold Qhu Qgj Qgn Qgl
 simp only [hb,Option.bind_some]
 repeat' first | exact ⟨_,rfl⟩ | apply Xj5
theorem Qq0 {p:Qa9} (hp:PB4 p) (sm:SP p) (hw : ∀ r∈p.Routines,∀ o∈r,Xau o) : ∀ (n k:Nat),k≤p.Routines.length→p.Routines.length<n+k →
  Qd3 p n p k=some ((p.Routines.drop k).all (fun r=>decide (r.length≤24) && r.all (Qmi p r.length)))
 | 0,k,h1,h2=>by omega
 | n+1,k,h1,h2=>by
  rw [Qd3]
  have hpl:=hp.2.2.2.2
  by_cases hk:k<p.Routines.length
  ·have hm:=List.getElem_mem hk
   have hx:p.Routines[k].length≤1048576:=sm.2 _ hm
   rw [List.drop_eq_getElem_cons hk,List.all_cons]
   simp only [PS,hk,Qdn hk]
   rw [show (0:Int)=((0:Nat) : Int) from rfl]
   by_cases hl:p.Routines[k].length≤24
   ·rw [Qq4 hp hx (hw _ hm) hl FU 0 (by omega) (by have:=Qeg (n:=p.Routines[k].length) (by omega);omega),Qff (k:=k) (by omega),Qq0 hp sm hw n (k+1) hk (by omega),List.drop_zero]
    cases p.Routines[k].all (Qmi p p.Routines[k].length) <;> simp [hl]
   ·rw [Qo2 hx (by omega) (fun o ho=>Qwb (hw _ hm o ho).2.2.2) FU 0 (by omega) (by have:=Qeg (n:=p.Routines[k].length) (by omega);omega)]
    simp [hl]
  ·have:k=p.Routines.length:=by omega
   subst this
   simp
theorem Xky {p:Qa9} (g:Qvw p) : ∀ r∈p.Routines,∀ o∈r,Xau o:=fun r hr o ho=>(g.2.2.2.2 r hr).2 o ho
theorem Qvy {p:Qa9} (sm:SP p) (g:Qvw p) : Qh4 p=some (Qt0 p):=by
 rw [Qh4]
 unfold Qt0
 simp only [Qgk,Option.bind_some]
 cases h1:inr p.Cells 0 4
 ·simp
 cases h2:inr p.Locks 0 4
 ·simp
 cases h3:inr p.Conds 0 2
 ·simp
 cases h4:inr (p.Routines.length:Int) 1 4
 ·simp
 have hp:PB4 p:=⟨Qcm.1 h1,Qcm.1 h2,Qcm.1 h3,by have:=Qcm.1 h4;omega⟩
 have:=Qq0 hp sm (Xky g) FU 0 (by omega) (by have:=Qeg (n:=p.Routines.length) (by have:=hp.2.2.2.2;omega);omega)
 rw [List.drop_zero] at this
 simpa using this
end Go.Proofs.Ytdmmaanagmacjaa
