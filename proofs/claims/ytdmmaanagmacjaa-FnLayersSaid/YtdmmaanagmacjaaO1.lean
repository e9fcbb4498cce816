/- Plain facts for FnLayers; no condition. -/

import Derived.Test.YtdmmaanagmacjaaTIX
set_option linter.unusedVariables false
set_option linter.unusedSimpArgs false
namespace Go.Proofs.Ytdmmaanagmacjaa
open Go Go.T
def Qmi (p:Qa9) (long:Int) (o:GOp) : Bool:=
  if o.Code=1 then decide (o.A=0) && decide (o.B=0)
  else decide (o.V=0) && (
    if o.Code=2∨o.Code=3 then inr o.A 0 (p.Cells - 1) && decide (o.B=0)
    else if o.Code=10∨o.Code=11 then inr o.A 0 long && decide (o.B=0)
    else if o.Code=12∨o.Code=13 then inr o.A 0 (p.Locks - 1) && decide (o.B=0)
    else if o.Code=14 then inr o.A 0 ((p.Routines.length:Int) - 1) && decide (o.B=0)
    else if o.Code=16 then inr o.A 0 (p.Conds - 1) && inr o.B 0 (p.Locks - 1)
    else if o.Code=17 then inr o.A 0 (p.Conds - 1) && decide (o.B=0)
    else inr o.Code 1 17 && decide (o.A=0) && decide (o.B=0))
def PB4 (p:Qa9) : Prop:=(0≤p.Cells∧p.Cells≤4)∧(0≤p.Locks∧p.Locks≤4)∧(0≤p.Conds∧p.Conds≤2)∧1≤p.Routines.length∧p.Routines.length≤4
theorem Xhi {p:Qa9} {long:Int} {o:GOp} (hp:PB4 p) (hl : 0≤long∧long≤24) (hv:o.V<18446744073709551616) : Qhu p long o=some (Qmi p long o):=by
 obtain ⟨⟨c1,c2⟩,⟨c3,c4⟩,⟨c5,c6⟩,c7,c8⟩:=hp
 obtain ⟨l1,l2⟩:=hl
 obtain ⟨c,a,b,v⟩:=o
 simp only at hv
 unfold Qhu Qgm Qmi
 simp only [Qgk,Option.bind_some]
 by_cases hc : 1≤c∧c≤17
 ·have hc':inr c 1 17=true:=Qcm.2 hc
  have:c=1∨c=2∨c=3∨c=4∨c=5∨c=6∨c=7∨c=8∨c=9∨c=10∨c=11∨c=12∨c=13∨c=14∨c=15∨c=16∨c=17:=by omega
  rcases this with rfl | rfl | rfl | rfl | rfl | rfl | rfl | rfl | rfl | rfl | rfl | rfl | rfl | rfl | rfl | rfl | rfl
  all_goals simp [Qgg,Qbi,Qfv,Qtu hv,Qgj,Qgn,Qgl,hc']
  all_goals (cases hx:inr a 0 999 <;> cases hy:inr b 0 999 <;> by_cases hv0:v=0 <;> by_cases ha0:a=0 <;> by_cases hb0:b=0)
  all_goals simp only [inr,Bool.and_eq_true,Bool.and_eq_false_iff,decide_eq_true_eq,decide_eq_false_iff_not] at hx hy
  all_goals first
   | (exfalso;omega)
   | (simp [hv0,ha0,hb0];done)
   | (simp [hv0,ha0,hb0,inr];omega)
   | (simp [hv0,ha0,hb0,inr];rw [Bool.eq_iff_iff];simp;omega)
   | (simp [hv0,ha0,hb0,inr];by_cases q1:a<p.Conds <;> by_cases q2:b<p.Locks <;> simp [q1,q2] <;> omega)
   | (by_cases q1 : 0<p.Conds <;> by_cases q2:b<p.Locks <;> simp [hv0,ha0,hb0,inr,q1,q2] <;> omega)
   | (by_cases q1:a<p.Conds <;> by_cases q2 : 0<p.Locks <;> simp [hv0,ha0,hb0,inr,q1,q2] <;> omega)
   | (by_cases q1 : 0<p.Conds <;> by_cases q2 : 0<p.Locks <;> simp [hv0,ha0,hb0,inr,q1,q2] <;> omega)
   | (by_cases q1:a≤long <;> simp [hv0,ha0,hb0,inr,q1,l1] <;> omega)
 ·have hc':inr c 1 17=false:=by
   cases h:inr c 1 17
   ·rfl
   ·exact absurd (Qcm.1 h) hc
  have h1:c≠1:=by omega
  have h2:c≠2:=by omega
  have h3:c≠3:=by omega
  have h10:c≠10:=by omega
  have h11:c≠11:=by omega
  have h12:c≠12:=by omega
  have h13:c≠13:=by omega
  have h14:c≠14:=by omega
  have h16:c≠16:=by omega
  have h17:c≠17:=by omega
  simp [Qgg,Qbi,hc',h1,h2,h3,h10,h11,h12,h13,h14,h16,h17]
end Go.Proofs.Ytdmmaanagmacjaa
