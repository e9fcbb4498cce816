/- Plain facts for FnExactPreemptsIn; no condition. -/

import Derived.Test.YtemmdkcpcjidmaaGreatST5
set_option linter.unusedVariables false
set_option linter.unusedSimpArgs false
namespace Go.Proofs.YtemmdkcpcjidmaaGreat
open Go Go.T
def Xew:Qbi:=⟨0,[],[],⟨[],[],[],0⟩⟩
def Qco (ps:List Int) (e:List Int) (i:Nat) : Int:=if h:i<ps.length then Int.tmod ps[i] (e.length:Int) else 0
theorem Xmi {ps e:List Int} {i:Nat} (hp : ∀ x∈ps,0≤x) (he:e.length≠0) : ∃ (j:Nat) (hj:j<e.length),Qco ps e i=(j:Int):=by
 unfold Qco
 split
 ·rename_i h
  have h0:=hp _ (List.getElem_mem h)
  have h1 : 0≤Int.tmod ps[i] (e.length:Int):=Int.tmod_nonneg _ h0
  have h2:Int.tmod ps[i] (e.length:Int)<(e.length:Int):=Int.tmod_lt_of_pos _ (by omega)
  exact ⟨(Int.tmod ps[i] (e.length:Int)).toNat,by omega,by omega⟩
 ·exact ⟨0,by omega,rfl⟩
theorem Xdy {s:Qa1} {e:List Int} {i n:Int} (h:Qqg s e i n=0) : e.length≠0∧i≠n:=by
 unfold Qqg at h
 split at h
 ·omega
 split at h
 ·split at h <;> omega
 split at h
 ·omega
 ·exact ⟨by assumption,by assumption⟩
theorem Xha (s:Qa1) (e:List Int) (i n:Int) : 0≤Qqg s e i n:=by
 unfold Qqg
 split
 ·omega
 split
 ·split <;> omega
 split <;> omega
theorem Xjc {ps:List Int} (h:ps.length≤1048576) : Qic ps 200=some (decide (ps.length≤200) && ps.all (fun x=>inr x 0 999)):=by
 obtain ⟨r,e1,e2⟩:=Xmh (p:=ps) (t:=fun x=>Qgo x) (q:=fun x => !inr x 0 999) (F:=Qao ps) (by intros;rw [Qao]) (by omega) (fun x _=>by rw [Qgo,Qm5];rfl)
 have e3:Qb1 ps=some (!ps.all (fun x=>inr x 0 999)):=by
  rw [Qb1,Qbh,e1]
  simp only [PS,e2]
  rw [List.not_all_eq_any_not]
 rw [Qic,e3]
 by_cases h2:ps.length≤200
 ·have:decide ((ps.length:Int)≤200)=true:=by simp;omega
  simp [this,h2]
 ·have:decide ((ps.length:Int)≤200)=false:=by simp;omega
  simp [this,h2]
theorem Xlo {ps:List Int} (h:ps.length≤1048576) : Qjk ps=some (decide (ps.length≤200) && ps.all (fun x=>inr x 0 999)):=by
 rw [Qjk,Xi1 h]
 by_cases h2:ps.length≤200
 ·have:decide ((ps.length:Int)≤200)=true:=by simp;omega
  simp [this,h2]
 ·have:decide ((ps.length:Int)≤200)=false:=by simp;omega
  simp [this,h2]
end Go.Proofs.YtemmdkcpcjidmaaGreat
