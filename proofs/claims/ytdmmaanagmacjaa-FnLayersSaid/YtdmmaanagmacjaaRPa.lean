/- Plain facts for FnLayers; no condition. -/

import Derived.Test.YtdmmaanagmacjaaST5
set_option linter.unusedVariables false
set_option linter.unusedSimpArgs false
namespace Go.Proofs.Ytdmmaanagmacjaa
open Go Go.T
def Qpi:Qgp:=⟨0,[],[],⟨[],[],[],0⟩⟩
def Qc6 (ps:List Int) (e:List Int) (i:Nat) : Int:=if h:i<ps.length then Int.tmod ps[i] (e.length:Int) else 0
theorem Xhj {ps e:List Int} {i:Nat} (hp : ∀ x∈ps,0≤x) (he:e.length≠0) : ∃ (j:Nat) (hj:j<e.length),Qc6 ps e i=(j:Int):=by
 unfold Qc6
 split
 ·rename_i h
  have h0:=hp _ (List.getElem_mem h)
  have h1 : 0≤Int.tmod ps[i] (e.length:Int):=Int.tmod_nonneg _ h0
  have h2:Int.tmod ps[i] (e.length:Int)<(e.length:Int):=Int.tmod_lt_of_pos _ (by omega)
  exact ⟨(Int.tmod ps[i] (e.length:Int)).toNat,by omega,by omega⟩
 ·exact ⟨0,by omega,rfl⟩
theorem Xal {s:Qa3} {e:List Int} {i n:Int} (h:Qn7 s e i n=0) : e.length≠0∧i≠n:=by
 unfold Qn7 at h
 split at h
 ·omega
 split at h
 ·split at h <;> omega
 split at h
 ·omega
 ·exact ⟨by assumption,by assumption⟩
theorem Xcg (s:Qa3) (e:List Int) (i n:Int) : 0≤Qn7 s e i n:=by
 unfold Qn7
 split
 ·omega
 split
 ·split <;> omega
 split <;> omega
theorem Xhx {ps:List Int} (h:ps.length≤1048576) : Qhy ps=some (decide (ps.length≤200) && ps.all (fun x=>inr x 0 999)):=by
 rw [Qhy,Xfb h]
 by_cases h2:ps.length≤200
 ·have:decide ((ps.length:Int)≤200)=true:=by simp;omega
  simp [this,h2]
 ·have:decide ((ps.length:Int)≤200)=false:=by simp;omega
  simp [this,h2]
end Go.Proofs.Ytdmmaanagmacjaa
