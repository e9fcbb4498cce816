/- Plain facts for FnLayers; no condition. -/

import Derived.Test.YtdmmaanagmacjaaL2
set_option linter.unusedVariables false
namespace Go.Proofs.Ytdmmaanagmacjaa
open Go Go.T
def Qyv (p:List Qa5) (i:Nat) : Qa5:=p[i]?.getD ⟨0,0,0,0,0⟩
theorem Qu7 {p:List Qa5} {i:Nat} (h:i<p.length) : rd p (i:Int)=some (Qyv p i):=by rw [Qdn h];simp [Qyv,h]
theorem Qwz {p:List Qa5} {i:Nat} (hg:p.all Qjq=true) (h:i<p.length) : Qjq (Qyv p i)=true:=by
 have:Qyv p i=p[i]:=by simp [Qyv,h]
 rw [this]
 exact List.all_eq_true.1 hg _ (List.getElem_mem h)
def Qlj (e:Qa5) : Int:=if e.Kind=5 then e.Obj else if e.Kind=8 then e.Lock else -2
def Qlf (e:Qa5) : Int:=if e.Kind=4 then e.Obj else if e.Kind=9 then e.Lock else -3
end Go.Proofs.Ytdmmaanagmacjaa
