/- Plain facts for FnLayers; no condition. -/

import Derived.Test.YtdmmaanagmacjaaO2
set_option linter.unusedVariables false
namespace Go.Proofs.Ytdmmaanagmacjaa
open Go Go.T
theorem Xgr {c:List Int} {a b:Int} (hc:c.length≤1048576) : ∀ (n k:Nat),k≤c.length→c.length<n+k→Qf2 c a b n k=some ((c.drop k).all (fun x=>inr x a b))
 | 0,k,h1,h2=>by omega
 | n+1,k,h1,h2=>by
  rw [Qf2]
  by_cases hk:k<c.length
  ·rw [List.drop_eq_getElem_cons hk,List.all_cons]
   simp only [PS,hk,Qdn hk,Qgk,Qff (k:=k) (by omega),Xgr hc n (k+1) hk (by omega)]
   cases inr c[k] a b <;> simp
  ·have:k=c.length:=by omega
   subst this
   simp
theorem Xfb {c:List Int} {a b:Int} (hc:c.length≤1048576) : Qjv c a b=some (c.all (fun x=>inr x a b)):=by
 rw [Qjv]
 have:=Xgr (a:=a) (b:=b) hc FU 0 (by omega) (by have:=Qeg (n:=c.length) (by omega);omega)
 simpa using this
end Go.Proofs.Ytdmmaanagmacjaa
