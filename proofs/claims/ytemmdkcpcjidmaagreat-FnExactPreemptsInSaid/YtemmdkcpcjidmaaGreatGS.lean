/- Plain facts for FnExactPreemptsIn; no condition. -/

import Derived.Test.YtemmdkcpcjidmaaGreatO2
set_option linter.unusedVariables false
namespace Go.Proofs.YtemmdkcpcjidmaaGreat
open Go Go.T
theorem Xk2 {c:List Int} {a b:Int} (hc:c.length≤1048576) : ∀ (n k:Nat),k≤c.length→c.length<n+k→Qfu c a b n k=some ((c.drop k).all (fun x=>inr x a b))
 | 0,k,h1,h2=>by omega
 | n+1,k,h1,h2=>by
  rw [Qfu]
  by_cases hk:k<c.length
  ·rw [List.drop_eq_getElem_cons hk,List.all_cons]
   simp only [PS,hk,Qfs hk,Qkc,Qik (k:=k) (by omega),Xk2 hc n (k+1) hk (by omega)]
   cases inr c[k] a b <;> simp
  ·have:k=c.length:=by omega
   subst this
   simp
theorem Xi1 {c:List Int} {a b:Int} (hc:c.length≤1048576) : Qlw c a b=some (c.all (fun x=>inr x a b)):=by
 rw [Qlw]
 have:=Xk2 (a:=a) (b:=b) hc FU 0 (by omega) (by have:=Qip (n:=c.length) (by omega);omega)
 simpa using this
end Go.Proofs.YtemmdkcpcjidmaaGreat
