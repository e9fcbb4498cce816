/- Plain facts for FnExactPreemptsIn; no condition. -/

import Derived.Test.YtemmdkcpcjidmaaGreatRG
set_option linter.unusedVariables false
namespace Go.Proofs.YtemmdkcpcjidmaaGreat
open Go Go.T
theorem Xk4 {p:List Int} {x:Int} (hp:p.length<1000000) : ∀ (n k:Nat),k≤p.length→p.length<n+k→∃ r:Int,Qbn p x n k=some r∧decide (r ≥ 0)=(p.drop k).any (· == x)
 | 0,k,h1,h2=>by omega
 | n+1,k,h1,h2=>by
  rw [Qbn]
  by_cases hk:k<p.length
  ·rw [List.drop_eq_getElem_cons hk,List.any_cons]
   obtain ⟨r,e1,e2⟩:=Xk4 (x:=x) hp n (k+1) hk (by omega)
   simp only [PS,hk,Qfs hk,Qik (k:=k) (by omega),e1,e2]
   by_cases h:x=p[k]
   ·subst h;exact ⟨k,by simp,by simp⟩
   ·have h':(p[k] == x)=false:=by simp;exact fun e=>h e.symm
    have h2:(x == p[k])=false:=by simpa using h
    exact ⟨r,by simp [h',h2],by simp [h',e2]⟩
  ·have:k=p.length:=by omega
   subst this
   exact ⟨-1,by simp,by simp⟩
theorem Xb2 {p:List Int} {x:Int} (hp:p.length<1000000) : Qd0 p x=some (p.any (· == x)):=by
 obtain ⟨r,e1,e2⟩:=Xk4 (x:=x) hp FU 0 (by omega) (by have:=Qip (n:=p.length) (by omega);omega)
 rw [Qd0,Qf4,show Qbn p x FU 0=some r from e1]
 simpa using e2
theorem Xk7 {p:List Int} {x:Int} (hp:p.length<1000000) : ∀ (n k:Nat),k≤p.length→p.length<n+k→Qfl p x n k=some ((p.drop k).any (· == x))
 | 0,k,h1,h2=>by omega
 | n+1,k,h1,h2=>by
  rw [Qfl]
  by_cases hk:k<p.length
  ·rw [List.drop_eq_getElem_cons hk,List.any_cons]
   simp only [PS,hk,Qfs hk,Qik (k:=k) (by omega),Xk7 (x:=x) hp n (k+1) hk (by omega)]
   by_cases h:p[k]=x <;> simp [h]
  ·have:k=p.length:=by omega
   subst this
   simp
theorem Xp2 {p:List Int} {x:Int} (hp:p.length<1000000) : Qm0 p x=some (p.any (· == x)):=by
 rw [Qm0]
 exact Xk7 hp FU 0 (by omega) (by have:=Qip (n:=p.length) (by omega);omega)
end Go.Proofs.YtemmdkcpcjidmaaGreat
