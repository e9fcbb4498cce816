/- Plain facts for FnLayers; no condition. -/

import Derived.Test.YtdmmaanagmacjaaDR3
set_option linter.unusedVariables false
set_option linter.unusedSimpArgs false
namespace Go.Proofs.Ytdmmaanagmacjaa
open Go Go.T
def Qjq (e:Qa5) : Bool:=inr e.Thread 0 4 && inr e.Kind 1 12 && inr e.Obj (-1) 99 && inr e.Lock (-1) 99 && inr e.Pc 0 99 && (!inr e.Kind 2 10 || decide (0≤e.Obj)) && ((e.Kind != 8 && e.Kind != 9) || decide (0≤e.Lock))
theorem Qut (e:Qa5) : Qhz e=some (Qjq e):=by
 unfold Qhz Qce Qjq
 simp only [Qgk,Option.bind_some]
 generalize inr e.Thread 0 4=b1
 generalize inr e.Kind 1 12=b2
 generalize inr e.Kind 2 10=b6
 generalize inr e.Obj (-1) 99=b3
 generalize inr e.Lock (-1) 99=b4
 generalize inr e.Pc 0 99=b5
 by_cases h1:e.Obj<0
 ·have h1' : ¬ 0≤e.Obj:=by omega
  by_cases h2:e.Lock<0
  ·have h2' : ¬ 0≤e.Lock:=by omega
   by_cases h3:e.Kind=8
   ·cases b1 <;> cases b2 <;> cases b3 <;> cases b4 <;> cases b5 <;> cases b6 <;> simp [h1,h1',h2,h2',h3]
   ·by_cases h4:e.Kind=9
    ·cases b1 <;> cases b2 <;> cases b3 <;> cases b4 <;> cases b5 <;> cases b6 <;> simp [h1,h1',h2,h2',h3,h4]
    ·cases b1 <;> cases b2 <;> cases b3 <;> cases b4 <;> cases b5 <;> cases b6 <;> simp [h1,h1',h2,h2',h3,h4]
  ·have h2' : 0≤e.Lock:=by omega
   by_cases h3:e.Kind=8
   ·cases b1 <;> cases b2 <;> cases b3 <;> cases b4 <;> cases b5 <;> cases b6 <;> simp [h1,h1',h2,h2',h3]
   ·by_cases h4:e.Kind=9
    ·cases b1 <;> cases b2 <;> cases b3 <;> cases b4 <;> cases b5 <;> cases b6 <;> simp [h1,h1',h2,h2',h3,h4]
    ·cases b1 <;> cases b2 <;> cases b3 <;> cases b4 <;> cases b5 <;> cases b6 <;> simp [h1,h1',h2,h2',h3,h4]
 ·have h1' : 0≤e.Obj:=by omega
  by_cases h2:e.Lock<0
  ·have h2' : ¬ 0≤e.Lock:=by omega
   by_cases h3:e.Kind=8
   ·cases b1 <;> cases b2 <;> cases b3 <;> cases b4 <;> cases b5 <;> cases b6 <;> simp [h1,h1',h2,h2',h3]
   ·by_cases h4:e.Kind=9
    ·cases b1 <;> cases b2 <;> cases b3 <;> cases b4 <;> cases b5 <;> cases b6 <;> simp [h1,h1',h2,h2',h3,h4]
    ·cases b1 <;> cases b2 <;> cases b3 <;> cases b4 <;> cases b5 <;> cases b6 <;> simp [h1,h1',h2,h2',h3,h4]
  ·have h2' : 0≤e.Lock:=by omega
   by_cases h3:e.Kind=8
   ·cases b1 <;> cases b2 <;> cases b3 <;> cases b4 <;> cases b5 <;> cases b6 <;> simp [h1,h1',h2,h2',h3]
   ·by_cases h4:e.Kind=9
    ·cases b1 <;> cases b2 <;> cases b3 <;> cases b4 <;> cases b5 <;> cases b6 <;> simp [h1,h1',h2,h2',h3,h4]
    ·cases b1 <;> cases b2 <;> cases b3 <;> cases b4 <;> cases b5 <;> cases b6 <;> simp [h1,h1',h2,h2',h3,h4]
theorem Qvq (e:Qa5) : Qeu e=some (Qjq e):=by
 unfold Qeu Qej Qjq
 simp only [Qpj,Option.bind_some]
 generalize inr e.Thread 0 4=b1
 generalize inr e.Kind 1 12=b2
 generalize inr e.Kind 2 10=b6
 generalize inr e.Obj (-1) 99=b3
 generalize inr e.Lock (-1) 99=b4
 generalize inr e.Pc 0 99=b5
 by_cases h1 : 0≤e.Obj <;> by_cases h2 : 0≤e.Lock <;> by_cases h3:e.Kind=8
 all_goals first
  | (cases b1 <;> cases b2 <;> cases b3 <;> cases b4 <;> cases b5 <;> cases b6 <;> simp [h1,h2,h3];done)
  | (by_cases h4:e.Kind=9 <;> cases b1 <;> cases b2 <;> cases b3 <;> cases b4 <;> cases b5 <;> cases b6 <;> simp [h1,h2,h3,h4];done)
theorem Qo5 {p:List Qa5} (hp:p.length<1099511627776) : ∀ (n k:Nat),k≤p.length→p.length<n+k→Qdq p n k=some ((p.drop k).all Qjq && decide (p.length≤200))
 | 0,k,h1,h2=>by omega
 | n+1,k,h1,h2=>by
  rw [Qdq]
  by_cases hk:k<p.length
  ·rw [List.drop_eq_getElem_cons hk,List.all_cons]
   simp only [PS,hk,Qdn hk,Qff (k:=k) (by omega),Qut,Qo5 hp n (k+1) hk (by omega)]
   cases Qjq p[k] <;> simp
  ·have:k=p.length:=by omega
   subst this
   simp;omega
def Qsu (p:List Qa5) : Bool:=p.all Qjq && decide (p.length≤200)
theorem Qv9 {p:List Qa5} (hp:p.length<1099511627776) : Qhp p=some (Qsu p):=by
 rw [Qhp]
 exact Qo5 hp FU 0 (by omega) (by have:=Qeg hp;omega)
theorem Qnq {p:List Qa5} (hp:p.length<1099511627776) : ∀ (n k:Nat),k≤p.length→p.length<n+k→∃ r:Int,Qad p n k=some r∧decide (r ≥ 0) = !(p.drop k).all Qjq
 | 0,k,h1,h2=>by omega
 | n+1,k,h1,h2=>by
  rw [Qad]
  by_cases hk:k<p.length
  ·rw [List.drop_eq_getElem_cons hk,List.all_cons]
   obtain ⟨r,e1,e2⟩:=Qnq hp n (k+1) hk (by omega)
   simp only [PS,hk,Qdn hk,Qff (k:=k) (by omega),Qgf,Qvq,e1]
   cases Qjq p[k]
   ·refine ⟨k,by simp,by simp⟩
   ·exact ⟨r,by simp,by simpa using e2⟩
  ·have:k=p.length:=by omega
   subst this
   exact ⟨-1,by simp,by simp⟩
theorem Qoq {p:List Qa5} (hp:p.length<1099511627776) : Qfi p=some (Qsu p):=by
 rw [Qfi]
 obtain ⟨r,e1,e2⟩:=Qnq hp FU 0 (by omega) (by have:=Qeg hp;omega)
 have e1':Qaz p=some r:=e1
 rw [Qat,e1']
 by_cases h:p.length≤200
 ·have h':(p.length:Int)≤200:=by omega
  simp only [List.drop_zero] at e2
  simp [h',h,Qsu,e2]
 ·have h' : ¬ (p.length:Int)≤200:=by omega
  simp [h',h,Qsu]
end Go.Proofs.Ytdmmaanagmacjaa
