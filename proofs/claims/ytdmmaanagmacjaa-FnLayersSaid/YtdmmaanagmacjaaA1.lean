/- Plain facts for FnLayers; no condition. -/

import Derived.Test.YtdmmaanagmacjaaF2b
set_option linter.unusedVariables false
namespace Go.Proofs.Ytdmmaanagmacjaa
open Go Go.T
theorem Qrj {L R R':Nat→Nat→Bool} {e:Nat} : ∀ (n d:Nat) (r:Nat→Bool),(∀ x,d≤x→x<d+n→R x=R' x)→Qjs L R e n d r=Qjs L R' e n d r
 | 0,d,r,h=>rfl
 | n+1,d,r,h=>by
  rw [Qjs,Qjs,h d (by omega) (by omega),Qrj n (d+1) _ (fun x h1 h2=>h x (by omega) (by omega))]
theorem Qxc {L R:Nat→Nat→Bool} {e k:Nat} : ∀ (n d:Nat) (r:Nat→Bool),Qjs L R e n d r k=true↔r k=true∨∃ x,d≤x∧x<d+n∧L x e=true∧(k=x∨R x k=true)
 | 0,d,r=>by
  rw [Qjs]
  constructor
  ·exact .inl
  ·rintro (h | ⟨x,h1,h2,_⟩)
   ·exact h
   ·omega
 | n+1,d,r=>by
  rw [Qjs,Qxc n (d+1)]
  constructor
  ·rintro (h | ⟨x,h1,h2,h3⟩)
   ·by_cases hl:L d e=true
    ·rw [if_pos hl] at h
     simp only [Bool.or_eq_true,beq_iff_eq] at h
     rcases h with (h | h) | h
     ·exact .inr ⟨d,by omega,by omega,hl,.inl h⟩
     ·exact .inl h
     ·exact .inr ⟨d,by omega,by omega,hl,.inr h⟩
    ·rw [if_neg hl] at h;exact .inl h
   ·exact .inr ⟨x,by omega,by omega,h3⟩
  ·rintro (h | ⟨x,h1,h2,h3,h4⟩)
   ·left;split
    ·simp [h]
    ·exact h
   ·by_cases hx:x=d
    ·subst hx
     left;rw [if_pos h3]
     rcases h4 with h4 | h4 <;> simp [h4]
    ·exact .inr ⟨x,by omega,by omega,h3,h4⟩
theorem Qu6 {L:Nat→Nat→Bool} : ∀ (m e:Nat) (F:Nat→Nat→Bool) (i:Nat),i<e→Ql3 L m e F i=F i
 | 0,e,F,i,h=>rfl
 | m+1,e,F,i,h=>by
  rw [Ql3,Qu6 m (e+1) _ i (by omega)]
  unfold upd;rw [if_neg (by omega)]
theorem Xa9 {L:Nat→Nat→Bool} : ∀ (m e:Nat) (F:Nat→Nat→Bool) (i:Nat),i<m→Ql3 L m e F (e+i)=Qjs L (Ql3 L m e F) (e+i) (e+i) 0 (fun _=>false)
 | 0,e,F,i,h=>by omega
 | m+1,e,F,0,h=>by
  have h1:Ql3 L (m+1) e F e=Qjs L F e e 0 (fun _=>false):=by
   rw [Ql3,Qu6 m (e+1) _ e (by omega)]
   unfold upd;rw [if_pos rfl]
  show Ql3 L (m+1) e F e=Qjs L (Ql3 L (m+1) e F) e e 0 (fun _=>false)
  rw [h1]
  refine Qrj _ _ _ (fun x _ hx=>?_)
  rw [Qu6 (m+1) e F x (by omega)]
 | m+1,e,F,i+1,h=>by
  have:=Xa9 (L:=L) m (e+1) (upd F e (Qjs L F e e 0 (fun _=>false))) i (by omega)
  rw [show e+(i+1)=e+1+i by omega]
  rw [Ql3]
  exact this
theorem Xdu {p:List Qa5} {j i:Nat} (hj:j<p.length) : Qf8 p j i=true↔∃ x,x<j∧Qoi p x j=true∧(i=x∨Qf8 p x i=true):=by
 have:=Xa9 (L:=Qoi p) p.length 0 (fun _ _=>false) j hj
 rw [Nat.zero_add] at this
 unfold Qf8
 rw [this,Qxc]
 simp
theorem Xez {p:List Qa5} : ∀ (j:Nat),j<p.length→∀ i,Qf8 p j i=true→i<j:=by
 intro j
 induction j using Nat.strongRecOn with
 | ind j ih =>
  intro hj i h
  obtain ⟨x,h1,_,h2⟩:=(Xdu hj).1 h
  rcases h2 with h2 | h2
  ·omega
  ·have:=ih x h1 (by omega) i h2
   omega
end Go.Proofs.Ytdmmaanagmacjaa
