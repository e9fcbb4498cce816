/- Plain facts for FnLayers; no condition. -/

import Derived.Test.YtdmmaanagmacjaaF2
set_option linter.unusedVariables false
namespace Go.Proofs.Ytdmmaanagmacjaa
open Go Go.T
def IR (len:Nat) (a:List (Vector Int 4)) (e:Nat) (F:Nat→Nat→Bool) (r:Nat→Bool) : Prop:=
 a.length=len∧∀ i,i<len→∃ v,a[i]? = some v∧VR v (if i<e then F i else if i=e then r else fun _=>false)
theorem Qzx {v:Vector Int 4} {r q:Nat→Bool} (h:VR v r) (e:r=q) : VR v q:=e ▸ h
theorem Xhf:VR (Vector.replicate 4 0) (fun _=>false):=by
 constructor
 ·intro w x hx
  rcases Nat.lt_or_ge w 4 with h | h
  ·rw [Vector.getElem?_replicate,if_pos h] at hx;cases hx;omega
  ·rw [Vector.getElem?_eq_none (by omega)] at hx;cases hx
 ·intro k hk
  unfold Qye
  rw [Vector.getElem?_replicate,if_pos (by omega)]
  simp
theorem Xka {len e:Nat} {a:List (Vector Int 4)} {F:Nat→Nat→Bool} {r r':Nat→Bool} {v:Vector Int 4} (h:IR len a e F r) (he:e<len) (hv:VR v r') : IR len (a.set e v) e F r':=by
 refine ⟨by rw [List.length_set];exact h.1,fun i hi=>?_⟩
 by_cases hie:i=e
 ·subst hie
  refine ⟨v,by rw [List.getElem?_set_self (by rw [h.1];exact hi)],?_⟩
  rw [if_neg (Nat.lt_irrefl _),if_pos rfl];exact hv
 ·obtain ⟨u,h1,h2⟩:=h.2 i hi
  refine ⟨u,by rw [List.getElem?_set_ne (fun e=>hie e.symm)];exact h1,?_⟩
  simp only [hie,if_false] at h2 ⊢
  exact h2
theorem Ql0 {p:List Qa5} {K0:List (Vector Int 4)→Int→Option (List (Vector Int 4))} {e:Nat} {F:Nat→Nat→Bool} (hl:p.length≤200) (hg:p.all Qjq=true) (he:e<p.length) : ∀ (n m d:Nat) (a:List (Vector Int 4)) (r:Nat→Bool),d+m=e→m<n→IR p.length a e F r →
  ∃ a',Qby K0 p e n a d=K0 a' (((e+1:Nat) : Int))∧IR p.length a' e F (Qjs (Qoi p) F e m d r)
 | 0,m,d,a,r,h1,h2,h3=>by omega
 | n+1,0,d,a,r,h1,h2,h3=>by
  rw [Qby]
  have:d=e:=by omega
  subst this
  simp only [PS,Nat.lt_irrefl,Qff (k:=d) (by omega),Qjs]
  exact ⟨a,rfl,h3⟩
 | n+1,m+1,d,a,r,h1,h2,h3=>by
  rw [Qby]
  have hd:d<e:=by omega
  simp only [PS,hd,Qu7 (show d<p.length by omega),Qu7 he,Quv (Qwz hg (show d<p.length by omega)) (Qwz hg he),Qff (k:=d) (by omega),Qjs]
  show ∃ a',_∧IR p.length a' e F (Qjs (Qoi p) F e m (d+1) (if Qvh (Qyv p d) (Qyv p e)=true then _ else _))
  cases Qvh (Qyv p d) (Qyv p e)
  ·simp only [PS, ]
   exact Ql0 hl hg he n m (d+1) a r (by omega) (by omega) h3
  ·obtain ⟨v,e1,e2⟩:=h3.2 e he
   obtain ⟨u,f1,f2⟩:=h3.2 d (by omega)
   rw [if_neg (Nat.lt_irrefl _),if_pos rfl] at e2
   rw [if_pos hd] at f2
   obtain ⟨v',g1,g2⟩:=Xhw (d:=d) e2 (by omega)
   obtain ⟨c,k1,k2⟩:=Xbq g2 f2
   have r1:rd a (e:Int)=some v:=by rw [Qmw];exact e1
   have r2:rd a (d:Int)=some u:=by rw [Qmw];exact f1
   simp only [PS,r1,r2,g1,k1]
   exact Ql0 hl hg he n m (d+1) _ _ (by omega) (by omega) (Xka h3 he k2)
theorem Qqd {p:List Qa5} (hl:p.length≤200) (hg:p.all Qjq=true) : ∀ (n m e:Nat) (F:Nat→Nat→Bool) (a:List (Vector Int 4)),e+m=p.length→m<n→IR p.length a e F (fun _=>false) →
  ∃ a',Qbx p n a e=some a'∧IR p.length a' p.length (Ql3 (Qoi p) m e F) (fun _=>false)
 | 0,m,e,F,a,h1,h2,h3=>by omega
 | n+1,0,e,F,a,h1,h2,h3=>by
  rw [Qbx]
  have:e=p.length:=by omega
  subst this
  simp only [PS,Nat.lt_irrefl,Ql3]
  exact ⟨a,rfl,h3⟩
 | n+1,m+1,e,F,a,h1,h2,h3=>by
  rw [Qbx]
  have he:e<p.length:=by omega
  simp only [PS,he,Ql3]
  obtain ⟨a',e1,e2⟩:=Ql0 (K0:=Qbx p n) hl hg he FU e 0 a _ (by omega) (by have:=Qeg (n:=e) (by omega);omega) h3
  rw [show Qby (Qbx p n) p (e:Int) FU a 0=_ from e1]
  refine Qqd hl hg n m (e+1) _ a' (by omega) (by omega) ⟨e2.1,fun i hi=>?_⟩
  obtain ⟨v,k1,k2⟩:=e2.2 i hi
  refine ⟨v,k1,Qzx k2 ?_⟩
  unfold upd
  by_cases h:i=e
  ·subst h;simp
  ·by_cases h':i<e
   ·rw [if_pos h',if_pos (by omega)];simp [h]
   ·rw [if_neg h',if_neg h,if_neg (by omega)];simp
theorem Qov {p:List Qa5} (hl:p.length≤200) (hg:p.all Qjq=true) : ∃ a,Qgo p=some a∧a.length=p.length∧∀ i,i<p.length→∃ v,a[i]? = some v∧VR v (Qf8 p i):=by
 rw [Qgo,Xb8 (z:=Vector.replicate 4 (0:Int)) (n:=p.length) (by omega)]
 simp only [PS, ]
 obtain ⟨a,e1,e2⟩:=Qqd hl hg FU p.length 0 (fun _ _=>false) (List.replicate p.length (Vector.replicate 4 0)) (by omega) (by have:=Qeg (n:=p.length) (by omega);omega) ⟨by simp,fun i hi=>⟨Vector.replicate 4 0,by simp [hi],Qzx Xhf (by simp)⟩⟩
 refine ⟨a,e1,e2.1,fun i hi=>?_⟩
 obtain ⟨v,k1,k2⟩:=e2.2 i hi
 rw [if_pos hi] at k2
 exact ⟨v,k1,k2⟩
end Go.Proofs.Ytdmmaanagmacjaa
