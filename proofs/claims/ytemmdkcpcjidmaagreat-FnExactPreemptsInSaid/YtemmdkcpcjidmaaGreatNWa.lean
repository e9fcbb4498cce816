/- Plain facts for FnExactPreemptsIn; no condition. -/

import Derived.Test.YtemmdkcpcjidmaaGreatST4
set_option linter.unusedVariables false
namespace Go.Proofs.YtemmdkcpcjidmaaGreat
open Go Go.T
def Xi0 (c l:Nat) : Qa1:=Qa1.mk [Qa0.mk 0 0 1 (-1) (-1) []] (List.replicate c 0) (List.replicate l (-1)) 0
theorem Xbe {α:Type} (x : α) (k:Nat) : List.replicate k x++[x]=List.replicate (k+1) x:=by
 rw [List.replicate_succ']
theorem Xlf (l k:Nat) (h:k<l) : (List.replicate k (-1:Int)++List.replicate (l - k) 0).set k (-1)=List.replicate (k+1) (-1)++List.replicate (l - (k+1)) 0:=by
 have e:List.replicate (l - k) (0:Int)=0 :: List.replicate (l - (k+1)) 0:=by
  rw [show l - k=(l - (k+1))+1 by omega,List.replicate_succ]
 rw [e,List.set_append_right _ _ (by simp),List.length_replicate,Nat.sub_self,List.set_cons_zero,← Xbe]
 simp
theorem Qq2 {q:Qa1} {l:Nat} {T:List Qa0} {C:List Nat} (hl:l≤4) : ∀ (n m k:Nat),k+m=l→m<n →
  Qem (List.replicate l 0) n q (Qa1.mk T C (List.replicate k (-1)++List.replicate (l - k) 0) 0) k=some (Qa1.mk T C (List.replicate l (-1)) 0)
 | 0,m,k,h1,h2=>by omega
 | n+1,0,k,h1,h2=>by
  have:k=l:=by omega
  subst this
  rw [Qem]
  simp
 | n+1,m+1,k,h1,h2=>by
  have hk:k<l:=by omega
  rw [Qem]
  have c1:decide ((k:Int)<((List.replicate l (0:Int)).length:Int))=true:=by simp;omega
  have r1:rd (List.replicate k (-1:Int)++List.replicate (l - k) 0) (k:Int)=some 0:=by
   rw [Xgh,List.getElem?_append_right (by simp),List.length_replicate,Nat.sub_self,List.getElem?_replicate,if_pos (by omega)]
  simp only [c1,if_true,r1,Option.bind_some,Qik (show k<4611686018427387904 by omega),Int.toNat_natCast,Xlf l k hk]
  exact Qq2 hl n m (k+1) (by omega) (by omega)
theorem Qw0 {p:Qaf} {q:Qa1} {l:Nat} {T:List Qa0} {C:List Nat} (hl:l≤4) (hp:p.Locks=(l:Int)) : ∀ (n m k:Nat),k+m=l→m<n →
  Qes n p q (Qa1.mk T C (List.replicate k (-1)) 0) k=some (Qa1.mk T C (List.replicate l (-1)) 0)
 | 0,m,k,h1,h2=>by omega
 | n+1,0,k,h1,h2=>by
  have:k=l:=by omega
  subst this
  rw [Qes]
  simp [hp]
 | n+1,m+1,k,h1,h2=>by
  rw [Qes]
  have c1:decide ((k:Int)<p.Locks)=true:=by rw [hp];simp;omega
  simp only [c1,if_true,Qid (a:=List.replicate k (-1:Int)) (b:=[-1]) (by simp;omega),Option.bind_some,Qik (show k<4611686018427387904 by omega),Xbe]
  exact Qw0 hl hp n m (k+1) (by omega) (by omega)
theorem Quj {p:Qaf} {q:Qa1} {c l:Nat} {T:List Qa0} (hc:c≤4) (hl:l≤4) (hpc:p.Cells=(c:Int)) (hp:p.Locks=(l:Int)) : ∀ (n m k:Nat),k+m=c→m<n →
  Qeq n p q (Qa1.mk T (List.replicate k 0) [] 0) k=some (Qa1.mk T (List.replicate c 0) (List.replicate l (-1)) 0)
 | 0,m,k,h1,h2=>by omega
 | n+1,0,k,h1,h2=>by
  have:k=c:=by omega
  subst this
  rw [Qeq]
  have c1:decide ((k:Int)<p.Cells)=false:=by rw [hpc];simp
  simp only [c1,Bool.false_eq_true,if_false]
  exact Qw0 (q:=q) (T:=T) (C:=List.replicate k 0) hl hp FU l 0 (by omega) (Qip (by omega))
 | n+1,m+1,k,h1,h2=>by
  rw [Qeq]
  have c1:decide ((k:Int)<p.Cells)=true:=by rw [hpc];simp;omega
  simp only [c1,if_true,Qid (a:=List.replicate k (0:Nat)) (b:=[0]) (by simp;omega),Option.bind_some,Qik (show k<4611686018427387904 by omega),Xbe]
  exact Quj hc hl hpc hp n m (k+1) (by omega) (by omega)
theorem Xic {p:Qaf} (h:Qjy p=true) : ∃ c l:Nat,c≤4∧l≤4∧p.Cells=(c:Int)∧p.Locks=(l:Int):=by
 unfold Qjy at h
 simp only [Bool.and_eq_true,inr,decide_eq_true_eq] at h
 exact ⟨p.Cells.toNat,p.Locks.toNat,by omega,by omega,by omega,by omega⟩
theorem Xd3 {p:Qaf} (hg:Qjy p=true) : ∃ c l:Nat,c≤4∧l≤4∧p.Cells=(c:Int)∧p.Locks=(l:Int)∧Qg6 p=some (Xi0 c l)∧Qg5 p=some (Xi0 c l):=by
 obtain ⟨c,l,h1,h2,h3,h4⟩:=Xic hg
 have s1:=Quj (p:=p) (q:=Qa1.mk [] [] [] 0) (T:=[Qa0.mk 0 0 1 (-1) (-1) []]) h1 h2 h3 h4 FU c 0 (by omega) (Qip (by omega))
 have s2:=Qq2 (q:=Qa1.mk [] [] [] 0) (l:=l) (T:=[Qa0.mk 0 0 1 (-1) (-1) []]) (C:=List.replicate c 0) h2 FU l 0 (by omega) (Qip (by omega))
 refine ⟨c,l,h1,h2,h3,h4,?_,?_⟩
 ·rw [Qg6,Qee,Option.bind_some]
  exact s1
 ·rw [Qg5,Qg4,Option.bind_some,h3,h4,Xlx (z:=(0:Nat)) (n:=c) (by omega),Xlx (z:=(0:Int)) (n:=l) (by omega)]
  simp only [Option.bind_some]
  simpa [Xi0] using s2
end Go.Proofs.YtemmdkcpcjidmaaGreat
