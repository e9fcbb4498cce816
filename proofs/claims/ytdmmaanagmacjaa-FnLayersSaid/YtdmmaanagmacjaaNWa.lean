/- Plain facts for FnLayers; no condition. -/

import Derived.Test.YtdmmaanagmacjaaST4
set_option linter.unusedVariables false
namespace Go.Proofs.Ytdmmaanagmacjaa
open Go Go.T
def Xes (c l:Nat) : Qa3:=Qa3.mk [Qa2.mk 0 0 1 (-1) (-1) []] (List.replicate c 0) (List.replicate l (-1)) 0
theorem Qyb {α:Type} (x : α) (k:Nat) : List.replicate k x++[x]=List.replicate (k+1) x:=by
 rw [List.replicate_succ']
theorem Xi3 (l k:Nat) (h:k<l) : (List.replicate k (-1:Int)++List.replicate (l - k) 0).set k (-1)=List.replicate (k+1) (-1)++List.replicate (l - (k+1)) 0:=by
 have e:List.replicate (l - k) (0:Int)=0 :: List.replicate (l - (k+1)) 0:=by
  rw [show l - k=(l - (k+1))+1 by omega,List.replicate_succ]
 rw [e,List.set_append_right _ _ (by simp),List.length_replicate,Nat.sub_self,List.set_cons_zero,← Qyb]
 simp
theorem Qms {q:Qa3} {l:Nat} {T:List Qa2} {C:List Nat} (hl:l≤4) : ∀ (n m k:Nat),k+m=l→m<n →
  Qh0 (List.replicate l 0) n q (Qa3.mk T C (List.replicate k (-1)++List.replicate (l - k) 0) 0) k=some (Qa3.mk T C (List.replicate l (-1)) 0)
 | 0,m,k,h1,h2=>by omega
 | n+1,0,k,h1,h2=>by
  have:k=l:=by omega
  subst this
  rw [Qh0]
  simp
 | n+1,m+1,k,h1,h2=>by
  have hk:k<l:=by omega
  rw [Qh0]
  have c1:decide ((k:Int)<((List.replicate l (0:Int)).length:Int))=true:=by simp;omega
  have r1:rd (List.replicate k (-1:Int)++List.replicate (l - k) 0) (k:Int)=some 0:=by
   rw [Qmw,List.getElem?_append_right (by simp),List.length_replicate,Nat.sub_self,List.getElem?_replicate,if_pos (by omega)]
  simp only [c1,if_true,r1,Option.bind_some,Qff (show k<4611686018427387904 by omega),Int.toNat_natCast,Xi3 l k hk]
  exact Qms hl n m (k+1) (by omega) (by omega)
theorem Qrv {p:Qa9} {q:Qa3} {l:Nat} {T:List Qa2} {C:List Nat} (hl:l≤4) (hp:p.Locks=(l:Int)) : ∀ (n m k:Nat),k+m=l→m<n →
  Qea n p q (Qa3.mk T C (List.replicate k (-1)) 0) k=some (Qa3.mk T C (List.replicate l (-1)) 0)
 | 0,m,k,h1,h2=>by omega
 | n+1,0,k,h1,h2=>by
  have:k=l:=by omega
  subst this
  rw [Qea]
  simp [hp]
 | n+1,m+1,k,h1,h2=>by
  rw [Qea]
  have c1:decide ((k:Int)<p.Locks)=true:=by rw [hp];simp;omega
  simp only [c1,if_true,Qdm (a:=List.replicate k (-1:Int)) (b:=[-1]) (by simp;omega),Option.bind_some,Qff (show k<4611686018427387904 by omega),Qyb]
  exact Qrv hl hp n m (k+1) (by omega) (by omega)
theorem Qrz {p:Qa9} {q:Qa3} {c l:Nat} {T:List Qa2} (hc:c≤4) (hl:l≤4) (hpc:p.Cells=(c:Int)) (hp:p.Locks=(l:Int)) : ∀ (n m k:Nat),k+m=c→m<n →
  Qe7 n p q (Qa3.mk T (List.replicate k 0) [] 0) k=some (Qa3.mk T (List.replicate c 0) (List.replicate l (-1)) 0)
 | 0,m,k,h1,h2=>by omega
 | n+1,0,k,h1,h2=>by
  have:k=c:=by omega
  subst this
  rw [Qe7]
  have c1:decide ((k:Int)<p.Cells)=false:=by rw [hpc];simp
  simp only [c1,Bool.false_eq_true,if_false]
  exact Qrv (q:=q) (T:=T) (C:=List.replicate k 0) hl hp FU l 0 (by omega) (Qeg (by omega))
 | n+1,m+1,k,h1,h2=>by
  rw [Qe7]
  have c1:decide ((k:Int)<p.Cells)=true:=by rw [hpc];simp;omega
  simp only [c1,if_true,Qdm (a:=List.replicate k (0:Nat)) (b:=[0]) (by simp;omega),Option.bind_some,Qff (show k<4611686018427387904 by omega),Qyb]
  exact Qrz hc hl hpc hp n m (k+1) (by omega) (by omega)
theorem Xfm {p:Qa9} (h:Qt0 p=true) : ∃ c l:Nat,c≤4∧l≤4∧p.Cells=(c:Int)∧p.Locks=(l:Int):=by
 unfold Qt0 at h
 simp only [Bool.and_eq_true,inr,decide_eq_true_eq] at h
 exact ⟨p.Cells.toNat,p.Locks.toNat,by omega,by omega,by omega,by omega⟩
theorem Xai {p:Qa9} (hg:Qt0 p=true) : ∃ c l:Nat,c≤4∧l≤4∧p.Cells=(c:Int)∧p.Locks=(l:Int)∧Qha p=some (Xes c l)∧Qk3 p=some (Xes c l):=by
 obtain ⟨c,l,h1,h2,h3,h4⟩:=Xfm hg
 have s1:=Qrz (p:=p) (q:=Qa3.mk [] [] [] 0) (T:=[Qa2.mk 0 0 1 (-1) (-1) []]) h1 h2 h3 h4 FU c 0 (by omega) (Qeg (by omega))
 have s2:=Qms (q:=Qa3.mk [] [] [] 0) (l:=l) (T:=[Qa2.mk 0 0 1 (-1) (-1) []]) (C:=List.replicate c 0) h2 FU l 0 (by omega) (Qeg (by omega))
 refine ⟨c,l,h1,h2,h3,h4,?_,?_⟩
 ·rw [Qha,Qe1,Option.bind_some]
  exact s1
 ·rw [Qk3,Qhl,Option.bind_some,h3,h4,Xb8 (z:=(0:Nat)) (n:=c) (by omega),Xb8 (z:=(0:Int)) (n:=l) (by omega)]
  simp only [Option.bind_some]
  simpa [Xes] using s2
end Go.Proofs.Ytdmmaanagmacjaa
