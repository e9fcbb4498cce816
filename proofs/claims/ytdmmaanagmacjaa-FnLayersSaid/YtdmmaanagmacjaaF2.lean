/- Plain facts for FnLayers; no condition. -/

import Derived.Test.YtdmmaanagmacjaaF1
set_option linter.unusedVariables false
namespace Go.Proofs.Ytdmmaanagmacjaa
open Go Go.T
def Qvh (a b:Qa5) : Bool:=a.Thread == b.Thread || Qlj a == Qlf b ||
 (if a.Kind=6 then a.Obj == b.Thread else if a.Kind=11 then b.Kind == 7 && b.Obj == a.Thread else if a.Kind=10 then b.Kind == 9 && a.Lock == b.Thread else false)
theorem Xbe (a b:Qa5) : Qht a b=some (Qvh a b):=by
 have hg:Qhr a=some (Qlj a):=by
  unfold Qhr Qlj
  by_cases h1:a.Kind=5
  ·simp [h1]
  ·by_cases h2:a.Kind=8 <;> simp [h1,h2]
 have ht:Qhx b=some (Qlf b):=by
  unfold Qhx Qlf
  by_cases h1:b.Kind=4
  ·simp [h1]
  ·by_cases h2:b.Kind=9 <;> simp [h1,h2]
 unfold Qht Qvh Qfw
 rw [hg,ht]
 simp only [Option.bind_some]
 by_cases h1:a.Thread=b.Thread
 ·simp [h1]
 ·have h1':(a.Thread == b.Thread)=false:=by simp [h1]
  rw [h1']
  cases Qlj a == Qlf b
  ·by_cases h6:a.Kind=6
   ·simp [h6]
   ·by_cases h11:a.Kind=11
    ·simp only [h11];cases b.Kind == 7 <;> simp
    ·by_cases h10:a.Kind=10
     ·simp only [h10];cases b.Kind == 9 <;> simp
     ·simp [h6,h11,h10]
  ·simp
theorem Quv {a b:Qa5} (ha:Qjq a=true) (hb:Qjq b=true) : Qk7 a b=some (Qvh a b):=by
 have good : ∀ e:Qa5,Qjq e=true→(e.Kind=4∨e.Kind=5→0≤e.Obj)∧(e.Kind=8∨e.Kind=9→0≤e.Lock):=by
  intro e h
  unfold Qjq at h
  simp only [Bool.and_eq_true,Bool.or_eq_true,Bool.not_eq_true',bne_iff_ne,decide_eq_true_eq,inr,Bool.and_eq_false_iff,decide_eq_false_iff_not] at h
  omega
 have ga:=good a ha
 have gb:=good b hb
 have j0:Qg1 a b=some (if a.Kind=6 then a.Obj == b.Thread else if a.Kind=11 then b.Kind == 7 && b.Obj == a.Thread else if a.Kind=10 then b.Kind == 9 && a.Lock == b.Thread else false):=by
  unfold Qg1
  by_cases h6:a.Kind=6
  ·simp [h6]
  ·by_cases h11:a.Kind=11
   ·simp only [h11];cases b.Kind == 7 <;> simp
   ·by_cases h10:a.Kind=10
    ·simp only [h10];cases b.Kind == 9 <;> simp
    ·simp [h6,h11,h10]
 have hg:Qe0 a=some (if Qlj a = -2 then -1 else Qlj a):=by
  unfold Qe0 Qlj
  by_cases h1:a.Kind=5
  ·have:=ga.1 (.inr h1)
   have e : ¬ a.Obj = -2:=by omega
   simp [h1,e]
  ·by_cases h2:a.Kind=8
   ·have:=ga.2 (.inl h2)
    have e : ¬ a.Lock = -2:=by omega
    simp [h2,e]
   ·simp [h1,h2]
 have ht:Qfa b=some (if Qlf b = -3 then -1 else Qlf b):=by
  unfold Qfa Qlf
  by_cases h1:b.Kind=4
  ·have:=gb.1 (.inl h1)
   have e : ¬ b.Obj = -3:=by omega
   simp [h1,e]
  ·by_cases h2:b.Kind=9
   ·have:=gb.2 (.inr h2)
    have e : ¬ b.Lock = -3:=by omega
    simp [h2,e]
   ·simp [h1,h2]
 have r1:Qlj a = -2∨0≤Qlj a:=by
  unfold Qlj
  by_cases h1:a.Kind=5
  ·right;rw [if_pos h1];exact ga.1 (.inr h1)
  ·by_cases h2:a.Kind=8
   ·right;rw [if_neg h1,if_pos h2];exact ga.2 (.inl h2)
   ·left;rw [if_neg h1,if_neg h2]
 have r2:Qlf b = -3∨0≤Qlf b:=by
  unfold Qlf
  by_cases h1:b.Kind=4
  ·right;rw [if_pos h1];exact gb.1 (.inl h1)
  ·by_cases h2:b.Kind=9
   ·right;rw [if_neg h1,if_pos h2];exact gb.2 (.inr h2)
   ·left;rw [if_neg h1,if_neg h2]
 unfold Qk7 Qvh
 rw [hg,ht,j0]
 simp only [Option.bind_some]
 generalize (if a.Kind=6 then a.Obj == b.Thread else if a.Kind=11 then b.Kind == 7 && b.Obj == a.Thread else if a.Kind=10 then b.Kind == 9 && a.Lock == b.Thread else false)=z
 generalize Qlj a=x at r1
 generalize Qlf b=y at r2
 by_cases h1:a.Thread=b.Thread
 ·simp [h1]
 ·have h1':(a.Thread == b.Thread)=false:=by simp [h1]
  rw [h1']
  rcases r1 with rfl | r1
  ·have e:((-2:Int) == y)=false:=by simp;omega
   simp [e]
  ·have e : ¬ x = -2:=by omega
   rw [if_neg e]
   rcases r2 with rfl | r2
   ·have e2:(x == (-3:Int))=false:=by simp;omega
    have e3:(x == (-1:Int))=false:=by simp;omega
    simp [e2,e3,r1]
   ·have e2 : ¬ y = -3:=by omega
    rw [if_neg e2]
    cases x == y <;> simp [r1]
section
def Qjs (L:Nat→Nat→Bool) (R:Nat→Nat→Bool) (e:Nat) : Nat→Nat→(Nat→Bool)→Nat→Bool
 | 0,_,r=>r
 | n+1,d,r=>Qjs L R e n (d+1) (if L d e then (fun k=>k == d || r k || R d k) else r)
def upd (F:Nat→Nat→Bool) (e:Nat) (r:Nat→Bool) : Nat→Nat→Bool:=fun i=>if i=e then r else F i
def Ql3 (L:Nat→Nat→Bool) : Nat→Nat→(Nat→Nat→Bool)→Nat→Nat→Bool
 | 0,_,F=>F
 | m+1,e,F=>Ql3 L m (e+1) (upd F e (Qjs L F e e 0 (fun _=>false)))
def Qoi (p:List Qa5) (i j:Nat) : Bool:=Qvh (Qyv p i) (Qyv p j)
def Qk2 (len e:Nat) (F:Nat→Nat→Bool) (r:List Bool) : List (List Bool):=tbl (fun i=>if i<e then tbl (F i) len else if i=e then r else []) len
end
theorem Qqz {len e:Nat} {F:Nat→Nat→Bool} {r r':List Bool} (he:e<len) : (Qk2 len e F r).set e r'=Qk2 len e F r':=by
  unfold Qk2
  rw [Qw0]
  exact Qj9 (fun k hk=>by
    by_cases h:k=e
    · subst h;simp
    · simp [h])
theorem Qyx {len e:Nat} {F:Nat→Nat→Bool} {r:List Bool} (he:e<len) : rd (Qk2 len e F r) (e:Int)=some r:=by
 unfold Qk2;rw [Qrw he];simp
theorem Qy8 {len e d:Nat} {F:Nat→Nat→Bool} {r:List Bool} (he:e<len) (hd:d<e) : rd (Qk2 len e F r) (d:Int)=some (tbl (F d) len):=by
 unfold Qk2;rw [Qrw (by omega)];simp [hd]
theorem Xbg {len e d:Nat} {F:Nat→Nat→Bool} {r:List Bool} (he:e<len) (hd:d<e) : (Qk2 len e F r).set d (tbl (F d) len)=Qk2 len e F r:=by
  unfold Qk2
  rw [Qw0]
  exact Qj9 (fun k hk=>by
    by_cases h:k=d
    · subst h;simp [hd]
    · simp [h])
theorem Xkn {a b:Nat} (h:a≠b) : neI (a:Int) (b:Int)=some ():=by unfold neI;rw [if_neg (by omega)]
theorem Qq2 {p:List Qa5} {K0 K1:List (List Bool)→Int→Option (List (List Bool))} {len e d:Nat} {F:Nat→Nat→Bool} (hl:len<1000000) (he:e<len) (hd:d<e) : ∀ (n k:Nat) (r:Nat→Bool),k≤len→len<n+k →
    Qbw K0 K1 p e d (tbl (F d) len) n (Qk2 len e F (tbl r len)) (tbl (F d) len) k=K1 (Qk2 len e F (tbl (fun j=>if k≤j then r j || F d j else r j) len)) (((d+1:Nat) : Int))
  | 0,k,r,h1,h2=>by omega
  | n+1,k,r,h1,h2=>by
    rw [Qbw]
    by_cases hk:k<len
    · have step : ∀ x:Bool,x=(r k || F d k)→Qbw K0 K1 p e d (tbl (F d) len) n (Qk2 len e F (tbl (fun j=>if j=k then x else r j) len)) (tbl (F d) len) ((k+1:Nat) : Int)=K1 (Qk2 len e F (tbl (fun j=>if k≤j then r j || F d j else r j) len)) (((d+1:Nat) : Int)):=by
        intro x hx
        rw [Qq2 hl he hd n (k+1) _ hk (by omega)]
        congr 2
        exact Qj9 (fun j _=>by
          by_cases h:j=k
          · subst h;rw [if_neg (by omega),if_pos rfl,if_pos (Nat.le_refl _),hx]
          · simp only [h,if_false]
            by_cases h':k≤j
            · rw [if_pos (by omega),if_pos h']
            · rw [if_neg (by omega),if_neg h'])
      simp only [PS,Qn2,hk,Qrw (f:=F d) hk,Qyx he,Qy8 he hd,Xkn (show d≠e by omega),Qrw (f:=r) hk,Qff (k:=k) (by omega),Qqz he,Qw0]
      cases hr:r k
      · simp only [PS, ]
        exact step (F d k) (by rw [hr];rfl)
      · simp only [PS, ]
        exact step true (by rw [hr];rfl)
    · have:k=len:=by omega
      subst this
      simp only [PS,Qn2,Nat.lt_irrefl,Qy8 he hd,Xbg he hd,Qff (k:=d) (by omega)]
      congr 2
      exact Qj9 (fun j hj=>by rw [if_neg (by omega)])
theorem Qlx {p:List Qa5} {K0:List (List Bool)→Int→Option (List (List Bool))} {e:Nat} {F:Nat→Nat→Bool} (hl:p.length<1000000) (he:e<p.length) : ∀ (n m d:Nat) (r:Nat→Bool),d+m=e→m<n →
  Qbv K0 p e n (Qk2 p.length e F (tbl r p.length)) d=K0 (Qk2 p.length e F (tbl (Qjs (Qoi p) F e m d r) p.length)) (((e+1:Nat) : Int))
 | 0,m,d,r,h1,h2=>by omega
 | n+1,0,d,r,h1,h2=>by
  rw [Qbv]
  have:d=e:=by omega
  subst this
  simp only [PS,Nat.lt_irrefl,Qff (k:=d) (by omega),Qjs]
 | n+1,m+1,d,r,h1,h2=>by
  rw [Qbv]
  have hd:d<e:=by omega
  simp only [PS,hd,Qu7 (show d<p.length by omega),Qu7 he,Xbe,Qff (k:=d) (by omega),Qjs]
  show _=K0 (Qk2 p.length e F (tbl (Qjs (Qoi p) F e m (d+1) (if Qvh (Qyv p d) (Qyv p e)=true then _ else _)) p.length)) _
  cases Qvh (Qyv p d) (Qyv p e)
  ·simp only [PS, ]
   exact Qlx hl he n m (d+1) r (by omega) (by omega)
  ·simp only [PS,Qyx he,Qrw (f:=r) (show d<p.length by omega),Qqz he,Qw0,Qy8 he hd]
   rw [show Qbw K0 _ p (e:Int) (d:Int) (tbl (F d) p.length) FU _ (tbl (F d) p.length) 0=_ from Qq2 hl he hd FU 0 _ (by omega) (by have:=Qeg (n:=p.length) (by omega);omega)]
   rw [Qlx hl he n m (d+1) _ (by omega) (by omega)]
   congr 4
   funext j
   simp only [Nat.zero_le,if_true]
   by_cases h:j=d
   ·simp [h]
   ·have h':(j == d)=false:=by simp [h]
    rw [h',if_neg h,Bool.false_or]
theorem Qq6 {p:List Qa5} (hl:p.length<1000000) : ∀ (n m e:Nat) (F:Nat→Nat→Bool),e+m=p.length→m<n →
    Qcu p n (Qk2 p.length e F []) e=some (tbl (fun i=>tbl (Ql3 (Qoi p) m e F i) p.length) p.length)
  | 0,m,e,F,h1,h2=>by omega
  | n+1,0,e,F,h1,h2=>by
    rw [Qcu]
    have:e=p.length:=by omega
    subst this
    simp only [PS,Nat.lt_irrefl,Ql3]
    congr 1
    exact Qj9 (fun k hk=>by rw [if_pos hk])
  | n+1,m+1,e,F,h1,h2=>by
    rw [Qcu]
    have he:e<p.length:=by omega
    simp only [PS,he,Xb8 (z:=false) (n:=p.length) (by omega),Qyx he,Qqz he,Xc4 (x:=false),Ql3]
    rw [show Qbv _ p (e:Int) FU _ 0=_ from Qlx hl he FU e 0 _ (by omega) (by have:=Qeg (n:=e) (by omega);omega)]
    rw [← Qq6 hl n m (e+1) _ (by omega) (by omega)]
    congr 1
    unfold Qk2 upd
    exact Qj9 (fun k hk=>by
      by_cases h:k=e
      · subst h;simp
      · by_cases h':k<e
        · rw [if_pos h',if_pos (by omega)];simp [h]
        · rw [if_neg h',if_neg h,if_neg (by omega)];simp)
def Qf8 (p:List Qa5) : Nat→Nat→Bool:=Ql3 (Qoi p) p.length 0 (fun _ _=>false)
theorem Qwp {p:List Qa5} (hl:p.length<1000000) : Qhn p=some (tbl (fun i=>tbl (Qf8 p i) p.length) p.length):=by
 rw [Qhn,Xb8 (z:=([] : List Bool)) (n:=p.length) (by omega)]
 simp only [PS,Xc4 (x:=([] : List Bool))]
 have:=Qq6 hl FU p.length 0 (fun _ _=>false) (by omega) (by have:=Qeg (n:=p.length) (by omega);omega)
 rw [show tbl (fun _=>([] : List Bool)) p.length=Qk2 p.length 0 (fun _ _=>false) [] from Qj9 (fun k _=>by simp)]
 exact this
end Go.Proofs.Ytdmmaanagmacjaa
