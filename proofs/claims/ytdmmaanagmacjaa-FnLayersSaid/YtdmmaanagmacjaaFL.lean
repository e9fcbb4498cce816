/- Plain facts for FnLayers; no condition. -/

import Derived.Test.YtdmmaanagmacjaaBK
set_option linter.unusedVariables false
namespace Go.Proofs.Ytdmmaanagmacjaa
open Go Go.T
def mOf (r:Nat) : Nat:=if r<4503599627370496 then r else 4503599627370496+r % 4503599627370496
def iOf (r:Nat) : Nat:=if r<4503599627370496 then 0 else r / 4503599627370496 - 1
theorem Xk1 (r:Nat) : mOf r<9007199254740992:=by unfold mOf;split <;> omega
theorem Xd1 {r q:Nat} (h:mOf r * 2 ^ (iOf r - min (iOf r) (iOf q))=mOf q * 2 ^ (iOf q - min (iOf r) (iOf q))) : r=q:=by
 have big : ∀ {r q:Nat},iOf r<iOf q→mOf r=mOf q * 2 ^ (iOf q - iOf r)→False:=by
  intro r q hlt he
  have hq : 4503599627370496≤mOf q:=by
   unfold iOf at hlt
   unfold mOf
   by_cases hq:q<4503599627370496
   ·rw [if_pos hq] at hlt;omega
   ·rw [if_neg hq];omega
  have h2 : 2≤2 ^ (iOf q - iOf r):=by
   calc 2=2 ^ 1:=rfl
    _≤2 ^ (iOf q - iOf r):=Nat.pow_le_pow_right (by omega) (by omega)
  have h3 : 4503599627370496 * 2≤mOf q * 2 ^ (iOf q - iOf r):=Nat.mul_le_mul hq h2
  have:=Xk1 r
  omega
 rcases Nat.lt_trichotomy (iOf r) (iOf q) with hlt | heq | hlt
 ·rw [Nat.min_eq_left (by omega),Nat.sub_self,Nat.pow_zero,Nat.mul_one] at h
  exact (big hlt h).elim
 ·rw [heq,Nat.min_self,Nat.sub_self,Nat.pow_zero,Nat.mul_one,Nat.mul_one] at h
  unfold iOf at heq
  unfold mOf at h
  split at h <;> split at h <;> simp_all <;> omega
 ·rw [Nat.min_eq_right (by omega),Nat.sub_self,Nat.pow_zero,Nat.mul_one] at h
  exact (big hlt h.symm).elim
theorem Qti (x:Nat) : (x % 9223372036854775808<9218868437227405312∧Ieee.double.read x = .number (x / 9223372036854775808 % 2 == 1) (mOf (x % 9223372036854775808)) (-1074+(iOf (x % 9223372036854775808) : Nat))) ∨
  (x % 9223372036854775808=9218868437227405312∧Ieee.double.read x = .infinity (x / 9223372036854775808 % 2 == 1))∨∃ s n,Ieee.double.read x = .nan s n:=by
 have h1:Ieee.double.signWeight=9223372036854775808:=by decide +kernel
 have h2:Ieee.double.binade=4503599627370496:=by decide +kernel
 have h3:Ieee.double.infRung=9218868437227405312:=by decide +kernel
 have h4:Ieee.double.leastPlace = -1074:=by decide +kernel
 unfold Ieee.Format.read
 simp only [h1,h2,h3,h4]
 by_cases hb:x % 9223372036854775808<4503599627370496
 ·left
  refine ⟨by omega,?_⟩
  rw [if_pos hb]
  simp [mOf,iOf,hb]
 ·rw [if_neg hb]
  by_cases hi:x % 9223372036854775808<9218868437227405312
  ·left
   refine ⟨hi,?_⟩
   rw [if_pos hi]
   simp [mOf,iOf,hb]
  ·rw [if_neg hi]
   by_cases he:x % 9223372036854775808=9218868437227405312
   ·right;left
    exact ⟨he,by rw [if_pos he]⟩
   ·right;right
    rw [if_neg he]
    exact ⟨_,_,rfl⟩
theorem Xa2 {x y:Nat} (hx:x<18446744073709551616) (hy:y<18446744073709551616) (h:Qd9 x y=some .eq) (h0:Qd9 x 0≠some .eq) : x=y:=by
 have key:x % 9223372036854775808=y % 9223372036854775808→(x / 9223372036854775808 % 2 == 1)=(y / 9223372036854775808 % 2 == 1)→x=y:=by
  intro a b
  have e1:x / 9223372036854775808 % 2=x / 9223372036854775808:=by omega
  have e2:y / 9223372036854775808 % 2=y / 9223372036854775808:=by omega
  rw [e1,e2] at b
  have c1:x / 9223372036854775808=0∨x / 9223372036854775808=1:=by omega
  have c2:y / 9223372036854775808=0∨y / 9223372036854775808=1:=by omega
  rcases c1 with c1 | c1 <;> rcases c2 with c2 | c2 <;> rw [c1,c2] at b <;> simp at b <;> omega
 have hz:mOf (x % 9223372036854775808)≠0∨¬ x % 9223372036854775808<9218868437227405312:=by
  by_cases hr:x % 9223372036854775808<9218868437227405312
  ·left
   intro e
   apply h0
   rw [Xdc hx]
   unfold mOf at e
   split at e <;> omega
  ·exact .inr hr
 rw [Qfq] at h
 rcases Qti x with ⟨r1,r2⟩ | ⟨r1,r2⟩ | ⟨s,n,r2⟩ <;> rcases Qti y with ⟨q1,q2⟩ | ⟨q1,q2⟩ | ⟨t,m,q2⟩ <;> rw [r2,q2] at h
 ·rw [Qn5,Option.some.injEq,Xag] at h
  have hz' : 0<mOf (x % 9223372036854775808):=by rcases hz with hz | hz <;> omega
  have hb1:((-1074+((iOf (x % 9223372036854775808) : Nat) : Int)) - min (-1074+((iOf (x % 9223372036854775808) : Nat) : Int)) (-1074+((iOf (y % 9223372036854775808) : Nat) : Int))).toNat=iOf (x % 9223372036854775808) - min (iOf (x % 9223372036854775808)) (iOf (y % 9223372036854775808)):=by omega
  have hb2:((-1074+((iOf (y % 9223372036854775808) : Nat) : Int)) - min (-1074+((iOf (x % 9223372036854775808) : Nat) : Int)) (-1074+((iOf (y % 9223372036854775808) : Nat) : Int))).toNat=iOf (y % 9223372036854775808) - min (iOf (x % 9223372036854775808)) (iOf (y % 9223372036854775808)):=by omega
  rw [hb1,hb2] at h
  have hp : 0<mOf (x % 9223372036854775808) * 2 ^ (iOf (x % 9223372036854775808) - min (iOf (x % 9223372036854775808)) (iOf (y % 9223372036854775808))):=Nat.mul_pos hz' (Nat.pow_pos (by omega))
  cases hs:(x / 9223372036854775808 % 2 == 1) <;> cases ht:(y / 9223372036854775808 % 2 == 1) <;> rw [hs,ht] at h <;> simp only [Qs9,Xfj] at h
  ·exact key (Xd1 (by omega)) (by rw [hs,ht])
  ·omega
  ·omega
  ·exact key (Xd1 (by omega)) (by rw [hs,ht])
 ·cases hs:(y / 9223372036854775808 % 2 == 1) <;> rw [hs] at h <;> simp [Ieee.Datum.order] at h
 ·simp [Ieee.Datum.order] at h
 ·cases hs:(x / 9223372036854775808 % 2 == 1) <;> rw [hs] at h <;> simp [Ieee.Datum.order] at h
 ·refine key (by omega) ?_
  cases hs:(x / 9223372036854775808 % 2 == 1) <;> cases ht:(y / 9223372036854775808 % 2 == 1) <;> rw [hs,ht] at h
  ·simp [Ieee.Datum.order] at h
  ·simp [Ieee.Datum.order] at h
 ·simp [Ieee.Datum.order] at h
 ·simp [Ieee.Datum.order] at h
 ·simp [Ieee.Datum.order] at h
 ·simp [Ieee.Datum.order] at h
theorem Qvk (x:Nat) : (Qd9 x x != some .eq)=Qme x:=by
 show (Qd9 x x != some .eq)=(Qd9 x x).isNone
 rcases Qsa x with h | h <;> rw [h] <;> rfl
theorem Xbi (x:Nat) : ∃ b,Qdb x=some b:=by
 unfold Qdb
 split
 ·exact ⟨_,rfl⟩
 ·split <;> exact ⟨_,rfl⟩
theorem Xe1 {x y:Nat} (hx:x<18446744073709551616) (hy:y<18446744073709551616) : Qcr x y=some (Qyn x y):=by
 unfold Qcr Qyn
 simp only [Qu1,Qvk,Option.bind_some]
 cases nx:Qme x
 ·cases ny:Qme y
  ·simp only [Bool.false_eq_true,if_false,Bool.and_false,Bool.false_or]
   unfold Qel
   by_cases e:x=y
   ·subst e
    have:Qd9 x x=some .eq:=by have:=Qvk x;rw [nx] at this;simpa using this
    obtain ⟨b,hb⟩:=Xbi x
    simp [this,hb]
   ·have e':(x == y)=false:=by simp [e]
    rw [e']
    by_cases h:Qd9 x y=some .eq
    ·have h0:Qd9 x 0=some .eq:=Classical.byContradiction fun h0=>e (Xa2 hx hy h h0)
     have hyx:Qd9 y x=some .eq:=by rw [Qfq] at h ⊢; exact Qkk h
     have hy0:Qd9 y 0=some .eq:=Classical.byContradiction fun h0=>e (Xa2 hy hx hyx h0).symm
     rw [Xdc hx] at h0
     rw [Xdc hy] at hy0
     rcases h0 with rfl | rfl <;> rcases hy0 with rfl | rfl
     ·exact absurd rfl e
     ·simp [h,Qz7,Xe8]
     ·simp [h,Qz7,Xe8]
     ·exact absurd rfl e
    ·simp [h]
  ·have e':(x == y)=false:=by
    rw [beq_eq_false_iff_ne];intro e;rw [e,ny] at nx;cases nx
   simp [e']
 ·cases ny:Qme y
  ·have e':(x == y)=false:=by
    rw [beq_eq_false_iff_ne];intro e;rw [e,ny] at nx;cases nx
   simp [e']
  ·simp
theorem Qtt (b:Bool) : Qfp b=some (if b=true then 1 else 0):=by unfold Qfp;cases b <;> rfl
theorem fOf1:fOf 1=4607182418800017408:=by decide +kernel
theorem fOf0:fOf 0=0:=by decide +kernel
theorem Qh9 {c:Int} {x y:Nat} (hx:x<18446744073709551616) (hy:y<18446744073709551616) : ∃ z,Qec c x y=some z∧Qnl c x y=some z:=by
 unfold Qec Qnl
 by_cases h4:c=4
 ·exact ⟨fad x y,by simp [h4],by simp [h4]⟩
 by_cases h5:c=5
 ·exact ⟨fsb x y,by simp [h5],by simp [h5]⟩
 by_cases h6:c=6
 ·exact ⟨fml x y,by simp [h6],by simp [h6]⟩
 by_cases h7:c=7
 ·exact ⟨fdv x y,by simp [h7],by simp [h7]⟩
 by_cases h8:c=8
 ·refine ⟨if (Qd9 x y == some .lt)=true then 4607182418800017408 else 0,?_,?_⟩
  ·unfold Qck;cases Qd9 x y == some .lt <;> simp [h8]
  ·rw [Qtt];cases Qd9 x y == some .lt <;> simp [h8,fOf1,fOf0]
 ·refine ⟨if Qyn x y=true then 4607182418800017408 else 0,?_,?_⟩
  ·rw [Xe1 hx hy];unfold Qck;cases Qyn x y <;> simp [h4,h5,h6,h7,h8]
  ·have:Qqa x y=some (Qyn x y):=rfl
   rw [this];simp only [Option.bind_some,Qtt];cases Qyn x y <;> simp [h4,h5,h6,h7,h8,fOf1,fOf0]
theorem kind0:Qcf 0=some 2:=by
 have hn:(Qd9 0 0 != some .eq)=false:=by decide
 have hf:Qme 0=false:=by rw [← Qvk];exact hn
 rw [Qcf,Qgq,Qyt (by decide) Xlf hf]
 simp [hn,Qto]
theorem Xk5:Qcf 9223372036854775808=some 2:=by
 have hr:Ieee.double.read 9223372036854775808 = .number true 0 (-1074):=by decide +kernel
 have hn:(Qd9 9223372036854775808 9223372036854775808 != some .eq)=false:=by decide +kernel
 have hf:Qme 9223372036854775808=false:=by rw [← Qvk];exact hn
 have hz:Qd9 9223372036854775808 0=some .eq:=by decide +kernel
 rw [Qcf,Qgq,Qyt (by decide) hr hf]
 simp [hn,hz]
theorem Xi9 {x:Nat} (hx:x<18446744073709551616) : Qs0 x=some ((Qd9 x x != some .eq) || (Qd9 x 0 == some .eq)):=by
 rw [Qs0]
 cases hn:(Qd9 x x != some .eq)
 ·by_cases h0:Qd9 x 0=some .eq
  ·have hk:Qcf x=some 2:=by
    rcases (Xdc hx).1 h0 with rfl | rfl
    ·exact kind0
    ·exact Xk5
   simp [hk,h0]
  ·obtain ⟨k,hk⟩:=Qx4 x
   have h2:k≠0∧k≠2:=by
    have hk2:=hk
    rw [Qcf,Qgq] at hk2
    simp only [hn,Option.bind_some,Bool.false_eq_true,if_false] at hk2
    have e0:(Qd9 x 0 == some .eq)=false:=by simp [h0]
    cases hi:Qgv x with
    | none=>rw [hi] at hk2;cases hk2
    | some b =>
     rw [hi] at hk2
     cases b
     ·simp only [Option.bind_some,Bool.false_eq_true,if_false,e0] at hk2
      cases ht:Qmg x with
      | none=>rw [ht] at hk2;cases hk2
      | some t =>
       rw [ht] at hk2
       simp only [Option.bind_some] at hk2
       split at hk2 <;> (cases hk2;decide)
     ·simp only [Option.bind_some,if_true] at hk2
      cases hk2;decide
   have e1:(k == 0)=false:=by simp [h2.1]
   have e2:(k == 2)=false:=by simp [h2.2]
   have e0:(Qd9 x 0 == some .eq)=false:=by simp [h0]
   simp only [hk,Option.bind_some,e1,e2,e0,Bool.false_eq_true,if_false,Bool.or_self]
 ·have hk:Qcf x=some 0:=by rw [Qcf,Qgq];simp [hn]
  simp [hk]
end Go.Proofs.Ytdmmaanagmacjaa
