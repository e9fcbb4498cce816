/- Plain facts for FnLayers; no condition. -/

import Derived.Test.YtdmmaanagmacjaaE0
set_option linter.unusedVariables false
namespace Go.Proofs.Ytdmmaanagmacjaa
open Go Go.T
def Qye (v:Vector Int 4) (k:Nat) : Bool:=(BitVec.ofInt 64 ((v[k / 64]?).getD 0)).getLsbD (k % 64)
def VR (v:Vector Int 4) (r:Nat→Bool) : Prop:=(∀ (w:Nat) (x:Int),v[w]? = some x→0≤x∧x<18446744073709551616)∧∀ k,k<256→Qye v k=r k
theorem Qqw (n:Int) (h : 0≤n∧n<18446744073709551616) : IntKind.u64.wrap n=n:=by
 unfold IntKind.wrap
 simp [IntKind.bits,IntKind.signed]
 omega
theorem Qxm (a b:Int) : 0≤ior .u64 a b∧ior .u64 a b<18446744073709551616:=by
 have h:((BitVec.ofInt 64 a ||| BitVec.ofInt 64 b).toNat)<18446744073709551616:=(BitVec.ofInt 64 a ||| BitVec.ofInt 64 b).isLt
 have e:ior .u64 a b=(((BitVec.ofInt 64 a ||| BitVec.ofInt 64 b).toNat:Nat) : Int):=by
  show IntKind.u64.wrap (((BitVec.ofInt 64 a ||| BitVec.ofInt 64 b).toNat:Nat) : Int)=_
  exact Qqw _ ⟨by omega,by omega⟩
 rw [e];omega
theorem Qwx (a b:Int) : BitVec.ofInt 64 (ior .u64 a b)=BitVec.ofInt 64 a ||| BitVec.ofInt 64 b:=by
 have h:((BitVec.ofInt 64 a ||| BitVec.ofInt 64 b).toNat)<18446744073709551616:=(BitVec.ofInt 64 a ||| BitVec.ofInt 64 b).isLt
 have e:ior .u64 a b=(((BitVec.ofInt 64 a ||| BitVec.ofInt 64 b).toNat:Nat) : Int):=by
  show IntKind.u64.wrap (((BitVec.ofInt 64 a ||| BitVec.ofInt 64 b).toNat:Nat) : Int)=_
  exact Qqw _ ⟨by omega,by omega⟩
 rw [e]
 apply BitVec.eq_of_toNat_eq
 rw [BitVec.toNat_ofInt]
 omega
theorem Xih (j:Nat) (h:j<64) : BitVec.ofInt 64 (IntKind.u64.wrap (1 * 2 ^ (min j 64)))=BitVec.twoPow 64 j:=by
 have e:min j 64=j:=by omega
 have hp:(2:Nat) ^ j<2 ^ 64:=Nat.pow_lt_pow_right (by decide) h
 have e2:(1 * 2 ^ j:Int)=((2 ^ j:Nat) : Int):=by rw [Int.one_mul];simp
 rw [e,e2,Qqw _ ⟨Int.natCast_nonneg _,Int.ofNat_lt.2 hp⟩]
 apply BitVec.eq_of_toNat_eq
 rw [BitVec.toNat_ofInt,BitVec.toNat_twoPow]
 omega
theorem Xjk (k:Nat) (h:k<1000000) : w64 (Int.tdiv (k:Int) 64)=((k / 64:Nat) : Int):=by
 have e:Int.tdiv (k:Int) 64=((k / 64:Nat) : Int):=rfl
 rw [e,Qdl (by omega)]
theorem Xkx (k:Nat) : Int.tmod (k:Int) 64=((k % 64:Nat) : Int):=rfl
theorem Xh2 {n:Nat}:ge0 (n:Int)=some ():=by unfold ge0;rw [if_neg (by omega)]
theorem Xhw {v:Vector Int 4} {r:Nat→Bool} {d:Nat} (hv:VR v r) (hd:d<256) : ∃ v',Qfb v (d:Int)=some v'∧VR v' (fun k=>k == d || r k):=by
 rw [Qfb]
 have hw:d / 64<4:=by omega
 have hr:rdv v ((d / 64:Nat) : Int)=some v[d / 64]:=Qzf hw
 simp only [PS,Xjk d (by omega),Xkx,hr,Xh2]
 refine ⟨_,rfl,?_,?_⟩
 ·intro w x hx
  rw [Vector.getElem?_setIfInBounds] at hx
  split at hx
  ·cases hx;exact Qxm _ _
  ·exact hv.1 w x hx
 ·intro k hk
  show Qye _ k=(k == d || r k)
  rw [← hv.2 k hk]
  unfold Qye
  rw [Vector.getElem?_setIfInBounds]
  by_cases e:d / 64=k / 64
  ·rw [if_pos e,if_pos (by omega)]
   have e':v[k / 64]? = some v[d / 64]:=by simp [← e,hw]
   rw [e',Option.getD_some,Option.getD_some,Qwx,Xih (d % 64) (by omega),BitVec.getLsbD_or,BitVec.getLsbD_twoPow]
   rw [Bool.or_comm]
   congr 1
   by_cases e2:d % 64=k % 64
   ·have:k=d:=by omega
    subst this;simp;omega
   ·have h1:(k == d)=false:=by simp;rintro rfl;exact e2 rfl
    rw [h1];simp [e2]
  ·rw [if_neg e]
   have h1:(k == d)=false:=by simp;rintro rfl;exact e rfl
   rw [h1,Bool.false_or]
theorem Qwm {b:Vector Int 4} {z:Vector Int 4} : ∀ (n i:Nat) (a:Vector Int 4),i≤4→4<n+i→∃ c,Qbm n a b z i=some c∧∀ w,w<4→c[w]? = if i≤w then some (ior .u64 ((a[w]?).getD 0) ((b[w]?).getD 0)) else a[w]?
 | 0,i,a,h1,h2=>by omega
 | n+1,i,a,h1,h2=>by
  rw [Qbm]
  by_cases hi:i<4
  ·have d1:decide ((i:Int)<4)=true:=by simp;omega
   have ha:rdv a (i:Int)=some a[i]:=Qzf hi
   have hb:rdv b (i:Int)=some b[i]:=Qzf hi
   simp only [PS,d1,ha,hb,Qff (k:=i) (by omega)]
   obtain ⟨c,e1,e2⟩:=Qwm (b:=b) (z:=z) n (i+1) (a.setIfInBounds i (ior .u64 a[i] b[i])) (by omega) (by omega)
   refine ⟨c,e1,fun w hw=>?_⟩
   rw [e2 w hw,Vector.getElem?_setIfInBounds]
   by_cases h:i=w
   ·subst h
    simp [hi];omega
   ·rw [if_neg h]
    by_cases h3:i≤w
    ·rw [if_pos (by omega),if_pos h3]
    ·rw [if_neg (by omega),if_neg h3]
  ·have d1:decide ((i:Int)<4)=false:=by simp;omega
   simp only [PS,d1]
   refine ⟨a,rfl,fun w hw=>?_⟩
   rw [if_neg (by omega)]
theorem Xbq {v u:Vector Int 4} {r q:Nat→Bool} (hv:VR v r) (hu:VR u q) : ∃ c,Qeb v u=some c∧VR c (fun k=>r k || q k):=by
 rw [Qeb]
 obtain ⟨c,e1,e2⟩:=Qwm (b:=u) (z:=Vector.replicate 4 0) FU 0 v (by omega) (by have:=Qeg (n:=4) (by omega);omega)
 refine ⟨c,e1,?_,?_⟩
 ·intro w x hx
  have hw:w<4:=by
   rcases Nat.lt_or_ge w 4 with h | h
   ·exact h
   ·rw [Vector.getElem?_eq_none (by omega)] at hx;cases hx
  rw [e2 w hw,if_pos (by omega)] at hx
  cases hx
  exact Qxm _ _
 ·intro k hk
  show Qye c k=(r k || q k)
  rw [← hv.2 k hk,← hu.2 k hk]
  unfold Qye
  rw [e2 (k / 64) (by omega),if_pos (by omega),Option.getD_some,Qwx,BitVec.getLsbD_or]
theorem Xdp {v:Vector Int 4} {r:Nat→Bool} {k:Nat} (hv:VR v r) (hk:k<256) : Qeo v (k:Int)=some (r k):=by
 rw [Qeo]
 have hw:k / 64<4:=by omega
 have hr:rdv v ((k / 64:Nat) : Int)=some v[k / 64]:=Qzf hw
 simp only [PS,Xjk k (by omega),Xkx,hr,Xh2]
 rw [← hv.2 k hk]
 have hx:=hv.1 (k / 64) v[k / 64] (by simp [hw])
 unfold Qye
 have e0:v[k / 64]? = some v[k / 64]:=by simp [hw]
 rw [e0,Option.getD_some]
 generalize v[k / 64]=x at hx
 obtain ⟨n,rfl⟩ : ∃ n:Nat,x=n:=⟨x.toNat,by omega⟩
 have e1:min (k % 64) 64=k % 64:=by omega
 have e2:Int.fdiv (n:Int) (2 ^ (k % 64))=((n / 2 ^ (k % 64) : Nat) : Int):=by
  have:((2:Int) ^ (k % 64))=((2 ^ (k % 64) : Nat) : Int):=by simp
  rw [this,Int.fdiv_eq_ediv_of_nonneg _ (Int.natCast_nonneg _)];rfl
 rw [e1,e2]
 have hn:n<2 ^ 64:=by omega
 have hq:n / 2 ^ (k % 64)<2 ^ 64:=Nat.lt_of_le_of_lt (Nat.div_le_self _ _) hn
 have e3:Xbn .u64 ((n / 2 ^ (k % 64) : Nat) : Int) 1=(((n / 2 ^ (k % 64)) % 2:Nat) : Int):=by
  have h1:(BitVec.ofInt 64 ((n / 2 ^ (k % 64) : Nat) : Int) &&& BitVec.ofInt 64 1).toNat=(n / 2 ^ (k % 64)) % 2:=by
   rw [BitVec.toNat_and,BitVec.toNat_ofInt]
   have e5:(BitVec.ofInt 64 1).toNat=1:=rfl
   rw [e5,Nat.and_one_is_mod]
   have e6:(((n / 2 ^ (k % 64) : Nat) : Int) % ((2 ^ 64:Nat) : Int)).toNat=n / 2 ^ (k % 64):=Nat.mod_eq_of_lt hq
   rw [e6]
  show IntKind.u64.wrap ((BitVec.ofInt 64 _ &&& BitVec.ofInt 64 1).toNat:Int)=_
  rw [h1,Qqw _ ⟨by omega,by omega⟩]
 rw [e3]
 have e4:(BitVec.ofInt 64 (n:Int)).getLsbD (k % 64)=n.testBit (k % 64):=by
  rw [BitVec.getLsbD,BitVec.toNat_ofInt]
  have:(((n:Nat) : Int) % ((2 ^ 64:Nat) : Int)).toNat=n:=Nat.mod_eq_of_lt hn
  rw [this]
 rw [e4,Nat.testBit_eq_decide_div_mod_eq]
 congr 1
 by_cases h:n / 2 ^ (k % 64) % 2=1
 ·simp [h]
 ·have:n / 2 ^ (k % 64) % 2=0:=by omega
  simp [this]
end Go.Proofs.Ytdmmaanagmacjaa
