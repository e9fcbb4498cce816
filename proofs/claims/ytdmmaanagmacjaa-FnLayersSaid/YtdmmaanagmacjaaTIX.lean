/- Plain facts for FnLayers; no condition. -/

import Derived.Test.YtdmmaanagmacjaaN1
set_option linter.unusedVariables false
namespace Go.Proofs.Ytdmmaanagmacjaa
open Go Go.T Ieee
theorem Xlf:Ieee.double.read 0 = .number false 0 (-1074):=by decide +kernel
theorem Xhy:Ieee.double.read 9218868437227405311 = .number false 9007199254740991 971:=by decide +kernel
theorem Qzy {n:Nat} {s:Bool} {m:Nat} {i:Int} (h:Ieee.double.read n = .number s m i) : m<9007199254740992 ∧ -1074≤i∧i≤971:=by
 unfold Ieee.Format.read at h
 have h1:Ieee.double.signWeight=9223372036854775808:=by decide +kernel
 have h2:Ieee.double.binade=4503599627370496:=by decide +kernel
 have h3:Ieee.double.infRung=9218868437227405312:=by decide +kernel
 have h4:Ieee.double.leastPlace = -1074:=by decide +kernel
 simp only [h1,h2,h3,h4] at h
 split at h
 ·cases h;omega
 ·split at h
  ·cases h
   refine ⟨by omega,by omega,?_⟩
   have:n % 9223372036854775808 / 4503599627370496<2047:=by omega
   omega
  ·split at h <;> cases h
theorem Qfq (a b:Nat) : Qd9 a b=(Ieee.double.read a).order (Ieee.double.read b):=rfl
theorem Qn5 (s t:Bool) (m n:Nat) (i j:Int) : (Ieee.Datum.number s m i).order (.number t n j)=some (compare (Ieee.signed s m (i - min i j).toNat) (Ieee.signed t n (j - min i j).toNat)):=rfl
theorem Qs9 (m k:Nat) : Ieee.signed false m k=((m * 2 ^ k:Nat) : Int):=by simp [Ieee.signed,Nat.shiftLeft_eq]
theorem Xfj (m k:Nat) : Ieee.signed true m k = -((m * 2 ^ k:Nat) : Int):=by simp [Ieee.signed,Nat.shiftLeft_eq]
theorem Xgl {a b:Int}:compare a b = .lt↔a<b:=Int.compare_eq_lt
theorem Xag {a b:Int}:compare a b = .eq↔a=b:=Int.compare_eq_eq
theorem Xl9 {a b:Int}:compare a b = .gt↔b<a:=Int.compare_eq_gt
theorem Qkk {d e:Ieee.Datum} (h:d.order e=some .eq) : e.order d=some .eq:=by
 cases d with
 | nan=>cases h
 | infinity s=>cases e with
  | nan=>cases h
  | infinity t =>
   simp only [Ieee.Datum.order,Option.some.injEq] at h ⊢
   cases s <;> cases t <;> revert h <;> decide
  | number t n j=>cases s <;> simp [Ieee.Datum.order] at h
 | number s m i=>cases e with
  | nan=>cases h
  | infinity t=>cases t <;> simp [Ieee.Datum.order] at h
  | number t n j =>
   rw [Qn5,Option.some.injEq,Xag] at h ⊢
   rw [Int.min_comm j i,h]
theorem Qx4 (x:Nat) : ∃ k,Qcf x=some k:=by
 rw [Qcf,Qgq,Qgv,Qvo,Qmg]
 cases h:Qme x
 ·have hn:Xh3 x=some ():=by simp [Xh3,h]
  simp only [hn,Option.bind_some]
  repeat' split
  all_goals exact ⟨_,rfl⟩
 ·have:(Qd9 x x != some .eq)=true:=by
   obtain ⟨s,t,e⟩:=Qh1 h
   rw [Qfq,e];rfl
  simp [this]
theorem Xlj (s:Bool) (m:Nat) (i:Int) : Ieee.Toward.zero.cut s (m <<< i.toNat) (-i).toNat=if 0≤i then m * 2 ^ i.toNat else m / 2 ^ (-i).toNat:=by
 unfold Ieee.Toward.cut
 simp only [Bool.toNat_false,Nat.add_zero]
 by_cases h : 0≤i
 ·rw [if_pos h,show (-i).toNat=0 by omega,Nat.zero_min,Nat.shiftLeft_zero,Nat.div_one,Nat.shiftLeft_eq]
 ·rw [if_neg h,show i.toNat=0 by omega,Nat.shiftLeft_zero,Nat.shiftLeft_eq,Nat.one_mul]
  by_cases h2:(-i).toNat≤m.log2+2
  ·rw [Nat.min_eq_left h2]
  ·rw [Nat.min_eq_right (by omega)]
   have h3:m<2 ^ (m.log2+1):=Nat.lt_log2_self
   have h4 : 2 ^ (m.log2+1)≤2 ^ (m.log2+2):=Nat.pow_le_pow_right (by omega) (by omega)
   have h5 : 2 ^ (m.log2+2)≤2 ^ (-i).toNat:=Nat.pow_le_pow_right (by omega) (by omega)
   rw [Nat.div_eq_of_lt (by omega),Nat.div_eq_of_lt (by omega)]
theorem Qzi {m:Nat} (h1 : 1≤m) (h5:m≤5) : ∃ M J:Nat,Ieee.double.read (fOf (m:Int)) = .number false M (-(J:Int))∧M=m * 2 ^ J:=by
 have:m=1∨m=2∨m=3∨m=4∨m=5:=by omega
 rcases this with rfl | rfl | rfl | rfl | rfl
 ·exact ⟨4503599627370496,52,by decide +kernel,by decide +kernel⟩
 ·exact ⟨4503599627370496,51,by decide +kernel,by decide +kernel⟩
 ·exact ⟨6755399441055744,51,by decide +kernel,by decide +kernel⟩
 ·exact ⟨4503599627370496,50,by decide +kernel,by decide +kernel⟩
 ·exact ⟨5629499534213120,50,by decide +kernel,by decide +kernel⟩
def wh (m:Nat) (i:Int) : Nat:=if 0≤i then m * 2 ^ i.toNat else m / 2 ^ (-i).toNat
theorem wh_lt {mg m J:Nat} {i:Int} (h:mg * 2 ^ (i - min i (-(J:Int))).toNat<m * 2 ^ J * 2 ^ (-(J:Int) - min i (-(J:Int))).toNat) : wh mg i<m:=by
 unfold wh
 by_cases hi : 0≤i
 ·rw [if_pos hi]
  rw [show min i (-(J:Int)) = -(J:Int) by omega,show (i - -(J:Int)).toNat=i.toNat+J by omega,show (-(J:Int) - -(J:Int)).toNat=0 by omega,Nat.pow_zero,Nat.mul_one,Nat.pow_add,← Nat.mul_assoc] at h
  exact Nat.lt_of_mul_lt_mul_right h
 ·rw [if_neg hi]
  have hp : 0<2 ^ (-i).toNat:=Nat.pow_pos (by omega)
  rw [Nat.div_lt_iff_lt_mul hp]
  by_cases hj:i ≤ -(J:Int)
  ·rw [show min i (-(J:Int))=i by omega,show (i - i).toNat=0 by omega,Nat.pow_zero,Nat.mul_one,Nat.mul_assoc,← Nat.pow_add,show J+(-(J:Int) - i).toNat=(-i).toNat by omega] at h
   exact h
  ·rw [show min i (-(J:Int)) = -(J:Int) by omega,show (-(J:Int) - -(J:Int)).toNat=0 by omega,Nat.pow_zero,Nat.mul_one,show J=(-i).toNat+(i - -(J:Int)).toNat by omega,Nat.pow_add,← Nat.mul_assoc] at h
   have e:(i - -(((-i).toNat+(i - -(J:Int)).toNat:Nat) : Int)).toNat=(i - -(J:Int)).toNat:=by omega
   rw [e] at h
   exact Nat.lt_of_mul_lt_mul_right h
theorem Xfu {x:Nat} (hx:x<18446744073709551616) {s:Bool} {m:Nat} {i:Int} (h:Ieee.double.read x = .number s m i) : Ieee.double.read (Int.toNat (Xg8 .u64 ((x:Nat) : Int) 9223372036854775808)) = .number false m i:=by
 have e:Int.toNat (Xg8 .u64 ((x:Nat) : Int) 9223372036854775808)=x % 9223372036854775808:=by
  have h1:(BitVec.ofInt 64 (x:Int) &&& ~~~BitVec.ofInt 64 9223372036854775808)=BitVec.ofNat 64 (x % 9223372036854775808):=by
   have e1:BitVec.ofInt 64 (x:Int)=BitVec.ofNat 64 x:=by
    apply BitVec.eq_of_toNat_eq;simp
   have e2:(~~~BitVec.ofInt 64 9223372036854775808:BitVec 64)=BitVec.ofNat 64 (2 ^ 63 - 1):=by decide
   rw [e1,e2]
   apply BitVec.eq_of_toNat_eq
   simp only [BitVec.toNat_and,BitVec.toNat_ofNat]
   rw [Nat.mod_eq_of_lt (show x<2 ^ 64 by omega),Nat.mod_eq_of_lt (show 2 ^ 63 - 1<2 ^ 64 by omega),Nat.and_two_pow_sub_one_eq_mod,Nat.mod_eq_of_lt (show x % 9223372036854775808<2 ^ 64 by omega)]
  unfold Xg8
  show Int.toNat (IntKind.u64.wrap ((BitVec.ofInt 64 (x:Int) &&& ~~~BitVec.ofInt 64 9223372036854775808).toNat:Int))=_
  rw [h1,BitVec.toNat_ofNat,Nat.mod_eq_of_lt (show x % 9223372036854775808<2 ^ 64 by omega)]
  have:IntKind.u64.wrap ((x % 9223372036854775808:Nat) : Int)=((x % 9223372036854775808:Nat) : Int):=by
   simp [IntKind.wrap,IntKind.bits,IntKind.signed];omega
  rw [this];rfl
 rw [e]
 unfold Ieee.Format.read at h ⊢
 have h1:Ieee.double.signWeight=9223372036854775808:=by decide +kernel
 simp only [h1] at h ⊢
 rw [Nat.mod_mod]
 have h2:(x % 9223372036854775808 / 9223372036854775808 % 2 == 1)=false:=by
  rw [Nat.div_eq_of_lt (Nat.mod_lt _ (by omega))];rfl
 rw [h2]
 split at h
 ·rename_i c;rw [if_pos c];cases h;rfl
 ·rename_i c
  rw [if_neg c]
  split at h
  ·rename_i c2;rw [if_pos c2];cases h;rfl
  ·split at h <;> cases h
theorem Qyt {x:Nat} (hx:x<18446744073709551616) {s:Bool} {m:Nat} {i:Int} (h:Ieee.double.read x = .number s m i) (hn:Qme x=false) : Qgv x=some false:=by
 have hn':Xh3 x=some ():=by simp [Xh3,hn]
 rw [Qgv,Qvo,hn']
 simp only [Option.bind_some]
 rw [Qfq,Xfu hx h,Xhy,Qn5]
 obtain ⟨b1,b2,b3⟩:=Qzy h
 rw [show min i 971=i by omega,show (i - i).toNat=0 by omega,Qs9,Qs9]
 have h2 : 1≤2 ^ (971 - i).toNat:=Nat.pow_pos (by omega)
 have h3:m * 2 ^ 0≤9007199254740991 * 2 ^ (971 - i).toNat:=by
  rw [Nat.pow_zero,Nat.mul_one]
  exact Nat.le_trans (by omega) (Nat.le_mul_of_pos_right 9007199254740991 h2)
 have:compare ((m * 2 ^ 0:Nat) : Int) ((9007199254740991 * 2 ^ (971 - i).toNat:Nat) : Int) ≠ .gt:=by
  rw [Ne,Xl9];omega
 cases hc:compare ((m * 2 ^ 0:Nat) : Int) ((9007199254740991 * 2 ^ (971 - i).toNat:Nat) : Int) with
 | lt=>rfl
 | eq=>rfl
 | gt=>exact absurd hc this
theorem tix {x m:Nat} (hx:x<18446744073709551616) (h1 : 1≤m) (h5:m≤5) : ∃ r:Int×Bool,Qhs x (m:Int)=some r∧Qgs x (m:Int)=some r∧(r.2=true→0≤r.1∧r.1<m):=by
  have hin:inr (m:Int) 1 1000=true:=Qcm.2 (by omega)
  obtain ⟨kd,hkd⟩:=Qx4 x
  rw [Qhs,Qgs,hkd]
  simp only [Qgk,Qpj,hin,Option.bind_some,Bool.not_true,Bool.false_eq_true,if_false]
  have out : ∀ b:Bool,(if (kd != 2)=true then if (kd != 3)=true then some ((0:Int),false) else if b=true then some (0,false) else some (0,false) else if b=true then some (0,false) else some (0,false))=some (0,false):=by
    intro b;cases b <;> simp
  by_cases hlt:Qd9 x 0=some .lt
  · refine ⟨(0,false),by simp [hlt],?_,by simp⟩
    simp [hlt]
  have hlt':(Qd9 x 0 == some .lt)=false:=by simp [hlt]
  by_cases hm:Qd9 x (fOf (m:Int))=some .lt
  case neg =>
    refine ⟨(0,false),by simp [hlt,hm],?_,by simp⟩
    cases hn:Qme x
    · obtain ⟨M,J,hr,_⟩:=Qzi h1 h5
      have hs:Qd9 x (fOf (m:Int))=some .gt∨Qd9 x (fOf (m:Int))=some .eq:=by
        have : ∃ o,Qd9 x (fOf (m:Int))=some o:=by
          rw [Qfq,hr]
          cases hd:Ieee.double.read x with
          | nan s t=>rw [Xej hd] at hn;cases hn
          | infinity s=>exact ⟨_,rfl⟩
          | number s k i=>exact ⟨_,rfl⟩
        obtain ⟨o,ho⟩:=this
        cases o with
        | lt=>exact absurd ho hm
        | eq=>exact .inr ho
        | gt=>exact .inl ho
      have:(Qd9 x (fOf (m:Int)) == some .gt || Qd9 x (fOf (m:Int)) == some .eq)=true:=by
        rcases hs with h | h <;> simp [h]
      simp [hlt,this]
    · have:kd=0:=by
        rw [Qcf,Qgq] at hkd
        have:(Qd9 x x != some .eq)=true:=by
          obtain ⟨s,t,e⟩:=Qh1 hn
          rw [Qfq,e];rfl
        simp [this] at hkd
        exact hkd.symm
      subst this
      simp
  obtain ⟨M,J,hr,hM⟩:=Qzi h1 h5
  have hm0:=hm
  rw [Qfq,hr] at hm
  cases hd:Ieee.double.read x with
  | nan s t=>rw [hd] at hm;cases hm
  | infinity s =>
    rw [Qfq,hd,Xlf] at hlt
    rw [hd] at hm
    cases s
    · simp [Ieee.Datum.order] at hm
    · simp [Ieee.Datum.order] at hlt
  | number s mg i =>
    have hn:Qme x=false:=by
      cases h:Qme x
      · rfl
      · obtain ⟨s',t',e⟩:=Qh1 h;rw [hd] at e;cases e
    obtain ⟨b1,b2,b3⟩:=Qzy hd
    have hs:s=false∨mg=0:=by
      rw [Qfq,hd,Xlf,Qn5] at hlt
      cases s
      · exact .inl rfl
      · right
        rw [Xfj,Qs9,Option.some.injEq,Xgl] at hlt
        have hp : 0<2 ^ (i - min i (-1074)).toNat:=Nat.pow_pos (by omega)
        rcases Nat.eq_zero_or_pos mg with h | h
        · exact h
        · have:=Nat.mul_pos h hp
          simp only [Nat.zero_mul] at hlt
          omega
    have hw:wh mg i<m:=by
      rw [hd,Qn5,Option.some.injEq,Xgl,Qs9,hM] at hm
      rcases hs with rfl | rfl
      · rw [Qs9] at hm
        exact wh_lt (J:=J) (Int.ofNat_lt.1 hm)
      · unfold wh;simp;omega
    have hcut:(Ieee.Datum.number s mg i).integral .zero = .number s (wh mg i) 0:=by
      simp only [Ieee.Datum.integral,Xlj];rfl
    have hn0:Ieee.signed s (wh mg i) 0=((wh mg i:Nat) : Int):=by
      rcases hs with rfl | rfl
      · rw [Qs9];simp
      · have:wh 0 i=0:=by unfold wh;simp
        rw [this];cases s <;> rfl
    have hto:fTo x=some ((wh mg i:Nat) : Int):=by
      unfold fTo Ieee.Datum.toInt
      rw [hd,hcut]
      simp only [hn0]
      rw [if_pos (by
        show (-9223372036854775808:Int)≤_∧_≤(9223372036854775807:Int)
        omega)]
    have hinf:=Qyt hx hd hn
    have hgt:(Qd9 x (fOf (m:Int)) == some .gt || Qd9 x (fOf (m:Int)) == some .eq)=false:=by simp [hm0]
    have hkind:kd=2∨kd=3↔Qd9 (fOf ((wh mg i:Nat) : Int)) x=some .eq:=by
      have hnan:(Qd9 x x != some .eq)=false:=by
        rcases Qsa x with h | h
        · have:Qme x=true:=by unfold Qme;unfold Qd9 at h;rw [h];rfl
          rw [hn] at this;cases this
        · simp [h]
      have hnn:Xh3 x=some ():=by simp [Xh3,hn]
      rw [Qcf,Qgq,hinf,Qmg,hnn] at hkd
      simp only [hnan,Option.bind_some,Bool.false_eq_true,if_false] at hkd
      by_cases hz:Qd9 x 0=some .eq
      · have h2:kd=2:=by simp [hz] at hkd;exact hkd.symm
        have hmg:mg=0:=by
          rw [Qfq,hd,Xlf,Qn5,Option.some.injEq,Xag,Qs9,Nat.zero_mul] at hz
          have hp : 0<2 ^ (i - min i (-1074)).toNat:=Nat.pow_pos (by omega)
          rcases Nat.eq_zero_or_pos mg with h | h
          · exact h
          · have:=Nat.mul_pos h hp
            cases s
            · rw [Qs9] at hz;omega
            · rw [Xfj] at hz;omega
        subst hmg
        have hw0:wh 0 i=0:=by unfold wh;simp
        rw [hw0]
        have hf0:fOf ((0:Nat) : Int)=0:=by decide +kernel
        rw [hf0]
        exact ⟨fun _=>Qkk hz,fun _=>.inl h2⟩
      · have hmg:s=false:=by
          rcases hs with h | h
          · exact h
          · subst h
            exfalso;apply hz
            rw [Qfq,hd,Xlf,Qn5,Option.some.injEq,Xag,Qs9,Nat.zero_mul]
            cases s
            · rw [Qs9,Nat.zero_mul]
            · rw [Xfj,Nat.zero_mul];rfl
        subst hmg
        have htr:fTr x=fOf ((wh mg i:Nat) : Int):=by
          unfold fTr
          rw [hd,hcut]
          show Ieee.double.write (.number false (wh mg i) 0)=Ieee.double.write (.number (decide (((wh mg i:Nat) : Int)<0)) (((wh mg i:Nat) : Int)).natAbs 0)
          rw [show decide (((wh mg i:Nat) : Int)<0)=false by simp,Int.natAbs_natCast]
        have hz':(Qd9 x 0 == some .eq)=false:=by simp [hz]
        simp only [hz',Bool.false_eq_true,if_false,htr] at hkd
        by_cases he:Qd9 x (fOf ((wh mg i:Nat) : Int))=some .eq
        · simp [he] at hkd
          exact ⟨fun _=>Qkk he,fun _=>.inr hkd.symm⟩
        · simp [he] at hkd
          constructor
          · rintro (h | h) <;> omega
          · intro h;exact absurd (Qkk h) he
    by_cases hk:Qd9 (fOf ((wh mg i:Nat) : Int)) x=some .eq
    · refine ⟨(((wh mg i:Nat) : Int),true),?_,?_,fun _=>by simp only;omega⟩
      · simp [hlt,hm0,hto,hk]
      · rcases hkind.2 hk with rfl | rfl
        · simp only [hlt',hgt,hto];simp
        · simp only [hlt',hgt,hto];simp
    · refine ⟨(0,false),?_,?_,by simp⟩
      · simp [hlt,hm0,hto,hk]
      · have h2:kd≠2:=fun e=>hk (hkind.1 (.inl e))
        have h3:kd≠3:=fun e=>hk (hkind.1 (.inr e))
        simp [h2,h3]
end Go.Proofs.Ytdmmaanagmacjaa
