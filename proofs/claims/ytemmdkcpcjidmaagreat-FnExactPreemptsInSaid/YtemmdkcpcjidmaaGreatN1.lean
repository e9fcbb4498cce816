/- Plain facts for FnExactPreemptsIn; no condition. -/

import Derived.Test.YtemmdkcpcjidmaaGreatL0
set_option linter.unusedVariables false
namespace Go.Proofs.YtemmdkcpcjidmaaGreat
open Go Go.T
theorem read0:FloatKind.f64.format.read 0 = .number false 0 FloatKind.f64.format.leastPlace:=by decide
theorem Qxf:Qci 0 0=some .eq:=by decide
theorem Qmw {s:Bool} {m k:Nat}:Ieee.signed s m k=0↔m=0:=by
 unfold Ieee.signed
 have:m <<< k=0↔m=0:=by
  rw [Nat.shiftLeft_eq]
  have:=Nat.two_pow_pos k
  constructor
  ·intro h
   rcases Nat.mul_eq_zero.1 h with h | h <;> omega
  ·intro h;rw [h,Nat.zero_mul]
 split <;> omega
theorem Xff {x:Nat} (hx:x<18446744073709551616) : Qci x 0=some .eq↔x=0∨x=9223372036854775808:=by
 constructor
 ·intro h
  unfold Qci Ieee.Format.order at h
  rw [read0] at h
  have h1:FloatKind.f64.format.infRung=9218868437227405312:=by decide
  have h2:FloatKind.f64.format.signWeight=9223372036854775808:=by decide
  have h3:FloatKind.f64.format.binade=4503599627370496:=by decide
  unfold Ieee.Format.read at h
  rw [h1,h2,h3] at h
  simp only at h
  split at h
  ·simp only [Ieee.Datum.order,Option.some.injEq] at h
   replace h:=Std.LawfulEqCmp.eq_of_compare h
   have h0:Ieee.signed false 0 (FloatKind.f64.format.leastPlace - min FloatKind.f64.format.leastPlace FloatKind.f64.format.leastPlace).toNat=0:=Qmw.2 rfl
   rw [h0] at h
   have:=Qmw.1 h
   omega
  ·split at h
   ·simp only [Ieee.Datum.order,Option.some.injEq] at h
    replace h:=Std.LawfulEqCmp.eq_of_compare h
    have h0:=fun k=>Qmw (s:=false) (m:=0) (k:=k) |>.2 rfl
    rw [h0] at h
    have:=Qmw.1 h
    omega
   ·split at h
    ·simp only [Ieee.Datum.order] at h
     split at h <;> simp at h
    ·simp [Ieee.Datum.order] at h
 ·rintro (rfl | rfl) <;> decide
theorem Qyf (x:Nat) : Qed x=some (Qci x x != some .eq):=by rw [Qed]
theorem Xck:Qdw 0=some false:=by
 have h2:fdv 4607182418800017408 0=9218868437227405312:=by decide +kernel
 have h3:Qci 9218868437227405312 0=some .gt:=by decide +kernel
 simp [Qdw,Qxf,h2,h3]
theorem Xhd:Qdw 9223372036854775808=some true:=by
 have h1:Qci 9223372036854775808 0=some .eq:=by decide +kernel
 have h2:fdv 4607182418800017408 9223372036854775808=18442240474082181120:=by decide +kernel
 have h3:Qci 18442240474082181120 0=some .lt:=by decide +kernel
 simp [Qdw,h1,h2,h3]
theorem Qx1 {x:Nat} (hx:x<18446744073709551616) : Qch x 0=some (decide (x=0)):=by
 rw [Qch]
 simp only [PS,Qyf,Qxf]
 rcases Qrp x with h | h
 ·have h0:x≠0:=by rintro rfl;rw [Qxf] at h;cases h
  simp [h,h0]
 ·simp only [PS,h,Qff]
  by_cases h0:Qci x 0=some .eq
  ·rcases (Xff hx).1 h0 with rfl | rfl
   ·simp [Qxf,Xck]
   ·simp [h0,Xck,Xhd]
  ·have:x≠0:=by rintro rfl;exact h0 Qxf
   simp [h0,this]
theorem fNaN0:Ql4 0=false:=Qz1
theorem Xlt (x:Nat) : Qj8 x 0=decide (x=0):=by
 unfold Qj8
 rw [fNaN0,Bool.and_false,Bool.false_or,Bool.eq_iff_iff,beq_iff_eq,decide_eq_true_eq]
theorem Xda (x:Nat) : Qdf x 0=some (decide (x=0)):=by
 rw [Qdf,Xlt]
end Go.Proofs.YtemmdkcpcjidmaaGreat
