/- Plain facts for FnLayers; no condition. -/

import Derived.Test.YtdmmaanagmacjaaL0
set_option linter.unusedVariables false
namespace Go.Proofs.Ytdmmaanagmacjaa
open Go Go.T
theorem read0:FloatKind.f64.format.read 0 = .number false 0 FloatKind.f64.format.leastPlace:=by decide
theorem Qto:Qd9 0 0=some .eq:=by decide
theorem Qkb {s:Bool} {m k:Nat}:Ieee.signed s m k=0↔m=0:=by
 unfold Ieee.signed
 have:m <<< k=0↔m=0:=by
  rw [Nat.shiftLeft_eq]
  have:=Nat.two_pow_pos k
  constructor
  ·intro h
   rcases Nat.mul_eq_zero.1 h with h | h <;> omega
  ·intro h;rw [h,Nat.zero_mul]
 split <;> omega
theorem Xdc {x:Nat} (hx:x<18446744073709551616) : Qd9 x 0=some .eq↔x=0∨x=9223372036854775808:=by
 constructor
 ·intro h
  unfold Qd9 Ieee.Format.order at h
  rw [read0] at h
  have h1:FloatKind.f64.format.infRung=9218868437227405312:=by decide
  have h2:FloatKind.f64.format.signWeight=9223372036854775808:=by decide
  have h3:FloatKind.f64.format.binade=4503599627370496:=by decide
  unfold Ieee.Format.read at h
  rw [h1,h2,h3] at h
  simp only at h
  split at h
  ·simp only [Ieee.Datum.order,Option.some.injEq] at h
   replace h:=Std.LawfulEqCmp.eq_of_compare h
   have h0:Ieee.signed false 0 (FloatKind.f64.format.leastPlace - min FloatKind.f64.format.leastPlace FloatKind.f64.format.leastPlace).toNat=0:=Qkb.2 rfl
   rw [h0] at h
   have:=Qkb.1 h
   omega
  ·split at h
   ·simp only [Ieee.Datum.order,Option.some.injEq] at h
    replace h:=Std.LawfulEqCmp.eq_of_compare h
    have h0:=fun k=>Qkb (s:=false) (m:=0) (k:=k) |>.2 rfl
    rw [h0] at h
    have:=Qkb.1 h
    omega
   ·split at h
    ·simp only [Ieee.Datum.order] at h
     split at h <;> simp at h
    ·simp [Ieee.Datum.order] at h
 ·rintro (rfl | rfl) <;> decide
theorem Qu1 (x:Nat) : Qdz x=some (Qd9 x x != some .eq):=by rw [Qdz]
theorem Qz7:Qdb 0=some false:=by
 have h2:fdv 4607182418800017408 0=9218868437227405312:=by decide +kernel
 have h3:Qd9 9218868437227405312 0=some .gt:=by decide +kernel
 simp [Qdb,Qto,h2,h3]
theorem Xe8:Qdb 9223372036854775808=some true:=by
 have h1:Qd9 9223372036854775808 0=some .eq:=by decide +kernel
 have h2:fdv 4607182418800017408 9223372036854775808=18442240474082181120:=by decide +kernel
 have h3:Qd9 18442240474082181120 0=some .lt:=by decide +kernel
 simp [Qdb,h1,h2,h3]
theorem Qtu {x:Nat} (hx:x<18446744073709551616) : Qcr x 0=some (decide (x=0)):=by
 rw [Qcr]
 simp only [PS,Qu1,Qto]
 rcases Qsa x with h | h
 ·have h0:x≠0:=by rintro rfl;rw [Qto] at h;cases h
  simp [h,h0]
 ·simp only [PS,h,Qel]
  by_cases h0:Qd9 x 0=some .eq
  ·rcases (Xdc hx).1 h0 with rfl | rfl
   ·simp [Qto,Qz7]
   ·simp [h0,Qz7,Xe8]
  ·have:x≠0:=by rintro rfl;exact h0 Qto
   simp [h0,this]
end Go.Proofs.Ytdmmaanagmacjaa
