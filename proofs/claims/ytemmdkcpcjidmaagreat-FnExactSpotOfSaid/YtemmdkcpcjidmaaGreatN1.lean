/- Plain facts for FnExactSpotOf; no condition. -/

import Derived.Test.YtemmdkcpcjidmaaGreatL0
set_option linter.unusedVariables false
namespace Go.Proofs.YtemmdkcpcjidmaaGreat
open Go Go.T
theorem read0 : FloatKind.f64.format.read 0 = .number false 0 FloatKind.f64.format.leastPlace := by decide
theorem Qvs : Qc7 0 0 = some .eq := by decide
theorem Qlw {s : Bool} {m k : Nat} : Ieee.signed s m k = 0 ↔ m = 0 := by
 unfold Ieee.signed
 have : m <<< k = 0 ↔ m = 0 := by
  rw [Nat.shiftLeft_eq]
  have := Nat.two_pow_pos k
  constructor
  ·intro h
   rcases Nat.mul_eq_zero.1 h with h | h <;> omega
  ·intro h; rw [h, Nat.zero_mul]
 split <;> omega
theorem Xez {x : Nat} (hx : x < 18446744073709551616) : Qc7 x 0 = some .eq ↔ x = 0 ∨ x = 9223372036854775808 := by
 constructor
 ·intro h
  unfold Qc7 Ieee.Format.order at h
  rw [read0] at h
  have h1 : FloatKind.f64.format.infRung = 9218868437227405312 := by decide
  have h2 : FloatKind.f64.format.signWeight = 9223372036854775808 := by decide
  have h3 : FloatKind.f64.format.binade = 4503599627370496 := by decide
  unfold Ieee.Format.read at h
  rw [h1, h2, h3] at h
  simp only at h
  split at h
  ·simp only [Ieee.Datum.order, Option.some.injEq] at h
   replace h := Std.LawfulEqCmp.eq_of_compare h
   have h0 : Ieee.signed false 0 (FloatKind.f64.format.leastPlace - min FloatKind.f64.format.leastPlace FloatKind.f64.format.leastPlace).toNat = 0 := Qlw.2 rfl
   rw [h0] at h
   have := Qlw.1 h
   omega
  ·split at h
   ·simp only [Ieee.Datum.order, Option.some.injEq] at h
    replace h := Std.LawfulEqCmp.eq_of_compare h
    have h0 := fun k => Qlw (s := false) (m := 0) (k := k) |>.2 rfl
    rw [h0] at h
    have := Qlw.1 h
    omega
   ·split at h
    ·simp only [Ieee.Datum.order] at h
     split at h <;> simp at h
    ·simp [Ieee.Datum.order] at h
 ·rintro (rfl | rfl) <;> decide
theorem Qwf (x : Nat) : Qe4 x = some (Qc7 x x != some .eq) := by rw [Qe4]
theorem Xb8 : Qdh 0 = some false := by
 have h2 : fdv 4607182418800017408 0 = 9218868437227405312 := by decide +kernel
 have h3 : Qc7 9218868437227405312 0 = some .gt := by decide +kernel
 simp [Qdh, Qvs, h2, h3]
theorem Xfw : Qdh 9223372036854775808 = some true := by
 have h1 : Qc7 9223372036854775808 0 = some .eq := by decide +kernel
 have h2 : fdv 4607182418800017408 9223372036854775808 = 18442240474082181120 := by decide +kernel
 have h3 : Qc7 18442240474082181120 0 = some .lt := by decide +kernel
 simp [Qdh, h1, h2, h3]
theorem Qw7 {x : Nat} (hx : x < 18446744073709551616) : Qc6 x 0 = some (decide (x = 0)) := by
 rw [Qc6]
 simp only [PS, Qwf, Qvs]
 rcases Qq8 x with h | h
 ·have h0 : x ≠ 0 := by rintro rfl; rw [Qvs] at h; cases h
  simp [h, h0]
 ·simp only [PS, h, Qeu]
  by_cases h0 : Qc7 x 0 = some .eq
  ·rcases (Xez hx).1 h0 with rfl | rfl
   ·simp [Qvs, Xb8]
   ·simp [h0, Xb8, Xfw]
  ·have : x ≠ 0 := by rintro rfl; exact h0 Qvs
   simp [h0, this]
theorem fNaN0 : Qkf 0 = false := Qxz
theorem Xlb (x : Nat) : Qiu x 0 = decide (x = 0) := by
 unfold Qiu
 rw [fNaN0, Bool.and_false, Bool.false_or, Bool.eq_iff_iff, beq_iff_eq, decide_eq_true_eq]
theorem Xcq (x : Nat) : Qcy x 0 = some (decide (x = 0)) := by
 rw [Qcy, Xlb]
end Go.Proofs.YtemmdkcpcjidmaaGreat
