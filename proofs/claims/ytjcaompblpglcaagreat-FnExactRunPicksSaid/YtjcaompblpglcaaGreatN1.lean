/- Plain facts for FnExactRunPicks; no condition. -/

import Derived.Test.YtjcaompblpglcaaGreatL0
set_option linter.unusedVariables false
namespace Go.Proofs.YtjcaompblpglcaaGreat
open Go Go.T
theorem read0 : FloatKind.f64.format.read 0 = .number false 0 FloatKind.f64.format.leastPlace := by decide
theorem Qv4 : Qc2 0 0 = some .eq := by decide
theorem Qlk {s : Bool} {m k : Nat} : Ieee.signed s m k = 0 ↔ m = 0 := by
 unfold Ieee.signed
 have : m <<< k = 0 ↔ m = 0 := by
  rw [Nat.shiftLeft_eq]
  have := Nat.two_pow_pos k
  constructor
  ·intro h
   rcases Nat.mul_eq_zero.1 h with h | h <;> omega
  ·intro h; rw [h, Nat.zero_mul]
 split <;> omega
theorem Xdd {x : Nat} (hx : x < 18446744073709551616) : Qc2 x 0 = some .eq ↔ x = 0 ∨ x = 9223372036854775808 := by
 constructor
 ·intro h
  unfold Qc2 Ieee.Format.order at h
  rw [read0] at h
  have h1 : FloatKind.f64.format.infRung = 9218868437227405312 := by decide
  have h2 : FloatKind.f64.format.signWeight = 9223372036854775808 := by decide
  have h3 : FloatKind.f64.format.binade = 4503599627370496 := by decide
  unfold Ieee.Format.read at h
  rw [h1, h2, h3] at h
  simp only at h
  split at h
  ·simp only [Ieee.Datum.order, Option.some.injEq] at h
   replace h := Std.LawfulEqCmp.eq_of_compare h
   have h0 : Ieee.signed false 0 (FloatKind.f64.format.leastPlace - min FloatKind.f64.format.leastPlace FloatKind.f64.format.leastPlace).toNat = 0 := Qlk.2 rfl
   rw [h0] at h
   have := Qlk.1 h
   omega
  ·split at h
   ·simp only [Ieee.Datum.order, Option.some.injEq] at h
    replace h := Std.LawfulEqCmp.eq_of_compare h
    have h0 := fun k => Qlk (s := false) (m := 0) (k := k) |>.2 rfl
    rw [h0] at h
    have := Qlk.1 h
    omega
   ·split at h
    ·simp only [Ieee.Datum.order] at h
     split at h <;> simp at h
    ·simp [Ieee.Datum.order] at h
 ·rintro (rfl | rfl) <;> decide
theorem Qw7 (x : Nat) : Qe1 x = some (Qc2 x x != some .eq) := by rw [Qe1]
theorem Xa3 : Qdh 0 = some false := by
 have h2 : fdv 4607182418800017408 0 = 9218868437227405312 := by decide +kernel
 have h3 : Qc2 9218868437227405312 0 = some .gt := by decide +kernel
 simp [Qdh, Qv4, h2, h3]
theorem Xd4 : Qdh 9223372036854775808 = some true := by
 have h1 : Qc2 9223372036854775808 0 = some .eq := by decide +kernel
 have h2 : fdv 4607182418800017408 9223372036854775808 = 18442240474082181120 := by decide +kernel
 have h3 : Qc2 18442240474082181120 0 = some .lt := by decide +kernel
 simp [Qdh, h1, h2, h3]
theorem Qv0 {x : Nat} (hx : x < 18446744073709551616) : Qcr x 0 = some (decide (x = 0)) := by
 rw [Qcr]
 simp only [PS, Qw7, Qv4]
 rcases Qmr x with h | h
 ·have h0 : x ≠ 0 := by rintro rfl; rw [Qv4] at h; cases h
  simp [h, h0]
 ·simp only [PS, h, Qey]
  by_cases h0 : Qc2 x 0 = some .eq
  ·rcases (Xdd hx).1 h0 with rfl | rfl
   ·simp [Qv4, Xa3]
   ·simp [h0, Xa3, Xd4]
  ·have : x ≠ 0 := by rintro rfl; exact h0 Qv4
   simp [h0, this]
theorem fNaN0 : Qk6 0 = false := Qxd
theorem Xje (x : Nat) : Qno x 0 = decide (x = 0) := by
 unfold Qno
 rw [fNaN0, Bool.and_false, Bool.false_or, Bool.eq_iff_iff, beq_iff_eq, decide_eq_true_eq]
theorem Xay (x : Nat) : Qed x 0 = some (decide (x = 0)) := by
 rw [Qed, Xje]
end Go.Proofs.YtjcaompblpglcaaGreat
