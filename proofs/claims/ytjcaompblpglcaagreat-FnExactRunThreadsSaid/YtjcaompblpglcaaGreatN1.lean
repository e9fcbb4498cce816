/- Plain facts for FnExactRunThreads; no condition. -/

import Derived.Test.YtjcaompblpglcaaGreatL0
set_option linter.unusedVariables false
namespace Go.Proofs.YtjcaompblpglcaaGreat
open Go Go.T
theorem read0 : FloatKind.f64.format.read 0 = .number false 0 FloatKind.f64.format.leastPlace := by decide
theorem fcmp00 : fcmp 0 0 = some .eq := by decide
theorem signed_zero {s : Bool} {m k : Nat} : Ieee.signed s m k = 0 ↔ m = 0 := by
 unfold Ieee.signed
 have : m <<< k = 0 ↔ m = 0 := by
  rw [Nat.shiftLeft_eq]
  have := Nat.two_pow_pos k
  constructor
  ·intro h
   rcases Nat.mul_eq_zero.1 h with h | h <;> omega
  ·intro h; rw [h, Nat.zero_mul]
 split <;> omega
theorem fcmp0 {x : Nat} (hx : x < 18446744073709551616) : fcmp x 0 = some .eq ↔ x = 0 ∨ x = 9223372036854775808 := by
 constructor
 ·intro h
  unfold fcmp Ieee.Format.order at h
  rw [read0] at h
  have h1 : FloatKind.f64.format.infRung = 9218868437227405312 := by decide
  have h2 : FloatKind.f64.format.signWeight = 9223372036854775808 := by decide
  have h3 : FloatKind.f64.format.binade = 4503599627370496 := by decide
  unfold Ieee.Format.read at h
  rw [h1, h2, h3] at h
  simp only at h
  split at h
  ·simp only [Ieee.Datum.order, Option.some.injEq] at h
   replace h := Std.LawfulEqCmp.eq_of_compare h
   have h0 : Ieee.signed false 0 (FloatKind.f64.format.leastPlace - min FloatKind.f64.format.leastPlace FloatKind.f64.format.leastPlace).toNat = 0 := signed_zero.2 rfl
   rw [h0] at h
   have := signed_zero.1 h
   omega
  ·split at h
   ·simp only [Ieee.Datum.order, Option.some.injEq] at h
    replace h := Std.LawfulEqCmp.eq_of_compare h
    have h0 := fun k => signed_zero (s := false) (m := 0) (k := k) |>.2 rfl
    rw [h0] at h
    have := signed_zero.1 h
    omega
   ·split at h
    ·simp only [Ieee.Datum.order] at h
     split at h <;> simp at h
    ·simp [Ieee.Datum.order] at h
 ·rintro (rfl | rfl) <;> decide
theorem spec_nan (x : Nat) : spec_l1Nan x = some (fcmp x x != some .eq) := by rw [spec_l1Nan]
theorem minus0 : spec_IsMinus 0 = some false := by
 have h2 : fdv 4607182418800017408 0 = 9218868437227405312 := by decide +kernel
 have h3 : fcmp 9218868437227405312 0 = some .gt := by decide +kernel
 simp [spec_IsMinus, fcmp00, h2, h3]
theorem minus1 : spec_IsMinus 9223372036854775808 = some true := by
 have h1 : fcmp 9223372036854775808 0 = some .eq := by decide +kernel
 have h2 : fdv 4607182418800017408 9223372036854775808 = 18442240474082181120 := by decide +kernel
 have h3 : fcmp 18442240474082181120 0 = some .lt := by decide +kernel
 simp [spec_IsMinus, h1, h2, h3]
theorem spec_same0 {x : Nat} (hx : x < 18446744073709551616) : spec_l1SameNum x 0 = some (decide (x = 0)) := by
 rw [spec_l1SameNum]
 simp only [PS, spec_nan, fcmp00]
 rcases fcmp_self x with h | h
 ·have h0 : x ≠ 0 := by rintro rfl; rw [fcmp00] at h; cases h
  simp [h, h0]
 ·simp only [PS, h, spec_l1SameNum_j0]
  by_cases h0 : fcmp x 0 = some .eq
  ·rcases (fcmp0 hx).1 h0 with rfl | rfl
   ·simp [fcmp00, minus0]
   ·simp [h0, minus0, minus1]
  ·have : x ≠ 0 := by rintro rfl; exact h0 fcmp00
   simp [h0, this]
theorem fNaN0 : fNaN 0 = false := fNaN_zero
theorem sameN_0 (x : Nat) : sameN x 0 = decide (x = 0) := by
 unfold sameN
 rw [fNaN0, Bool.and_false, Bool.false_or, Bool.eq_iff_iff, beq_iff_eq, decide_eq_true_eq]
theorem impl_same0 (x : Nat) : impl_SameNum x 0 = some (decide (x = 0)) := by
 rw [impl_SameNum, sameN_0]
end Go.Proofs.YtjcaompblpglcaaGreat
