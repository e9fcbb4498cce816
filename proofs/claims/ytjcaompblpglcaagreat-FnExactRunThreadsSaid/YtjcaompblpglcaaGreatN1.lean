/- Plain facts for FnExactRunThreads; no condition. -/

import Derived.Test.YtjcaompblpglcaaGreatL0
set_option linter.unusedVariables false
namespace Go.Proofs.YtjcaompblpglcaaGreat
open Go Go.T
theorem read0 : FloatKind.f64.format.read 0 = .number false 0 FloatKind.f64.format.leastPlace := by decide
theorem Qur : Qc0 0 0 = some .eq := by decide
theorem Ql8 {s : Bool} {m k : Nat} : Ieee.signed s m k = 0 ↔ m = 0 := by
 unfold Ieee.signed
 have : m <<< k = 0 ↔ m = 0 := by
  rw [Nat.shiftLeft_eq]
  have := Nat.two_pow_pos k
  constructor
  ·intro h
   rcases Nat.mul_eq_zero.1 h with h | h <;> omega
  ·intro h; rw [h, Nat.zero_mul]
 split <;> omega
theorem Xcz {x : Nat} (hx : x < 18446744073709551616) : Qc0 x 0 = some .eq ↔ x = 0 ∨ x = 9223372036854775808 := by
 constructor
 ·intro h
  unfold Qc0 Ieee.Format.order at h
  rw [read0] at h
  have h1 : FloatKind.f64.format.infRung = 9218868437227405312 := by decide
  have h2 : FloatKind.f64.format.signWeight = 9223372036854775808 := by decide
  have h3 : FloatKind.f64.format.binade = 4503599627370496 := by decide
  unfold Ieee.Format.read at h
  rw [h1, h2, h3] at h
  simp only at h
  split at h
  ·simp only [Ieee.Datum.order, Option.some.injEq] at h
   replace h := Std.LawfulEqCmp.eq_of_compare h
   have h0 : Ieee.signed false 0 (FloatKind.f64.format.leastPlace - min FloatKind.f64.format.leastPlace FloatKind.f64.format.leastPlace).toNat = 0 := Ql8.2 rfl
   rw [h0] at h
   have := Ql8.1 h
   omega
  ·split at h
   ·simp only [Ieee.Datum.order, Option.some.injEq] at h
    replace h := Std.LawfulEqCmp.eq_of_compare h
    have h0 := fun k => Ql8 (s := false) (m := 0) (k := k) |>.2 rfl
    rw [h0] at h
    have := Ql8.1 h
    omega
   ·split at h
    ·simp only [Ieee.Datum.order] at h
     split at h <;> simp at h
    ·simp [Ieee.Datum.order] at h
 ·rintro (rfl | rfl) <;> decide
theorem Qvt (x : Nat) : Qdz x = some (Qc0 x x != some .eq) := by rw [Qdz]
theorem Qzr : Qdf 0 = some false := by
 have h2 : fdv 4607182418800017408 0 = 9218868437227405312 := by decide +kernel
 have h3 : Qc0 9218868437227405312 0 = some .gt := by decide +kernel
 simp [Qdf, Qur, h2, h3]
theorem Xck : Qdf 9223372036854775808 = some true := by
 have h1 : Qc0 9223372036854775808 0 = some .eq := by decide +kernel
 have h2 : fdv 4607182418800017408 9223372036854775808 = 18442240474082181120 := by decide +kernel
 have h3 : Qc0 18442240474082181120 0 = some .lt := by decide +kernel
 simp [Qdf, h1, h2, h3]
theorem Qub {x : Nat} (hx : x < 18446744073709551616) : Qct x 0 = some (decide (x = 0)) := by
 rw [Qct]
 simp only [PS, Qvt, Qur]
 rcases Qn1 x with h | h
 ·have h0 : x ≠ 0 := by rintro rfl; rw [Qur] at h; cases h
  simp [h, h0]
 ·simp only [PS, h, Qer]
  by_cases h0 : Qc0 x 0 = some .eq
  ·rcases (Xcz hx).1 h0 with rfl | rfl
   ·simp [Qur, Qzr]
   ·simp [h0, Qzr, Xck]
  ·have : x ≠ 0 := by rintro rfl; exact h0 Qur
   simp [h0, this]
theorem fNaN0 : Qk1 0 = false := Qxq
theorem Xih (x : Nat) : Qo2 x 0 = decide (x = 0) := by
 unfold Qo2
 rw [fNaN0, Bool.and_false, Bool.false_or, Bool.eq_iff_iff, beq_iff_eq, decide_eq_true_eq]
theorem Xbg (x : Nat) : Qe8 x 0 = some (decide (x = 0)) := by
 rw [Qe8, Xih]
end Go.Proofs.YtjcaompblpglcaaGreat
