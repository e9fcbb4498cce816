/- Lemmas for FnExactGoodHunt; no condition. -/

import Derived.Test.YthhcnmideecfpaaGreatBG
import Derived.WalkKit
import Derived.Laws.Cover2
import Derived.Laws.FloatArith
set_option linter.unusedVariables false
namespace Go.T
open Go Go.RowKit Go.Proofs
/-- one number, or two that are none -/
def sameN (a b : Nat) : Bool := (fNaN a && fNaN b) || a == b
theorem nan_cmp (k : Nat) : (FloatKind.f64.format.order k k != some .eq) = fNaN k := by
  unfold fNaN
  show (Ieee.Format.order Ieee.double k k != some .eq) = (Ieee.Format.order Ieee.double k k).isNone
  unfold Ieee.Format.order
  cases Ieee.double.read k with
  | nan s t => rfl
  | infinity s => simp [Ieee.Datum.order]
  | number s m i => simp [Ieee.Datum.order]
theorem sameN_cong {m n a b : Nat} (hm : F1 m a) (hn : F1 n b) : sameN m n = sameN a b := by
  unfold sameN
  rcases hm with rfl | ⟨h1, h2⟩ <;> rcases hn with rfl | ⟨h3, h4⟩
  · rfl
  · rw [h3, h4]
    cases h : fNaN m
    · have e1 : (m == n) = false := beq_eq_false_iff_ne.2 (fun e => by rw [e, h3] at h; cases h)
      have e2 : (m == b) = false := beq_eq_false_iff_ne.2 (fun e => by rw [e, h4] at h; cases h)
      rw [e1, e2]
    · rfl
  · rw [h1, h2]
    cases h : fNaN n
    · have e1 : (m == n) = false := beq_eq_false_iff_ne.2 (fun e => by rw [← e, h1] at h; cases h)
      have e2 : (a == n) = false := beq_eq_false_iff_ne.2 (fun e => by rw [← e, h2] at h; cases h)
      rw [e1, e2]
    · rfl
  · rw [h1, h2, h3, h4]; rfl
theorem meets_same {P : Program} {f : FuncId} {a b : Nat} (hE : Enters P f) (h : ∀ (m n : Nat) (w : World), Calls P f #[.float .f64 m, .float .f64 n] w fun e w' => e = .returned (.bool (sameN m n)) ∧ w' = w) : Meets P f [FK a, FK b] (B (sameN a b)) := by
  refine ⟨hE, fun w S vals hr hS => ?_⟩
  simp only [repL, rep] at hr
  obtain ⟨u, us, f1, f2, rfl, _, ⟨_, h1⟩, u2, us2, f3, f4, rfl, _, ⟨_, h2⟩, rfl, _⟩ := hr
  obtain ⟨m, rfl, hm⟩ := h1.flt
  obtain ⟨n, rfl, hn⟩ := h2.flt
  refine (h m n w).mono ?_
  rintro e w' ⟨rfl, rfl⟩
  exact ⟨_, [], rfl, Below.refl _ _, Nat.le_refl _, by rw [sameN_cong hm hn]; simp only [rep]; exact ⟨trivial, .refl _⟩, List.nodup_nil, by simp⟩
end Go.T
