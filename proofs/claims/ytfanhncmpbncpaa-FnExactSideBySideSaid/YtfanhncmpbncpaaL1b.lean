/- Plain facts for FnExactSideBySide; no condition. -/

import Derived.Test.YtfanhncmpbncpaaL1
set_option linter.unusedVariables false
namespace Go.Proofs.Ytfanhncmpbncpaa
open Go Go.T

theorem eqInt_l0 {p : List Int} (hp : p.length < 1099511627776) : ∀ (n k : Nat), k ≤ p.length → p.length < n + k → laws_eqIntS_l0 p p n k = some true
  | 0, k, h1, h2 => by omega
  | n + 1, k, h1, h2 => by
    rw [laws_eqIntS_l0]
    by_cases hk : k < p.length
    · simp only [PS, hk, rd_at hk, w64_s (k := k) (by omega), eqInt_l0 hp n (k + 1) hk (by omega)]
    · simp [hk]
theorem eqIntS_refl {p : List Int} (hp : p.length < 1099511627776) : laws_eqIntS p p = some true := by
  simp [laws_eqIntS]; exact eqInt_l0 hp FU 0 (by omega) (by have := FU_gt hp; omega)
theorem markEvent_l0 : ∀ (n k : Nat) (a : List GEvent) (v : Int), k ≤ a.length → a.length < n + k → a.length < 1099511627776 → 0 ≤ v → v + 5 * ((a.length : Int) - k) < 4611686018427387904 → ∃ v' a', laws_markEventS_l0 n a v k = some (v', a') ∧ 0 ≤ v' ∧ a'.length = a.length
  | 0, k, a, v, h1, h2, h3, h4, h5 => by omega
  | n + 1, k, a, v, h1, h2, h3, h4, h5 => by
    rw [laws_markEventS_l0]
    by_cases hk : k < a.length
    · have w1 : w64 (v + 1) = v + 1 := w64_id (by omega)
      have w2 : w64 (v + 1 + 1) = v + 1 + 1 := w64_id (by omega)
      have w3 : w64 (v + 1 + 1 + 1) = v + 1 + 1 + 1 := w64_id (by omega)
      have w4 : w64 (v + 1 + 1 + 1 + 1) = v + 1 + 1 + 1 + 1 := w64_id (by omega)
      have w5 : w64 (v + 1 + 1 + 1 + 1 + 1) = v + 1 + 1 + 1 + 1 + 1 := w64_id (by omega)
      simp only [PS, hk, rd_at hk, w1, w2, w3, w4, w5, w64_s (k := k) (by omega)]
      obtain ⟨v', a', e, b1, b2⟩ := markEvent_l0 n (k + 1) (a.set k ⟨v, v + 1, v + 1 + 1, v + 1 + 1 + 1, v + 1 + 1 + 1 + 1⟩) (v + 1 + 1 + 1 + 1 + 1) (by simp; omega) (by simp; omega) (by simpa using h3) (by omega) (by simp; omega)
      exact ⟨v', a', e, b1, by simpa using b2⟩
    · simp only [PS, hk]
      exact ⟨v, a, rfl, h4, rfl⟩
theorem markEventS_ok {a : List GEvent} (h : a.length < 1099511627776) : ∃ v' a', laws_markEventS a 1 = some (v', a') ∧ 0 ≤ v' ∧ a'.length = a.length :=
  markEvent_l0 FU 0 a 1 (by omega) (by have := FU_gt h; omega) h (by omega) (by omega)

/-- counting numbers -/
def cnt (v : Int) : Nat → List Int
  | 0 => []
  | m + 1 => v :: cnt (v + 1) m
theorem markInt_l0 : ∀ (n k : Nat) (a : List Int) (v : Int), k ≤ a.length → a.length < n + k → a.length < 1099511627776 → 0 ≤ v → v + ((a.length : Int) - k) < 4611686018427387904 → ∃ v' a', laws_markIntS_l0 n a v k = some (v', a') ∧ v' = v + ((a.length : Int) - k) ∧ a' = a.take k ++ cnt v (a.length - k)
  | 0, k, a, v, h1, h2, h3, h4, h5 => by omega
  | n + 1, k, a, v, h1, h2, h3, h4, h5 => by
    rw [laws_markIntS_l0]
    by_cases hk : k < a.length
    · have w1 : w64 (v + 1) = v + 1 := w64_id (by omega)
      simp only [PS, hk, rd_nat, Int.toNat_natCast, List.getElem?_eq_getElem, Option.bind_some, w1, w64_s (k := k) (by omega)]
      obtain ⟨v', a', e, b1, b2⟩ := markInt_l0 n (k + 1) (a.set k v) (v + 1) (by simp; omega) (by simp; omega) (by simpa using h3) (by omega) (by simp; omega)
      refine ⟨v', a', e, by simp at b1; omega, ?_⟩
      rw [b2, List.length_set, List.take_add_one, List.take_set_of_le (Nat.le_refl k)]
      have : a.length - k = (a.length - (k + 1)) + 1 := by omega
      rw [this, cnt]; simp [hk]
    · simp only [PS, hk]
      have : k = a.length := by omega
      subst this
      exact ⟨v, a, rfl, by omega, by simp [cnt]⟩
theorem heldInt_l0 : ∀ (n k : Nat) (p : List Int) (v : Int), k ≤ p.length → p.length < n + k → p.length < 1099511627776 → 0 ≤ v → v + ((p.length : Int) - k) < 4611686018427387904 → p.drop k = cnt v (p.length - k) → laws_heldIntS_l0 p n v k = some (v + ((p.length : Int) - k))
  | 0, k, p, v, h1, h2, h3, h4, h5, h6 => by omega
  | n + 1, k, p, v, h1, h2, h3, h4, h5, h6 => by
    rw [laws_heldIntS_l0]
    by_cases hk : k < p.length
    · have w1 : w64 (v + 1) = v + 1 := w64_id (by omega)
      have : p.length - k = (p.length - (k + 1)) + 1 := by omega
      rw [this, cnt, List.drop_eq_getElem_cons hk] at h6
      injection h6 with e1 e2
      have := heldInt_l0 n (k + 1) p (v + 1) hk (by omega) h3 (by omega) (by omega) e2
      simp only [PS, hk, rd_nat, List.getElem?_eq_getElem, Option.bind_some, w1, w64_s (k := k) (by omega), e1, bne_self_eq_false, this]
      simp; omega
    · simp only [PS, hk]
      have : k = p.length := by omega
      subst this
      simp
theorem cnt_length : ∀ (m : Nat) (v : Int), (cnt v m).length = m
  | 0, v => rfl
  | m + 1, v => by simp [cnt, cnt_length m]
theorem markIntS_ok {a : List Int} (h : a.length < 1099511627776) : ∃ a', laws_markIntS a 1 = some (1 + (a.length : Int), a') ∧ a'.length = a.length ∧ laws_heldIntS a' 1 = some (1 + (a.length : Int)) := by
  obtain ⟨v', a', e, b1, b2⟩ := markInt_l0 FU 0 a 1 (by omega) (by have := FU_gt h; omega) h (by omega) (by omega)
  have hl : a'.length = a.length := by rw [b2]; simp [cnt_length]
  refine ⟨a', ?_, hl, ?_⟩
  · rw [laws_markIntS]; rw [b1] at e; simpa using e
  · have := heldInt_l0 FU 0 a' 1 (by omega) (by have := FU_gt h; omega) (by omega) (by omega) (by omega) (by rw [hl]; simpa using b2)
    rw [laws_heldIntS]; rw [hl] at this; simpa using this
end Go.Proofs.Ytfanhncmpbncpaa
