/- Plain facts for FnExactSideBySide; no condition. -/

import Derived.Test.YtfanhncmpbncpaaS1
set_option linter.unusedVariables false
namespace Go.Proofs.Ytfanhncmpbncpaa
open Go Go.T

theorem side_l1 {p : List GEvent} {a : List (Vector Int 4)} {KS : List (List Bool) → List (List Int) → Int → Option (List (List Int) × Bool)} {KI : List (List Int) → List (Vector Int 4) → Int → Option (List (List Int) × Bool)} {d : Nat} (hl : p.length ≤ 200) (hd : d < p.length)
    (ha : ∀ i, i < p.length → ∃ v, a[i]? = some v ∧ VR v (aheadF p i))
    (hK : ∀ acc : List (List Int), acc.length ≤ (d + 1) * 200 → (∀ x ∈ acc, x.length ≤ 1000) → ∃ r, KS (tbl (fun i => tbl (aheadF p i) p.length) p.length) acc ((d + 1 : Nat) : Int) = some r ∧ KI acc a ((d + 1 : Nat) : Int) = some r ∧ r.1.length ≤ 40000 ∧ ∀ x ∈ r.1, x.length ≤ 1000) :
    ∀ (n e : Nat) (acc : List (List Int)), e ≤ p.length → p.length < n + e → acc.length ≤ d * 200 + e → (∀ x ∈ acc, x.length ≤ 1000) →
    ∃ r, spec_SideBySide_l1 KS p d n (tbl (fun i => tbl (aheadF p i) p.length) p.length) acc e = some r ∧ impl_SideBySide_l1 KI p d n acc a e = some r ∧ r.1.length ≤ 40000 ∧ ∀ x ∈ r.1, x.length ≤ 1000
  | 0, e, acc, h1, h2, h3, h4 => by omega
  | n + 1, e, acc, h1, h2, h3, h4 => by
    rw [spec_SideBySide_l1, impl_SideBySide_l1]
    by_cases he : e < p.length
    · obtain ⟨v, v1, v2⟩ := ha e he
      have hrv : rd a (e : Int) = some v := by rw [rd_nat]; exact v1
      simp only [PS, he, tbl_rd (f := fun i => tbl (aheadF p i) p.length) he, tbl_rd (f := aheadF p e) hd, hrv, has_ok v2 (show d < 256 by omega), w64_s (k := e) (by omega), app_ok (a := acc) (b := [[(d : Int), (e : Int)]]) (by simp; omega)]
      cases aheadF p e d
      · simp only [PS, ]
        exact side_l1 hl hd ha hK n (e + 1) _ he (by omega) (by simp; omega) (fun x hx => by
          rcases List.mem_append.1 hx with h | h
          · exact h4 x h
          · simp at h; subst h; simp)
      · simp only [PS, ]
        exact side_l1 hl hd ha hK n (e + 1) _ he (by omega) (by omega) h4
    · have : e = p.length := by omega
      subst this
      simp only [PS, Nat.lt_irrefl, w64_s (k := d) (by omega)]
      exact hK acc (by omega) h4
theorem side_l0 {p : List GEvent} {a : List (Vector Int 4)} (hl : p.length ≤ 200) (ha : ∀ i, i < p.length → ∃ v, a[i]? = some v ∧ VR v (aheadF p i)) :
    ∀ (n d : Nat) (acc : List (List Int)), d ≤ p.length → p.length < n + d → acc.length ≤ d * 200 → (∀ x ∈ acc, x.length ≤ 1000) →
    ∃ r, spec_SideBySide_l0 p n (tbl (fun i => tbl (aheadF p i) p.length) p.length) acc d = some r ∧ impl_SideBySide_l0 p n acc a d = some r ∧ r.1.length ≤ 40000 ∧ ∀ x ∈ r.1, x.length ≤ 1000
  | 0, d, acc, h1, h2, h3, h4 => by omega
  | n + 1, d, acc, h1, h2, h3, h4 => by
    rw [spec_SideBySide_l0, impl_SideBySide_l0]
    by_cases hd : d < p.length
    · simp only [PS, hd, w64_s (k := d) (by omega)]
      exact side_l1 hl hd ha (fun acc h h' => side_l0 hl ha n (d + 1) acc hd (by omega) h h') FU (d + 1) acc (by omega) (by have := FU_gt (n := p.length) (by omega); omega) (by omega) h4
    · simp only [PS, hd]
      exact ⟨(acc, true), rfl, rfl, by simp only; omega, h4⟩
theorem side_both {p : List GEvent} (hp : p.length < 1099511627776) : ∃ r, spec_SideBySide p = some r ∧ impl_SideBySide p = some r ∧ r.1.length ≤ 40000 ∧ ∀ x ∈ r.1, x.length ≤ 1000 := by
  rw [spec_SideBySide, impl_SideBySide]
  simp only [PS, spec_trace_eq hp, impl_trace_eq hp]
  cases hg : goodT p
  · exact ⟨([], false), by simp, by simp, by simp, by simp⟩
  · unfold goodT at hg
    simp only [Bool.and_eq_true, decide_eq_true_eq] at hg
    obtain ⟨a, e1, e2⟩ := implAhead_eq hg.2 hg.1
    simp only [PS, specAhead_eq (p := p) (by omega), e1]
    exact side_l0 hg.2 e2 FU 0 [] (by omega) (by have := FU_gt (n := p.length) (by omega); omega) (by simp) (by simp)
theorem law_SideBySide (p : List GEvent) (hq : p.length ≤ 9223372036854775807) : laws_FnExactSideBySide p = some true := by
  rw [laws_FnExactSideBySide]
  simp only [PS, szEventS_ok hq]
  by_cases hs : p.length ≤ 1048576
  · have hp : p.length < 1099511627776 := by omega
    obtain ⟨r, e1, e2, e3, e4⟩ := side_both hp
    obtain ⟨v1, a1, m1, m2, m3⟩ := markEventS_ok hp
    obtain ⟨v2, a2, n1, n2, n3, n4⟩ := markIntSS_ok (a := r.1) (by omega) e4
    have h1 : decide (1048576 - (p.length : Int) < 0) = false := by simp; omega
    have h2 : decide (v1 < 0) = false := by simp; omega
    have h3 : decide (v2 < 0) = false := by simp; omega
    simp only [PS, hs, h1, toEventS_id hp, e1, e2, eqIntSS_refl (p := r.1) (by omega) (fun x hx => by have := e4 x hx; omega), laws_FnExactSideBySide_j0, eqEventS_refl hp, m1, sameLen_ok m3, h2, laws_FnExactSideBySide_j1, n1, sameLen_ok n3, n4, h3, laws_FnExactSideBySide_j2]
  · simp [hs]
end Go.Proofs.Ytfanhncmpbncpaa
