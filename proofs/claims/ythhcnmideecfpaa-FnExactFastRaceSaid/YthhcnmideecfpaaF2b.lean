/- Plain facts for FnExactFastRace; no condition. -/

import Derived.Test.YthhcnmideecfpaaF2
set_option linter.unusedVariables false
namespace Go.Proofs.Ythhcnmideecfpaa
open Go Go.T

/-- impl's rows: those ahead of e are whole, e itself is r, the others are empty -/
def IR (len : Nat) (a : List (Vector Int 4)) (e : Nat) (F : Nat → Nat → Bool) (r : Nat → Bool) : Prop :=
  a.length = len ∧ ∀ i, i < len → ∃ v, a[i]? = some v ∧ VR v (if i < e then F i else if i = e then r else fun _ => false)
theorem VR_congr {v : Vector Int 4} {r q : Nat → Bool} (h : VR v r) (e : r = q) : VR v q := e ▸ h
theorem VR_zero : VR (Vector.replicate 4 0) (fun _ => false) := by
  constructor
  · intro w x hx
    rcases Nat.lt_or_ge w 4 with h | h
    · rw [Vector.getElem?_replicate, if_pos h] at hx; cases hx; omega
    · rw [Vector.getElem?_eq_none (by omega)] at hx; cases hx
  · intro k hk
    unfold bitAt
    rw [Vector.getElem?_replicate, if_pos (by omega)]
    simp
theorem IR_set {len e : Nat} {a : List (Vector Int 4)} {F : Nat → Nat → Bool} {r r' : Nat → Bool} {v : Vector Int 4} (h : IR len a e F r) (he : e < len) (hv : VR v r') : IR len (a.set e v) e F r' := by
  refine ⟨by rw [List.length_set]; exact h.1, fun i hi => ?_⟩
  by_cases hie : i = e
  · subst hie
    refine ⟨v, by rw [List.getElem?_set_self (by rw [h.1]; exact hi)], ?_⟩
    rw [if_neg (Nat.lt_irrefl _), if_pos rfl]; exact hv
  · obtain ⟨u, h1, h2⟩ := h.2 i hi
    refine ⟨u, by rw [List.getElem?_set_ne (fun e => hie e.symm)]; exact h1, ?_⟩
    simp only [hie, if_false] at h2 ⊢
    exact h2
theorem implAhead_l1 {p : List GEvent} {K0 : List (Vector Int 4) → Int → Option (List (Vector Int 4))} {e : Nat} {F : Nat → Nat → Bool} (hl : p.length ≤ 200) (hg : p.all goodE = true) (he : e < p.length) : ∀ (n m d : Nat) (a : List (Vector Int 4)) (r : Nat → Bool), d + m = e → m < n → IR p.length a e F r →
    ∃ a', impl_aheadOf_l1 K0 p e n a d = K0 a' (((e + 1 : Nat) : Int)) ∧ IR p.length a' e F (rowUp (leadAt p) F e m d r)
  | 0, m, d, a, r, h1, h2, h3 => by omega
  | n + 1, 0, d, a, r, h1, h2, h3 => by
    rw [impl_aheadOf_l1]
    have : d = e := by omega
    subst this
    simp only [PS, Nat.lt_irrefl, w64_s (k := d) (by omega), rowUp]
    exact ⟨a, rfl, h3⟩
  | n + 1, m + 1, d, a, r, h1, h2, h3 => by
    rw [impl_aheadOf_l1]
    have hd : d < e := by omega
    simp only [PS, hd, evAt_rd (show d < p.length by omega), evAt_rd he, impl_leads_eq (evAt_good hg (show d < p.length by omega)) (evAt_good hg he), w64_s (k := d) (by omega), rowUp]
    show ∃ a', _ ∧ IR p.length a' e F (rowUp (leadAt p) F e m (d + 1) (if leadB (evAt p d) (evAt p e) = true then _ else _))
    cases leadB (evAt p d) (evAt p e)
    · simp only [PS, ]
      exact implAhead_l1 hl hg he n m (d + 1) a r (by omega) (by omega) h3
    · obtain ⟨v, e1, e2⟩ := h3.2 e he
      obtain ⟨u, f1, f2⟩ := h3.2 d (by omega)
      rw [if_neg (Nat.lt_irrefl _), if_pos rfl] at e2
      rw [if_pos hd] at f2
      obtain ⟨v', g1, g2⟩ := with_ok (d := d) e2 (by omega)
      obtain ⟨c, k1, k2⟩ := joined_ok g2 f2
      have r1 : rd a (e : Int) = some v := by rw [rd_nat]; exact e1
      have r2 : rd a (d : Int) = some u := by rw [rd_nat]; exact f1
      simp only [PS, r1, r2, g1, k1]
      exact implAhead_l1 hl hg he n m (d + 1) _ _ (by omega) (by omega) (IR_set h3 he k2)
theorem implAhead_l0 {p : List GEvent} (hl : p.length ≤ 200) (hg : p.all goodE = true) : ∀ (n m e : Nat) (F : Nat → Nat → Bool) (a : List (Vector Int 4)), e + m = p.length → m < n → IR p.length a e F (fun _ => false) →
    ∃ a', impl_aheadOf_l0 p n a e = some a' ∧ IR p.length a' p.length (fullT (leadAt p) m e F) (fun _ => false)
  | 0, m, e, F, a, h1, h2, h3 => by omega
  | n + 1, 0, e, F, a, h1, h2, h3 => by
    rw [impl_aheadOf_l0]
    have : e = p.length := by omega
    subst this
    simp only [PS, Nat.lt_irrefl, fullT]
    exact ⟨a, rfl, h3⟩
  | n + 1, m + 1, e, F, a, h1, h2, h3 => by
    rw [impl_aheadOf_l0]
    have he : e < p.length := by omega
    simp only [PS, he, fullT]
    obtain ⟨a', e1, e2⟩ := implAhead_l1 (K0 := impl_aheadOf_l0 p n) hl hg he FU e 0 a _ (by omega) (by have := FU_gt (n := e) (by omega); omega) h3
    rw [show impl_aheadOf_l1 (impl_aheadOf_l0 p n) p (e : Int) FU a 0 = _ from e1]
    refine implAhead_l0 hl hg n m (e + 1) _ a' (by omega) (by omega) ⟨e2.1, fun i hi => ?_⟩
    obtain ⟨v, k1, k2⟩ := e2.2 i hi
    refine ⟨v, k1, VR_congr k2 ?_⟩
    unfold upd
    by_cases h : i = e
    · subst h; simp
    · by_cases h' : i < e
      · rw [if_pos h', if_pos (by omega)]; simp [h]
      · rw [if_neg h', if_neg h, if_neg (by omega)]; simp
theorem implAhead_eq' {p : List GEvent} (hl : p.length ≤ 200) (hg : p.all goodE = true) : ∃ a, impl_aheadOf p = some a ∧ a.length = p.length ∧ ∀ i, i < p.length → ∃ v, a[i]? = some v ∧ VR v (aheadF p i) := by
  rw [impl_aheadOf, mk_ok (z := Vector.replicate 4 (0 : Int)) (n := p.length) (by omega)]
  simp only [PS, ]
  obtain ⟨a, e1, e2⟩ := implAhead_l0 hl hg FU p.length 0 (fun _ _ => false) (List.replicate p.length (Vector.replicate 4 0)) (by omega) (by have := FU_gt (n := p.length) (by omega); omega) ⟨by simp, fun i hi => ⟨Vector.replicate 4 0, by simp [hi], VR_congr VR_zero (by simp)⟩⟩
  refine ⟨a, e1, e2.1, fun i hi => ?_⟩
  obtain ⟨v, k1, k2⟩ := e2.2 i hi
  rw [if_pos hi] at k2
  exact ⟨v, k1, k2⟩
theorem implAhead_eq {p : List GEvent} (hl : p.length ≤ 200) (hg : p.all goodE = true) : ∃ a, impl_aheadOf p = some a ∧ ∀ i, i < p.length → ∃ v, a[i]? = some v ∧ VR v (aheadF p i) := by
  obtain ⟨a, e1, _, e2⟩ := implAhead_eq' hl hg
  exact ⟨a, e1, e2⟩

end Go.Proofs.Ythhcnmideecfpaa
