/- Plain facts for FnExactRacyCells; no condition. -/

import Derived.Test.YtihgcgccajikpaaF2b
set_option linter.unusedVariables false
namespace Go.Proofs.Ytihgcgccajikpaa
open Go Go.T

/- the races -/
theorem touch_s (e : GEvent) : spec_l7Touch e = some (e.Kind == 2 || e.Kind == 3) := by
  unfold spec_l7Touch; by_cases h1 : e.Kind = 2 <;> simp [h1]
theorem touch_i (e : GEvent) : impl_Event_touches e = some (e.Kind == 2 || e.Kind == 3) := by
  unfold impl_Event_touches; by_cases h1 : e.Kind = 2 <;> simp [h1]
theorem good_obj {p : List GEvent} {d : Nat} (hg : p.all goodE = true) (h : d < p.length) (hk : ((evAt p d).Kind == 2 || (evAt p d).Kind == 3) = true) : 0 ≤ (evAt p d).Obj ∧ (evAt p d).Obj ≤ 99 := by
  have h1 := evAt_good hg h
  unfold goodE at h1
  simp only [Bool.or_eq_true, beq_iff_eq] at hk
  simp only [Bool.and_eq_true, Bool.or_eq_true, Bool.not_eq_true', bne_iff_ne, decide_eq_true_eq, inr, Bool.and_eq_false_iff, decide_eq_false_iff_not] at h1
  omega
def RB (n : Nat) (r : List GRace) : Prop := r.length ≤ n ∧ ∀ x ∈ r, 0 ≤ x.Cell ∧ x.Cell ≤ 99
theorem races_l1 {p : List GEvent} {a : List (Vector Int 4)} {KS : List (List Bool) → List GRace → Int → Option (List GRace)} {KI : List GRace → List (Vector Int 4) → Int → Option (List GRace)} {e : Nat} (hl : p.length ≤ 200) (hg : p.all goodE = true) (he : e < p.length)
    (ha : ∀ i, i < p.length → ∃ v, a[i]? = some v ∧ VR v (aheadF p i))
    (hK : ∀ acc : List GRace, RB ((e + 1) * 200) acc → ∃ r, KS (tbl (fun i => tbl (aheadF p i) p.length) p.length) acc ((e + 1 : Nat) : Int) = some r ∧ KI acc a ((e + 1 : Nat) : Int) = some r ∧ RB 40000 r) :
    ∀ (n d : Nat) (acc : List GRace), d ≤ e → e < n + d → RB (e * 200 + d) acc →
    ∃ r, spec_l7Races_l1 KS p e (p.take e) n (tbl (fun i => tbl (aheadF p i) p.length) p.length) acc (evAt p e) d = some r ∧ impl_races_l1 KI p e (p.take e) n acc a (evAt p e) d = some r ∧ RB 40000 r
  | 0, d, acc, h1, h2, h3 => by omega
  | n + 1, d, acc, h1, h2, h3 => by
    rw [spec_l7Races_l1, impl_races_l1]
    have h3l := h3.1
    have hle : (p.take e).length = e := by simp; omega
    by_cases hd : d < e
    · have hx : rd (p.take e) (d : Int) = some (evAt p d) := by
        rw [rd_nat, List.getElem?_take, if_pos hd]; simp [evAt, show d < p.length by omega]
      have next := races_l1 hl hg he ha hK n (d + 1) acc hd (by omega) ⟨by omega, h3.2⟩
      have next2 := fun (hk : ((evAt p d).Kind == 2 || (evAt p d).Kind == 3) = true) => races_l1 hl hg he ha hK n (d + 1) (acc ++ [⟨(evAt p d).Obj, d, e⟩]) hd (by omega) ⟨by simp; omega, fun x hx => by
        rcases List.mem_append.1 hx with h | h
        · exact h3.2 x h
        · simp at h; subst h; exact good_obj hg (show d < p.length by omega) hk⟩
      obtain ⟨v, v1, v2⟩ := ha e he
      have hrv : rd a (e : Int) = some v := by rw [rd_nat]; exact v1
      simp only [PS, hle, hd, hx, touch_s, touch_i, w64_s (k := d) (by omega), tbl_rd (f := fun i => tbl (aheadF p i) p.length) he, tbl_rd (f := aheadF p e) (show d < p.length by omega), hrv, has_ok v2 (show d < 256 by omega), spec_l7Races_j2, impl_races_j2, app_ok (a := acc) (b := [(⟨(evAt p d).Obj, d, e⟩ : GRace)]) (by simp; omega)]
      cases hk : ((evAt p d).Kind == 2 || (evAt p d).Kind == 3)
      · simp only [PS, ]; exact next
      · have next2 := next2 hk
        cases ((evAt p e).Kind == 2 || (evAt p e).Kind == 3)
        · simp only [PS, ]; exact next
        · by_cases ho : (evAt p d).Obj = (evAt p e).Obj
          · have ho' : ((evAt p d).Obj == (evAt p e).Obj) = true := by simp [ho]
            rw [← ho]
            cases (evAt p d).Thread != (evAt p e).Thread <;> cases (evAt p d).Kind == 3 <;> cases (evAt p e).Kind == 3 <;> cases aheadF p e d <;> simp only [PS, app_ok (a := acc) (b := [(⟨(evAt p d).Obj, d, e⟩ : GRace)]) (by simp; omega)] <;> first | exact next | exact next2
          · have ho' : ((evAt p d).Obj == (evAt p e).Obj) = false := by simp [ho]
            simp only [PS, ho']; exact next
    · have : d = e := by omega
      subst this
      simp only [PS, hle, Nat.lt_irrefl, w64_s (k := d) (by omega)]
      exact hK acc ⟨by omega, h3.2⟩
theorem races_l0 {p : List GEvent} {a : List (Vector Int 4)} (hl : p.length ≤ 200) (hg : p.all goodE = true) (ha : ∀ i, i < p.length → ∃ v, a[i]? = some v ∧ VR v (aheadF p i)) :
    ∀ (n e : Nat) (acc : List GRace), e ≤ p.length → p.length < n + e → RB (e * 200) acc →
    ∃ r, spec_l7Races_l0 p n (tbl (fun i => tbl (aheadF p i) p.length) p.length) acc e = some r ∧ impl_races_l0 p n acc a e = some r ∧ RB 40000 r
  | 0, e, acc, h1, h2, h3 => by omega
  | n + 1, e, acc, h1, h2, h3 => by
    rw [spec_l7Races_l0, impl_races_l0]
    by_cases he : e < p.length
    · simp only [PS, he, evAt_rd he, slc_take (l := p) (k := e) (by omega)]
      exact races_l1 hl hg he ha (fun acc h => races_l0 hl hg ha n (e + 1) acc he (by omega) h) FU 0 acc (by omega) (by have := FU_gt (n := e) (by omega); omega) ⟨by have := h3.1; omega, h3.2⟩
    · simp only [PS, he]
      exact ⟨acc, rfl, rfl, by have := h3.1; omega, h3.2⟩
theorem races_both {p : List GEvent} (hl : p.length ≤ 200) (hg : p.all goodE = true) : ∃ r, spec_l7Races p = some r ∧ impl_races p = some r ∧ RB 40000 r := by
  obtain ⟨a, e1, e2⟩ := implAhead_eq hl hg
  rw [spec_l7Races, impl_races, specAhead_eq (by omega), e1]
  simp only [PS, ]
  exact races_l0 hl hg e2 FU 0 [] (by omega) (by have := FU_gt (n := p.length) (by omega); omega) ⟨by simp, by simp⟩
end Go.Proofs.Ytihgcgccajikpaa
