/- Plain facts for FnExactSideBySide; no condition. -/

import Derived.Test.YtfanhncmpbncpaaF2b
set_option linter.unusedVariables false
namespace Go.Proofs.Ytfanhncmpbncpaa
open Go Go.T

theorem eqIntSS_l0 {p : List (List Int)} (hp : p.length < 1099511627776) (hi : ∀ x ∈ p, x.length < 1099511627776) : ∀ (n k : Nat), k ≤ p.length → p.length < n + k → laws_eqIntSS_l0 p p n k = some true
  | 0, k, h1, h2 => by omega
  | n + 1, k, h1, h2 => by
    rw [laws_eqIntSS_l0]
    by_cases hk : k < p.length
    · simp only [PS, hk, rd_at hk, w64_s (k := k) (by omega), eqIntSS_l0 hp hi n (k + 1) hk (by omega), eqIntS_refl (hi _ (List.getElem_mem hk))]
    · simp [hk]
theorem eqIntSS_refl {p : List (List Int)} (hp : p.length < 1099511627776) (hi : ∀ x ∈ p, x.length < 1099511627776) : laws_eqIntSS p p = some true := by
  simp [laws_eqIntSS]; exact eqIntSS_l0 hp hi FU 0 (by omega) (by have := FU_gt hp; omega)
theorem markIntS_at {a : List Int} {v : Int} (h : a.length < 1099511627776) (h0 : 0 ≤ v) (h1 : v < 1152921504606846976) : laws_markIntS a v = some (v + (a.length : Int), cnt v a.length) := by
  obtain ⟨v', a', e, b1, b2⟩ := markInt_l0 FU 0 a v (by omega) (by have := FU_gt h; omega) h h0 (by omega)
  rw [laws_markIntS]
  have e' : laws_markIntS_l0 FU a v 0 = some (v', a') := e
  rw [e', b1, b2]; simp
theorem heldIntS_at {m : Nat} {v : Int} (h : m < 1099511627776) (h0 : 0 ≤ v) (h1 : v < 1152921504606846976) : laws_heldIntS (cnt v m) v = some (v + (m : Int)) := by
  have hl := cnt_length m v
  have := heldInt_l0 FU 0 (cnt v m) v (by omega) (by have := FU_gt h; omega) (by omega) h0 (by omega) (by rw [hl]; rfl)
  rw [laws_heldIntS]
  have e' : laws_heldIntS_l0 (cnt v m) FU v 0 = some (v + (((cnt v m).length : Int) - 0)) := this
  rw [e', hl]; simp
/-- counting numbers, row by row -/
def cnts (v : Int) : List (List Int) → List (List Int)
  | [] => []
  | x :: l => cnt v x.length :: cnts (v + (x.length : Int)) l
def tot : List (List Int) → Int
  | [] => 0
  | x :: l => (x.length : Int) + tot l
theorem cnts_len : ∀ (l : List (List Int)) (v : Int), (cnts v l).length = l.length
  | [], v => rfl
  | x :: l, v => by simp [cnts, cnts_len l]
theorem tot_le {b : Nat} : ∀ (l : List (List Int)), (∀ x ∈ l, x.length ≤ b) → 0 ≤ tot l ∧ tot l ≤ (b : Int) * (l.length : Int)
  | [], h => by simp [tot]
  | x :: l, h => by
    have h1 := h x (by simp)
    have h2 := tot_le l (fun y hy => h y (by simp [hy]))
    rw [tot, List.length_cons]
    have e : (b : Int) * ((l.length + 1 : Nat) : Int) = (b : Int) * (l.length : Int) + b := by
      rw [show ((l.length + 1 : Nat) : Int) = (l.length : Int) + 1 by omega, Int.mul_add, Int.mul_one]
    rw [e]
    exact ⟨by omega, by omega⟩
theorem markSS_l0 : ∀ (n k : Nat) (a : List (List Int)) (v : Int), k ≤ a.length → a.length < n + k → a.length < 1000000 → (∀ x ∈ a, x.length ≤ 1000) → 0 ≤ v → v + 1000 * ((a.length : Int) - k) < 1152921504606846976 →
    laws_markIntSS_l0 n a v k = some (v + tot (a.drop k), a.take k ++ cnts v (a.drop k))
  | 0, k, a, v, h1, h2, h3, h4, h5, h6 => by omega
  | n + 1, k, a, v, h1, h2, h3, h4, h5, h6 => by
    rw [laws_markIntSS_l0]
    by_cases hk : k < a.length
    · have hx := h4 a[k] (List.getElem_mem hk)
      rw [List.drop_eq_getElem_cons hk, tot, cnts]
      simp only [PS, hk, rd_at hk, markIntS_at (a := a[k]) (v := v) (by omega) h5 (by omega), sameLen_ok (a := a[k]) (b := cnt v a[k].length) (cnt_length _ _), w64_s (k := k) (by omega)]
      rw [markSS_l0 n (k + 1) (a.set k (cnt v a[k].length)) (v + (a[k].length : Int)) (by rw [List.length_set]; omega) (by rw [List.length_set]; omega) (by rw [List.length_set]; omega) (fun x hxm => by
        rcases List.mem_or_eq_of_mem_set hxm with h | h
        · exact h4 x h
        · rw [h, cnt_length]; exact hx) (by omega) (by rw [List.length_set]; omega)]
      rw [List.drop_set_of_lt (by omega), List.take_add_one, List.getElem?_set_self hk, List.take_set_of_le (Nat.le_refl k)]
      simp only [Option.toList_some, List.append_assoc, List.singleton_append]
      congr 2
      omega
    · have : k = a.length := by omega
      subst this
      simp only [PS, Nat.lt_irrefl]
      simp [tot, cnts]
theorem heldSS_l0 : ∀ (n k : Nat) (p : List (List Int)) (v : Int) (L : List (List Int)), p.length = k + L.length → L.length < n → p.length < 1000000 → (∀ x ∈ L, x.length ≤ 1000) → 0 ≤ v → v + 1000 * (L.length : Int) < 1152921504606846976 → p.drop k = cnts v L →
    laws_heldIntSS_l0 p n v k = some (v + tot L)
  | 0, k, p, v, L, h1, h2, h3, h4, h5, h6, h7 => by omega
  | n + 1, k, p, v, [], h1, h2, h3, h4, h5, h6, h7 => by
    rw [laws_heldIntSS_l0]
    have : k = p.length := by simpa using h1.symm
    subst this
    simp only [PS, Nat.lt_irrefl]
    simp [tot]
  | n + 1, k, p, v, x :: L, h1, h2, h3, h4, h5, h6, h7 => by
    rw [laws_heldIntSS_l0]
    simp only [List.length_cons] at h1 h2 h6
    have hk : k < p.length := by omega
    have hx := h4 x (by simp)
    rw [List.drop_eq_getElem_cons hk, cnts] at h7
    injection h7 with e1 e2
    have hh : decide (v + (x.length : Int) < 0) = false := by simp; omega
    simp only [PS, hk, rd_at hk, e1, heldIntS_at (m := x.length) (v := v) (by omega) h5 (by omega), hh, w64_s (k := k) (by omega)]
    rw [heldSS_l0 n (k + 1) p (v + (x.length : Int)) L (by omega) (by omega) h3 (fun y hy => h4 y (by simp [hy])) (by omega) (by omega) e2, tot]
    congr 1; omega
theorem markIntSS_ok {a : List (List Int)} (h : a.length < 1000000) (hi : ∀ x ∈ a, x.length ≤ 1000) : ∃ v a', laws_markIntSS a 1 = some (v, a') ∧ 0 ≤ v ∧ a'.length = a.length ∧ laws_heldIntSS a' 1 = some v := by
  have ht := tot_le (b := 1000) a hi
  refine ⟨1 + tot a, cnts 1 a, ?_, by omega, cnts_len a 1, ?_⟩
  · rw [laws_markIntSS]
    have := markSS_l0 FU 0 a 1 (by omega) (by have := FU_gt (n := a.length) (by omega); omega) h hi (by omega) (by omega)
    simpa using this
  · rw [laws_heldIntSS]
    have := heldSS_l0 FU 0 (cnts 1 a) 1 a (by rw [cnts_len]; omega) (FU_gt (by omega)) (by rw [cnts_len]; omega) hi (by omega) (by omega) (by simp)
    simpa using this
end Go.Proofs.Ytfanhncmpbncpaa
