/- Plain facts for FnExactWarnsGuarded; no condition. -/

import Derived.Test.YtihgcgccajikpaaLPa
set_option linter.unusedVariables false
namespace Go.Proofs.Ytihgcgccajikpaa
open Go Go.T

theorem idx_l0 {p : List Int} {x : Int} (hp : p.length < 1000000) : ∀ (n k : Nat), k ≤ p.length → p.length < n + k → ∃ r : Int, slices_Index_int_int_l0 p x n k = some r ∧ decide (r ≥ 0) = (p.drop k).any (· == x)
  | 0, k, h1, h2 => by omega
  | n + 1, k, h1, h2 => by
    rw [slices_Index_int_int_l0]
    by_cases hk : k < p.length
    · rw [List.drop_eq_getElem_cons hk, List.any_cons]
      obtain ⟨r, e1, e2⟩ := idx_l0 (x := x) hp n (k + 1) hk (by omega)
      simp only [PS, hk, rd_at hk, w64_s (k := k) (by omega), e1, e2]
      by_cases h : x = p[k]
      · subst h; exact ⟨k, by simp, by simp⟩
      · have h' : (p[k] == x) = false := by simp; exact fun e => h e.symm
        have h2 : (x == p[k]) = false := by simpa using h
        exact ⟨r, by simp [h', h2], by simp [h', e2]⟩
    · have : k = p.length := by omega
      subst this
      exact ⟨-1, by simp, by simp⟩
theorem contains_eq {p : List Int} {x : Int} (hp : p.length < 1000000) : slices_Contains_int_int p x = some (p.any (· == x)) := by
  obtain ⟨r, e1, e2⟩ := idx_l0 (x := x) hp FU 0 (by omega) (by have := FU_gt (n := p.length) (by omega); omega)
  rw [slices_Contains_int_int, slices_Index_int_int, show slices_Index_int_int_l0 p x FU 0 = some r from e1]
  simpa using e2
theorem has_l0 {p : List Int} {x : Int} (hp : p.length < 1000000) : ∀ (n k : Nat), k ≤ p.length → p.length < n + k → spec_l1Has_l0 p x n k = some ((p.drop k).any (· == x))
  | 0, k, h1, h2 => by omega
  | n + 1, k, h1, h2 => by
    rw [spec_l1Has_l0]
    by_cases hk : k < p.length
    · rw [List.drop_eq_getElem_cons hk, List.any_cons]
      simp only [PS, hk, rd_at hk, w64_s (k := k) (by omega), has_l0 (x := x) hp n (k + 1) hk (by omega)]
      by_cases h : p[k] = x <;> simp [h]
    · have : k = p.length := by omega
      subst this
      simp
theorem has_eq {p : List Int} {x : Int} (hp : p.length < 1000000) : spec_l1Has p x = some (p.any (· == x)) := by
  rw [spec_l1Has]
  exact has_l0 hp FU 0 (by omega) (by have := FU_gt (n := p.length) (by omega); omega)
/-- those of a that are in b -/
def both_ (a b : List Int) : List Int := a.filter (fun x => b.any (· == x))
theorem both_len (a b : List Int) : (both_ a b).length ≤ a.length := List.length_filter_le _ _
theorem both_self (a : List Int) : both_ a a = a := by
  unfold both_
  rw [List.filter_eq_self]
  intro x hx
  rw [List.any_eq_true]; exact ⟨x, hx, by simp⟩
theorem common_l0 {a b : List Int} (ha : a.length < 1000000) (hb : b.length < 1000000) : ∀ (n k : Nat) (o : List Int), k ≤ a.length → a.length < n + k → o.length ≤ k → impl_common_l0 a b n o k = some (o ++ both_ (a.drop k) b)
  | 0, k, o, h1, h2, h3 => by omega
  | n + 1, k, o, h1, h2, h3 => by
    rw [impl_common_l0]
    by_cases hk : k < a.length
    · rw [List.drop_eq_getElem_cons hk]
      simp only [PS, hk, rd_at hk, contains_eq hb, w64_s (k := k) (by omega), app_ok (a := o) (b := [a[k]]) (by simp; omega), common_l0 ha hb n (k + 1) (o ++ [a[k]]) hk (by omega) (by simp; omega), common_l0 ha hb n (k + 1) o hk (by omega) (by omega)]
      unfold both_
      rw [List.filter_cons]
      cases b.any (· == a[k]) <;> simp
    · have : k = a.length := by omega
      subst this
      simp [both_]
theorem common_eq {a b : List Int} (ha : a.length < 1000000) (hb : b.length < 1000000) : impl_common a b = some (both_ a b) := by
  rw [impl_common]
  have := common_l0 ha hb FU 0 [] (by omega) (by have := FU_gt (n := a.length) (by omega); omega) (by simp)
  simpa using this
theorem both_filter (f : Int → Bool) (a h : List Int) : both_ (a.filter f) (h.filter f) = (both_ a h).filter f := by
  unfold both_
  rw [List.filter_filter, List.filter_filter]
  apply List.filter_congr
  intro x _
  cases hf : f x
  · simp
  · simp only [Bool.and_true, Bool.true_and]
    rw [Bool.eq_iff_iff, List.any_eq_true, List.any_eq_true]
    constructor
    · rintro ⟨y, hy, e⟩; exact ⟨y, (List.mem_filter.1 hy).1, e⟩
    · rintro ⟨y, hy, e⟩
      have : y = x := by simpa using e
      subst this
      exact ⟨y, List.mem_filter.2 ⟨hy, hf⟩, e⟩
def nxA (h : List Int) : Option (List Int) → List Int
  | none => h
  | some a => both_ a h
end Go.Proofs.Ytihgcgccajikpaa
