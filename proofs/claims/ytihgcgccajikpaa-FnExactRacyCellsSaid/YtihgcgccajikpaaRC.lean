/- Plain facts for FnExactRacyCells; no condition. -/

import Derived.Test.YtihgcgccajikpaaQFnExactRacyCells
set_option linter.unusedVariables false
namespace Go.Proofs.Ytihgcgccajikpaa
open Go Go.T

def cells (r : List GRace) : List Int := r.map (·.Cell)
theorem spec_racy {r : List GRace} (hr : r.length < 500000) : ∀ (n k : Nat) (a : List Int), k ≤ r.length → r.length < n + k → a.length ≤ k → spec_RacyCells_l0 r n a r k = some (puts a (cells (r.drop k)), true)
  | 0, k, a, h1, h2, h3 => by omega
  | n + 1, k, a, h1, h2, h3 => by
    rw [spec_RacyCells_l0]
    by_cases hk : k < r.length
    · have hp := put_len r[k].Cell a
      rw [List.drop_eq_getElem_cons hk]
      simp only [PS, hk, rd_at hk, put_eq (p := a) (r := r[k].Cell) (by omega), w64_s (k := k) (by omega), spec_racy hr n (k + 1) (put r[k].Cell a) hk (by omega) (by omega)]
      rfl
    · have : k = r.length := by omega
      subst this
      simp only [PS, Nat.lt_irrefl]
      simp [puts, cells]
theorem impl_racy {r : List GRace} (hr : r.length < 500000) : ∀ (n k : Nat) (a : List Int), k ≤ r.length → r.length < n + k → a.length ≤ k → impl_RacyCells_l0 r n a r k = some (setL (a ++ cells (r.drop k)), true)
  | 0, k, a, h1, h2, h3 => by omega
  | n + 1, k, a, h1, h2, h3 => by
    rw [impl_RacyCells_l0]
    by_cases hk : k < r.length
    · rw [List.drop_eq_getElem_cons hk]
      simp only [PS, hk, rd_at hk, app_ok (a := a) (b := [r[k].Cell]) (by simp; omega), w64_s (k := k) (by omega), impl_racy hr n (k + 1) (a ++ [r[k].Cell]) hk (by omega) (by simp; omega)]
      simp only [cells, List.map_cons, List.append_assoc, List.singleton_append]
    · have : k = r.length := by omega
      subst this
      simp only [PS, Nat.lt_irrefl, rising_eq (p := a) (by omega)]
      simp [cells]
theorem law_RacyCells (x0 : (List GEvent)) (g0 : x0.length ≤ 9223372036854775807) : laws_FnExactRacyCells x0 = some true := by
  refine law_RacyCells_of x0 g0 fun sm0 => ?_
  have hp' : x0.length < 1099511627776 := by have := (show x0.length ≤ 1048576 from sm0); omega
  rw [spec_RacyCells, impl_RacyCells]
  simp only [PS, spec_trace_eq hp', impl_trace_eq hp']
  cases hg : goodT x0
  · exact ⟨([], false), by simp, by simp, by show ([] : List Int).length ≤ 1048576; simp⟩
  · unfold goodT at hg
    simp only [Bool.and_eq_true, decide_eq_true_eq] at hg
    obtain ⟨r, e1, e2, e3⟩ := races_both hg.2 hg.1
    have hl : r.length ≤ 40000 := e3.1
    have s1 := spec_racy (r := r) (by omega) FU 0 [] (by omega) (by have := FU_gt (n := r.length) (by omega); omega) (by simp)
    have s2 := impl_racy (r := r) (by omega) FU 0 [] (by omega) (by have := FU_gt (n := r.length) (by omega); omega) (by simp)
    rw [show ((0 : Nat) : Int) = 0 from rfl] at s1 s2
    simp only [PS, e1, e2, s1, s2, List.drop_zero, List.nil_append, puts_set]
    refine ⟨_, rfl, rfl, ?_⟩
    have := setL_len (cells r)
    show (setL (cells r)).length ≤ 1048576
    have h3 : (cells r).length = r.length := by simp [cells]
    omega
end Go.Proofs.Ytihgcgccajikpaa
