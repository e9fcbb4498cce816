/- Plain facts for FnExactWarnsGuarded; no condition. -/

import Derived.Test.YtihgcgccajikpaaE0
set_option linter.unusedVariables false
namespace Go.Proofs.Ytihgcgccajikpaa
open Go Go.T

/-- a number is put where it belongs -/
def put (r : Int) : List Int → List Int
  | [] => [r]
  | x :: l => if x < r then x :: put r l else if x = r then x :: l else r :: x :: l
theorem put_len (r : Int) : ∀ l : List Int, (put r l).length ≤ l.length + 1
  | [] => by simp [put]
  | x :: l => by
    unfold put
    have := put_len r l
    split
    · simp; omega
    · split <;> simp
theorem put_j2 {p : List Int} {r : Int} {k : Nat} (hp : p.length < 1000000) (hk : k ≤ p.length) : spec_l1Put_j2 p r k = some (p.take k ++ r :: p.drop k) := by
  rw [spec_l1Put_j2, slc_take hk, slc_drop hk]
  simp only [PS, app_ok (a := []) (b := p.take k) (by simp; omega), List.nil_append, app_ok (a := p.take k) (b := [r]) (by simp; omega), app_ok (a := p.take k ++ [r]) (b := p.drop k) (by simp; omega)]
  simp
theorem put_l0 {p : List Int} {r : Int} (hp : p.length < 1000000) : ∀ (n k : Nat), k ≤ p.length → p.length < n + k → spec_l1Put_l0 p r n k = some (p.take k ++ put r (p.drop k))
  | 0, k, h1, h2 => by omega
  | n + 1, k, h1, h2 => by
    rw [spec_l1Put_l0]
    by_cases hk : k < p.length
    · rw [List.drop_eq_getElem_cons hk, put]
      simp only [PS, hk, rd_at hk, w64_s (k := k) (by omega), put_l0 hp n (k + 1) hk (by omega), spec_l1Put_j1, put_j2 hp h1]
      by_cases h3 : p[k] < r
      · simp only [h3, decide_true, if_true]
        rw [List.take_add_one, List.getElem?_eq_getElem hk]; simp only [Option.toList_some, List.append_assoc, List.singleton_append]
      · by_cases h4 : p[k] = r
        · subst h4
          simp only [Int.lt_irrefl, decide_false, Bool.false_eq_true, if_false, beq_self_eq_true, if_true]
          rw [← List.drop_eq_getElem_cons hk, List.take_append_drop]
        · simp [h3, h4]
    · have : k = p.length := by omega
      subst this
      simp only [PS, spec_l1Put_j1, Nat.lt_irrefl, put_j2 hp h1]
      simp [put]
theorem put_eq {p : List Int} {r : Int} (hp : p.length < 1000000) : spec_l1Put p r = some (put r p) := by
  rw [spec_l1Put]
  have := put_l0 (r := r) hp FU 0 (by omega) (by have := FU_gt (n := p.length) (by omega); omega)
  simpa using this
end Go.Proofs.Ytihgcgccajikpaa
