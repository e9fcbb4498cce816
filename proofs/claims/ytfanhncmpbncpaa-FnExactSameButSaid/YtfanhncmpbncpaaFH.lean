/- Plain facts for FnExactSameBut; no condition. -/

import Derived.Test.YtfanhncmpbncpaaFF
set_option linter.unusedVariables false
namespace Go.Proofs.Ytfanhncmpbncpaa
open Go Go.T

theorem sameAll {p q : List GEvent} {F : Nat → Int → Option Bool} (hp : p.length < 1099511627776) (hq : p.length = q.length)
    (hF : ∀ n v, F (n + 1) v = if (decide (v < (p.length : Int))) = true then Option.bind (rd p v) fun x7 => Option.bind (rd q v) fun x8 => if (!(decide (x7 = x8))) = true then some false else F n (w64 (v + 1)) else some true) : F FU 0 = some (decide (p = q)) := by
  have key : ∀ (n k : Nat), k ≤ p.length → p.length < n + k → F n k = some (decide (p.drop k = q.drop k)) := by
    intro n
    induction n with
    | zero => intro k h1 h2; omega
    | succ n ih =>
      intro k h1 h2
      rw [hF]
      by_cases hk : k < p.length
      · have hk2 : k < q.length := by omega
        have e : (p.drop k = q.drop k) ↔ (p[k] = q[k] ∧ p.drop (k + 1) = q.drop (k + 1)) := by
          conv => lhs; rw [List.drop_eq_getElem_cons hk, List.drop_eq_getElem_cons hk2]
          exact List.cons_eq_cons
        rw [show decide (p.drop k = q.drop k) = decide (p[k] = q[k] ∧ p.drop (k + 1) = q.drop (k + 1)) from decide_eq_decide.2 e]
        simp only [PS, hk, rd_at hk, rd_at hk2, w64_s (show k < 4611686018427387904 by omega), ih (k + 1) hk (by omega)]
        by_cases h : p[k] = q[k] <;> simp [h]
      · have : k = p.length := by omega
        rw [List.drop_of_length_le (by omega), List.drop_of_length_le (by omega), this]
        simp only [PS, Nat.lt_irrefl]
  simpa using key FU 0 (by omega) (by have := FU_gt hp; omega)
theorem spec_same {p q : List GEvent} (hp : p.length < 1099511627776) : spec_l4SameEvents p q = some (decide (p = q)) := by
  rw [spec_l4SameEvents]
  by_cases h : p.length = q.length
  · have : (((p.length : Int)) != (q.length : Int)) = false := by simp [h]
    rw [this]
    exact sameAll hp h (fun n v => by rw [spec_l4SameEvents_l0])
  · have h2 : ((p.length : Int) != (q.length : Int)) = true := by simp; omega
    have h3 : ¬ p = q := fun e => h (by rw [e])
    simp [h2, h3]
theorem impl_same {p q : List GEvent} (hp : p.length < 1099511627776) : slices_Equal_Event_Event p q = some (decide (p = q)) := by
  rw [slices_Equal_Event_Event]
  by_cases h : p.length = q.length
  · have : (((p.length : Int)) != (q.length : Int)) = false := by simp [h]
    rw [this]
    exact sameAll hp h (fun n v => by rw [slices_Equal_Event_Event_l0])
  · have h2 : ((p.length : Int) != (q.length : Int)) = true := by simp; omega
    have h3 : ¬ p = q := fun e => h (by rw [e])
    simp [h2, h3]
theorem goodT_iff {p : List GEvent} (hg : goodT p = true) : p.all goodE = true ∧ p.length ≤ 200 := by simpa [goodT] using hg
theorem form_small {p : List GEvent} (h : p.length ≤ 200) : (formE p.length p []).length < 1099511627776 := by
  rw [formE_len _ _ _ rfl]; simp; omega
end Go.Proofs.Ytfanhncmpbncpaa
