/- Plain facts for FnExactWarnsGuarded; no condition. -/

import Derived.Test.YtihgcgccajikpaaCM
set_option linter.unusedVariables false
namespace Go.Proofs.Ytihgcgccajikpaa
open Go Go.T

/- loops that test every place -/
theorem allL {F : Nat → Int → Option Bool} {L : Nat} {c : Nat → Bool} {fin : Bool} (hE : ∀ n, F (n + 1) (L : Int) = some fin) (hS : ∀ n k, k < L → F (n + 1) (k : Int) = if c k = true then F n (w64 ((k : Int) + 1)) else some false) (hL : L < 1099511627776) : F FU 0 = some ((List.range L).all c && fin) := by
  have key : ∀ (n m k : Nat), k + m = L → m < n → F n (k : Int) = some ((List.range' k m).all c && fin) := by
    intro n
    induction n with
    | zero => intro m k h1 h2; omega
    | succ n ih =>
      intro m k h1 h2
      cases m with
      | zero =>
        have : k = L := by omega
        subst this
        rw [hE]; rfl
      | succ m =>
        rw [hS n k (by omega), w64_s (k := k) (by omega), List.range'_succ, List.all_cons]
        cases hc : c k
        · simp
        · simp only [if_true, Bool.true_and]
          exact ih m (k + 1) (by omega) (by omega)
  have := key FU L 0 (by omega) (FU_gt hL)
  rw [← List.range_eq_range'] at this
  exact this
theorem firstL {F : Nat → Int → Option Int} {L : Nat} {c : Nat → Bool} (hE : ∀ n, F (n + 1) (L : Int) = some (-1)) (hS : ∀ n k, k < L → F (n + 1) (k : Int) = if c k = true then some (k : Int) else F n (w64 ((k : Int) + 1))) (hL : L < 1099511627776) : ∃ r, F FU 0 = some r ∧ decide (r ≥ 0) = (List.range L).any c := by
  have key : ∀ (n m k : Nat), k + m = L → m < n → ∃ r, F n (k : Int) = some r ∧ decide (r ≥ 0) = (List.range' k m).any c := by
    intro n
    induction n with
    | zero => intro m k h1 h2; omega
    | succ n ih =>
      intro m k h1 h2
      cases m with
      | zero =>
        have : k = L := by omega
        subst this
        exact ⟨-1, hE n, rfl⟩
      | succ m =>
        rw [hS n k (by omega), w64_s (k := k) (by omega), List.range'_succ, List.any_cons]
        cases hc : c k
        · obtain ⟨r, h3, h4⟩ := ih m (k + 1) (by omega) (by omega)
          exact ⟨r, by simpa using h3, by rw [h4]; rfl⟩
        · exact ⟨(k : Int), by simp, by simp⟩
  have := key FU L 0 (by omega) (FU_gt hL)
  rw [← List.range_eq_range'] at this
  exact this
theorem anyL {F : Nat → Int → Option Bool} {L : Nat} {c : Nat → Bool} (hE : ∀ n, F (n + 1) (L : Int) = some false) (hS : ∀ n k, k < L → F (n + 1) (k : Int) = if c k = true then some true else F n (w64 ((k : Int) + 1))) (hL : L < 1099511627776) : F FU 0 = some ((List.range L).any c) := by
  have key : ∀ (n m k : Nat), k + m = L → m < n → F n (k : Int) = some ((List.range' k m).any c) := by
    intro n
    induction n with
    | zero => intro m k h1 h2; omega
    | succ n ih =>
      intro m k h1 h2
      cases m with
      | zero =>
        have : k = L := by omega
        subst this
        rw [hE]; rfl
      | succ m =>
        rw [hS n k (by omega), w64_s (k := k) (by omega), List.range'_succ, List.any_cons]
        cases hc : c k
        · simp only [Bool.false_eq_true, if_false, Bool.false_or]
          exact ih m (k + 1) (by omega) (by omega)
        · simp
  have := key FU L 0 (by omega) (FU_gt hL)
  rw [← List.range_eq_range'] at this
  exact this
/-- by places, by elements -/
theorem all_at {α : Type} (l : List α) (d : α) (f : α → Bool) : (List.range l.length).all (fun k => f (l.getD k d)) = l.all f := by
  rw [Bool.eq_iff_iff, List.all_eq_true, List.all_eq_true]
  constructor
  · intro h x hx
    obtain ⟨k, hk, rfl⟩ := List.getElem_of_mem hx
    have := h k (List.mem_range.2 hk)
    rwa [List.getD_eq_getElem?_getD, List.getElem?_eq_getElem hk, Option.getD_some] at this
  · intro h k hk
    have hk := List.mem_range.1 hk
    rw [List.getD_eq_getElem?_getD, List.getElem?_eq_getElem hk, Option.getD_some]
    exact h _ (List.getElem_mem hk)
theorem any_at {α : Type} (l : List α) (d : α) (f : α → Bool) : (List.range l.length).any (fun k => f (l.getD k d)) = l.any f := by
  rw [Bool.eq_iff_iff, List.any_eq_true, List.any_eq_true]
  constructor
  · rintro ⟨k, hk, h⟩
    have hk := List.mem_range.1 hk
    rw [List.getD_eq_getElem?_getD, List.getElem?_eq_getElem hk, Option.getD_some] at h
    exact ⟨_, List.getElem_mem hk, h⟩
  · rintro ⟨x, hx, h⟩
    obtain ⟨k, hk, rfl⟩ := List.getElem_of_mem hx
    exact ⟨k, List.mem_range.2 hk, by rw [List.getD_eq_getElem?_getD, List.getElem?_eq_getElem hk, Option.getD_some]; exact h⟩
theorem getD_at {α : Type} {l : List α} {k : Nat} (d : α) (h : k < l.length) : l.getD k d = l[k] := by
  rw [List.getD_eq_getElem?_getD, List.getElem?_eq_getElem h, Option.getD_some]
end Go.Proofs.Ytihgcgccajikpaa
