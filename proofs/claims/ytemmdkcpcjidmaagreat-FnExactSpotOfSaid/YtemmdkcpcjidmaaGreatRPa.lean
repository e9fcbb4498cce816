/- Plain facts for FnExactSpotOf; no condition. -/

import Derived.Test.YtemmdkcpcjidmaaGreatST5
set_option linter.unusedVariables false
set_option linter.unusedSimpArgs false
namespace Go.Proofs.YtemmdkcpcjidmaaGreat
open Go Go.T
def Xfg : Qbx := ⟨0, [], [], ⟨[], [], [], 0⟩⟩
def Qce (ps : List Int) (e : List Int) (i : Nat) : Int := if h : i < ps.length then Int.tmod ps[i] (e.length : Int) else 0
theorem Xk9 {ps e : List Int} {i : Nat} (hp : ∀ x ∈ ps, 0 ≤ x) (he : e.length ≠ 0) : ∃ (j : Nat) (hj : j < e.length), Qce ps e i = (j : Int) := by
 unfold Qce
 split
 ·rename_i h
  have h0 := hp _ (List.getElem_mem h)
  have h1 : 0 ≤ Int.tmod ps[i] (e.length : Int) := Int.tmod_nonneg _ h0
  have h2 : Int.tmod ps[i] (e.length : Int) < (e.length : Int) := Int.tmod_lt_of_pos _ (by omega)
  exact ⟨(Int.tmod ps[i] (e.length : Int)).toNat, by omega, by omega⟩
 ·exact ⟨0, by omega, rfl⟩
theorem Xc7 {s : Qa1} {e : List Int} {i n : Int} (h : Qod s e i n = 0) : e.length ≠ 0 ∧ i ≠ n := by
 unfold Qod at h
 split at h
 ·omega
 split at h
 ·split at h <;> omega
 split at h
 ·omega
 ·exact ⟨by assumption, by assumption⟩
theorem Xf5 (s : Qa1) (e : List Int) (i n : Int) : 0 ≤ Qod s e i n := by
 unfold Qod
 split
 ·omega
 split
 ·split <;> omega
 split <;> omega
theorem Xi6 {ps : List Int} (h : ps.length ≤ 1048576) : Qhq ps 200 = some (decide (ps.length ≤ 200) && ps.all (fun x => inr x 0 999)) := by
 obtain ⟨r, e1, e2⟩ := Xjc (p := ps) (t := fun x => Qg5 x) (q := fun x => !inr x 0 999) (F := Qam ps) (by intros; rw [Qam]) (by omega) (fun x _ => by rw [Qg5, Qjq]; rfl)
 have e3 : Qaz ps = some (!ps.all (fun x => inr x 0 999)) := by
  rw [Qaz, Qbf, e1]
  simp only [PS, e2]
  rw [List.not_all_eq_any_not]
 rw [Qhq, e3]
 by_cases h2 : ps.length ≤ 200
 ·have : decide ((ps.length : Int) ≤ 200) = true := by simp; omega
  simp [this, h2]
 ·have : decide ((ps.length : Int) ≤ 200) = false := by simp; omega
  simp [this, h2]
theorem Xk7 {ps : List Int} (h : ps.length ≤ 1048576) : Qit ps = some (decide (ps.length ≤ 200) && ps.all (fun x => inr x 0 999)) := by
 rw [Qit, Xgt h]
 by_cases h2 : ps.length ≤ 200
 ·have : decide ((ps.length : Int) ≤ 200) = true := by simp; omega
  simp [this, h2]
 ·have : decide ((ps.length : Int) ≤ 200) = false := by simp; omega
  simp [this, h2]
end Go.Proofs.YtemmdkcpcjidmaaGreat
