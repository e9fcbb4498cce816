/- Plain facts for FnExactIsRun; no condition. -/

import Derived.Test.YtemmdkcpcjidmaaGreatST5
set_option linter.unusedVariables false
set_option linter.unusedSimpArgs false
namespace Go.Proofs.YtemmdkcpcjidmaaGreat
open Go Go.T
def Xd9 : Qcg := ⟨0, [], [], ⟨[], [], [], 0⟩⟩
def Qcc (ps : List Int) (e : List Int) (i : Nat) : Int := if h : i < ps.length then Int.tmod ps[i] (e.length : Int) else 0
theorem Xlc {ps e : List Int} {i : Nat} (hp : ∀ x ∈ ps, 0 ≤ x) (he : e.length ≠ 0) : ∃ (j : Nat) (hj : j < e.length), Qcc ps e i = (j : Int) := by
 unfold Qcc
 split
 ·rename_i h
  have h0 := hp _ (List.getElem_mem h)
  have h1 : 0 ≤ Int.tmod ps[i] (e.length : Int) := Int.tmod_nonneg _ h0
  have h2 : Int.tmod ps[i] (e.length : Int) < (e.length : Int) := Int.tmod_lt_of_pos _ (by omega)
  exact ⟨(Int.tmod ps[i] (e.length : Int)).toNat, by omega, by omega⟩
 ·exact ⟨0, by omega, rfl⟩
theorem Xbl {s : Qa1} {e : List Int} {i n : Int} (h : Qo5 s e i n = 0) : e.length ≠ 0 ∧ i ≠ n := by
 unfold Qo5 at h
 split at h
 ·omega
 split at h
 ·split at h <;> omega
 split at h
 ·omega
 ·exact ⟨by assumption, by assumption⟩
theorem Xdp (s : Qa1) (e : List Int) (i n : Int) : 0 ≤ Qo5 s e i n := by
 unfold Qo5
 split
 ·omega
 split
 ·split <;> omega
 split <;> omega
theorem Xh5 {ps : List Int} (h : ps.length ≤ 1048576) : Qhf ps 200 = some (decide (ps.length ≤ 200) && ps.all (fun x => inr x 0 999)) := by
 obtain ⟨r, e1, e2⟩ := Xku (p := ps) (t := fun x => Qg4 x) (q := fun x => !inr x 0 999) (F := Qam ps) (by intros; rw [Qam]) (by omega) (fun x _ => by rw [Qg4, Ql7]; rfl)
 have e3 : Qay ps = some (!ps.all (fun x => inr x 0 999)) := by
  rw [Qay, Qbf, e1]
  simp only [PS, e2]
  rw [List.not_all_eq_any_not]
 rw [Qhf, e3]
 by_cases h2 : ps.length ≤ 200
 ·have : decide ((ps.length : Int) ≤ 200) = true := by simp; omega
  simp [this, h2]
 ·have : decide ((ps.length : Int) ≤ 200) = false := by simp; omega
  simp [this, h2]
theorem Xfi {ps : List Int} (h : ps.length ≤ 1048576) : Qhd ps = some (decide (ps.length ≤ 200) && ps.all (fun x => inr x 0 999)) := by
 rw [Qhd, Xhc h]
 by_cases h2 : ps.length ≤ 200
 ·have : decide ((ps.length : Int) ≤ 200) = true := by simp; omega
  simp [this, h2]
 ·have : decide ((ps.length : Int) ≤ 200) = false := by simp; omega
  simp [this, h2]
end Go.Proofs.YtemmdkcpcjidmaaGreat
