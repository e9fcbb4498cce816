/- Plain facts for FnExactFastRace; no condition. -/

import Derived.Test.YthhcnmideecfpaaK1a
set_option linter.unusedVariables false
set_option linter.unusedSimpArgs false
namespace Go.Proofs.Ythhcnmideecfpaa
open Go Go.T

def smEventS (x : (List GEvent)) : Prop := x.length ≤ 1048576
theorem QszEventS (x : (List GEvent)) (g : x.length ≤ 9223372036854775807) (l : Int) (h0 : 0 ≤ l) (h1 : l ≤ 1048576) : ∃ r : Int, laws_szEventS x l = some r ∧ r ≤ l ∧ (0 ≤ r → smEventS x) := by
  rw [laws_szEventS, w64_id (by omega)]
  by_cases h : l - (x.length : Int) < 0
  · exact ⟨-1, by simp [h], by omega, fun h => by omega⟩
  · exact ⟨l - (x.length : Int), by simp [h], by omega, fun _ => by show x.length ≤ 1048576; omega⟩
theorem QtoEvent (x : GEvent) : laws_toEvent x = some x := rfl
theorem QtoEventS (x : (List GEvent)) (h : smEventS x) : laws_toEventS x = some x := by
  have hl : x.length < 1099511627776 := by have := (show x.length ≤ 1048576 from h); omega
  rw [laws_toEventS]
  exact toL (t := laws_toEvent) (by intros; rw [laws_toEventS_l0]) hl (fun y hy => QtoEvent y) _
theorem QeqEvent (x : GEvent) : laws_eqEvent x x = some true := by
  simp [laws_eqEvent]
theorem QeqEventS (x : (List GEvent)) (h : smEventS x) : laws_eqEventS x x = some true := by
  have hl : x.length < 1099511627776 := by have := (show x.length ≤ 1048576 from h); omega
  rw [laws_eqEventS]; simp only [PS, ]
  exact eqL (e := laws_eqEvent) (by intros; rw [laws_eqEventS_l0]) hl (fun y hy => QeqEvent y)
theorem law_FastRace_of (x0 : (List GEvent)) (g0 : x0.length ≤ 9223372036854775807) (core : ∀ (sm0 : smEventS x0), ∃ r : Int × Int × Bool, spec_FastRace x0 = some r ∧ impl_FastRace x0 = some r) : laws_FnExactFastRace x0 = some true := by
  rw [laws_FnExactFastRace]
  obtain ⟨s0, z0, za0, zb0⟩ := QszEventS x0 g0 1048576 (by omega) (by omega)
  simp only [PS, z0]
  by_cases hs0 : s0 < 0
  · simp [hs0]
  have hd0 : decide (s0 < 0) = false := by simp [hs0]
  simp only [PS, hd0]
  have sm0 := zb0 (by omega)
  obtain ⟨r, e1, e2⟩ := core sm0
  simp only [PS, e1, e2, QtoEventS x0 sm0, QeqEventS x0 sm0, laws_FnExactFastRace_j0]
end Go.Proofs.Ythhcnmideecfpaa
