/- Plain facts for FnExactFastRace; no condition. -/

import Derived.Test.YthhcnmideecfpaaL2
set_option linter.unusedVariables false
namespace Go.Proofs.Ythhcnmideecfpaa
open Go Go.T

/-- the event at a place -/
def evAt (p : List GEvent) (i : Nat) : GEvent := p[i]?.getD ⟨0, 0, 0, 0, 0⟩
theorem evAt_rd {p : List GEvent} {i : Nat} (h : i < p.length) : rd p (i : Int) = some (evAt p i) := by rw [rd_at h]; simp [evAt, h]
theorem evAt_good {p : List GEvent} {i : Nat} (hg : p.all goodE = true) (h : i < p.length) : goodE (evAt p i) = true := by
  have : evAt p i = p[i] := by simp [evAt, h]
  rw [this]
  exact List.all_eq_true.1 hg _ (List.getElem_mem h)
theorem thr {p : List GEvent} {k : Nat} (hg : p.all goodE = true) (h : k < p.length) : ∃ t : Nat, t < 5 ∧ (evAt p k).Thread = (t : Int) := by
  have h1 := evAt_good hg h
  unfold goodE at h1
  simp only [Bool.and_eq_true, inr, decide_eq_true_eq] at h1
  exact ⟨(evAt p k).Thread.toNat, by omega, by omega⟩
def givesB (e : GEvent) : Int := if e.Kind = 5 then e.Obj else if e.Kind = 8 then e.Lock else -2
def takesB (e : GEvent) : Int := if e.Kind = 4 then e.Obj else if e.Kind = 9 then e.Lock else -3
end Go.Proofs.Ythhcnmideecfpaa
