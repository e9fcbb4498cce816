/- Lemmas for FnExactAddPairs; no condition. -/

import Derived.Below
import Derived.Deep.Draws
set_option linter.unusedVariables false
namespace Go.T
open Go
/-- draws are only ever made, never taken back -/
theorem ask_drawn {α : Type} : ∀ (x : Ask α) (w : World), w.drawn ≤ (w.ask x).2.drawn
  | .done a, w => by simp [World.ask]
  | .ask what range k, w => by
    simp only [World.ask]
    split
    · exact ask_drawn _ w
    · exact Nat.le_trans (Nat.le_succ _) (ask_drawn _ { w with drawn := w.drawn + 1 })
theorem sys_drawn (w : World) (c : Sys) : w.drawn ≤ (w.sys c).2.drawn := by
  have := ask_drawn (Kernel.perform c w.os) w
  unfold World.sys
  split
  · exact Nat.le_refl _
  · rename_i r os w' _ h
    rw [h] at this
    exact this
theorem viewStore_drawn {p : Program} {w : World} {at_ : Addr} {u : TypeId} {k : Addr} {v : Value} {b : Bool} {r : World × List Addr} (h : w.viewStore p at_ u k v b = .ok r) : r.1.drawn = w.drawn := by
  unfold World.viewStore at h
  simp only [bind, Except.bind, pure, Except.pure] at h
  repeat' (split at h)
  all_goals first | (cases h; done) | (cases h; rfl)
theorem farStore_drawn {p : Program} {w : World} {a : Addr} {v : Value} {b : Bool} {r : World × List Addr} (h : w.farStore p a v b = .ok r) : r.1.drawn = w.drawn := by
  unfold World.farStore at h
  split at h
  · split at h
    · cases h; exact viewStore_drawn (by assumption)
    · cases h
  · cases h
theorem run_drawn {α : Type} {P : Program} : ∀ (s : Sem α) {w w' : World} {v : α}, s.run P w = .ok v w' → w.drawn ≤ w'.drawn
  | .pure a, w, w', v, h => by simp only [Sem.run] at h; cases h; exact Nat.le_refl _
  | .load m a k, w, w', v, h => by
    simp only [Sem.run] at h
    split at h
    · exact run_drawn _ h
    · split at h
      · exact run_drawn _ h
      · cases h
  | .store m a x k, w, w', v, h => by
    cases x
    all_goals
      simp only [Sem.run] at h
      first
      | (cases h; done)
      | (split at h
         · split at h
           · cases h
           · have := run_drawn k h
             refine Nat.le_trans (Nat.le_of_eq ?_) this
             unfold World.setCell; repeat' split
             all_goals rfl
         · split at h
           · rename_i hf
             have := run_drawn k h
             rw [← farStore_drawn hf]; exact this
           · cases h)
  | .new o k, w, w', v, h => by simp only [Sem.run] at h; have := run_drawn (k _) h; exact this
  | .shape r k, w, w', v, h => by simp only [Sem.run] at h; exact run_drawn _ h
  | .freeze a n k, w, w', v, h => by
    simp only [Sem.run] at h
    refine Nat.le_trans (Nat.le_of_eq ?_) (run_drawn k h)
    unfold World.freeze; repeat' split
    all_goals rfl
  | .frozen a k, w, w', v, h => by simp only [Sem.run] at h; exact run_drawn _ h
  | .getObj r k, w, w', v, h => by
    simp only [Sem.run] at h
    split at h
    · cases h
    · exact run_drawn _ h
    · cases h
  | .setObj r o k, w, w', v, h => by
    simp only [Sem.run] at h
    split at h
    · cases h
    · have := run_drawn k h
      exact this
    · cases h
  | .choose q k, w, w', v, h => by
    simp only [Sem.run] at h
    split at h
    · exact run_drawn _ h
    · exact Nat.le_trans (Nat.le_succ _) (run_drawn (k _) h)
  | .sys c k, w, w', v, h => by
    simp only [Sem.run] at h
    exact Nat.le_trans (sys_drawn w c) (run_drawn _ h)
  | .program k, w, w', v, h => by simp only [Sem.run] at h; exact run_drawn _ h
  | .mark m k, w, w', v, h => by simp only [Sem.run] at h; exact run_drawn k h
  | .halt x, w, w', v, h => by simp only [Sem.run] at h; cases h
end Go.T
