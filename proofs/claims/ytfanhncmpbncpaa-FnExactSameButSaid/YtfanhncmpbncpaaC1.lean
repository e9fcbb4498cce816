/- Plain facts for FnExactSameBut; no condition. -/

import Derived.Test.YtfanhncmpbncpaaE0
set_option linter.unusedVariables false
namespace Go.Proofs.Ytfanhncmpbncpaa
open Go Go.T

def condB (e : GEvent) : Bool := e.Kind == 8 || e.Kind == 9 || e.Kind == 10
def lockB (e : GEvent) : Int := if e.Kind = 4 ∨ e.Kind = 5 then e.Obj else if e.Kind = 8 ∨ e.Kind = 9 then e.Lock else -1
def oneB (a b : GEvent) : Bool :=
  if a.Kind = 3 then (b.Kind == 2 || b.Kind == 3) && a.Obj == b.Obj
  else if a.Kind = 6 then b.Kind == 6 || b.Thread == a.Obj
  else if a.Kind = 7 then b.Kind == 11 && b.Thread == a.Obj
  else if a.Kind = 10 then (condB b && a.Obj == b.Obj) || b.Thread == a.Lock
  else if a.Kind = 8 then condB b && a.Obj == b.Obj
  else a.Kind == 12
def hangB (a b : GEvent) : Bool := a.Thread == b.Thread || oneB a b || oneB b a || (decide (0 ≤ lockB a) && lockB a == lockB b)
theorem spec_cond (e : GEvent) : spec_l9Cond e = some (condB e) := by
  unfold spec_l9Cond condB
  by_cases h1 : e.Kind = 8
  · simp [h1]
  · by_cases h2 : e.Kind = 9 <;> simp [h1, h2]
theorem impl_cond (e : GEvent) : impl_Event_isCond e = some (condB e) := by
  unfold impl_Event_isCond condB
  by_cases h1 : e.Kind = 8
  · simp [h1]
  · by_cases h2 : e.Kind = 9 <;> simp [h1, h2]
theorem spec_touch (e : GEvent) : spec_l7Touch e = some (e.Kind == 2 || e.Kind == 3) := by
  unfold spec_l7Touch; by_cases h1 : e.Kind = 2 <;> simp [h1]
theorem impl_touch (e : GEvent) : impl_Event_touches e = some (e.Kind == 2 || e.Kind == 3) := by
  unfold impl_Event_touches; by_cases h1 : e.Kind = 2 <;> simp [h1]
theorem spec_one (a b : GEvent) : spec_l9One a b = some (oneB a b) := by
  unfold spec_l9One oneB
  rw [spec_touch, spec_cond]
  simp only [Option.bind_some]
  generalize condB b = c
  by_cases h3 : a.Kind = 3
  · simp only [h3]; cases (b.Kind == 2 || b.Kind == 3) <;> simp
  · by_cases h6 : a.Kind = 6
    · simp only [h6]; cases b.Kind == 6 <;> simp
    · by_cases h7 : a.Kind = 7
      · simp only [h7]; cases b.Kind == 11 <;> simp
      · by_cases h10 : a.Kind = 10
        · simp only [h10]; cases c <;> cases a.Obj == b.Obj <;> simp
        · by_cases h8 : a.Kind = 8
          · simp only [h8]; cases c <;> simp
          · simp [h3, h6, h7, h8, h10]
theorem impl_one (a b : GEvent) : impl_binds a b = some (oneB a b) := by
  unfold impl_binds oneB
  rw [impl_touch, impl_cond]
  simp only [Option.bind_some]
  generalize condB b = c
  by_cases h3 : a.Kind = 3
  · simp only [h3]; cases (b.Kind == 2 || b.Kind == 3) <;> simp
  · by_cases h6 : a.Kind = 6
    · simp only [h6]; cases b.Kind == 6 <;> simp
    · by_cases h7 : a.Kind = 7
      · simp only [h7]; cases b.Kind == 11 <;> simp
      · by_cases h10 : a.Kind = 10
        · simp only [h10]; cases c <;> cases a.Obj == b.Obj <;> cases b.Thread == a.Lock <;> simp
        · by_cases h8 : a.Kind = 8
          · simp only [h8]; cases c <;> simp
          · by_cases h12 : a.Kind = 12 <;> simp [h3, h6, h7, h8, h10, h12]
theorem good_lock {e : GEvent} (h : goodE e = true) : (e.Kind = 4 ∨ e.Kind = 5 → 0 ≤ e.Obj) ∧ (e.Kind = 8 ∨ e.Kind = 9 → 0 ≤ e.Lock) := by
  unfold goodE at h
  simp only [Bool.and_eq_true, Bool.or_eq_true, Bool.not_eq_true', bne_iff_ne, decide_eq_true_eq, inr, Bool.and_eq_false_iff, decide_eq_false_iff_not] at h
  omega
theorem spec_lock (e : GEvent) : spec_l9Lock e = some (if e.Kind = 4 ∨ e.Kind = 5 then e.Obj else if e.Kind = 8 ∨ e.Kind = 9 then e.Lock else -2) := by
  unfold spec_l9Lock spec_l9Lock_j0 spec_l9Lock_j1
  by_cases h4 : e.Kind = 4
  · simp [h4]
  · by_cases h5 : e.Kind = 5
    · simp [h5]
    · by_cases h8 : e.Kind = 8
      · simp [h8]
      · by_cases h9 : e.Kind = 9 <;> simp [h4, h5, h8, h9]
theorem impl_lock {e : GEvent} (h : goodE e = true) : impl_Event_lockOf e = some (lockB e) := by
  have := good_lock h
  unfold impl_Event_lockOf impl_Event_gives impl_Event_takes lockB imax
  by_cases h4 : e.Kind = 4
  · have : 0 ≤ e.Obj := this.1 (.inl h4)
    simp [h4]; omega
  · by_cases h5 : e.Kind = 5
    · have : 0 ≤ e.Obj := this.1 (.inr h5)
      simp [h5]; omega
    · by_cases h8 : e.Kind = 8
      · have : 0 ≤ e.Lock := this.2 (.inl h8)
        simp [h8]; omega
      · by_cases h9 : e.Kind = 9
        · have : 0 ≤ e.Lock := this.2 (.inr h9)
          simp [h9]; omega
        · simp [h4, h5, h8, h9]
theorem impl_hang_eq {a b : GEvent} (ha : goodE a = true) (hb : goodE b = true) : impl_hang a b = some (hangB a b) := by
  unfold impl_hang hangB
  rw [impl_one, impl_one, impl_lock ha, impl_lock hb]
  simp only [Option.bind_some]
  by_cases h1 : a.Thread = b.Thread
  · simp [h1]
  · have h1' : (a.Thread == b.Thread) = false := by simp [h1]
    rw [h1']
    cases oneB a b <;> cases oneB b a <;> simp
    by_cases h : 0 ≤ lockB a <;> simp [h]
theorem spec_hang_eq {a b : GEvent} (ha : goodE a = true) (hb : goodE b = true) : spec_l9Hang a b = some (hangB a b) := by
  have g1 := good_lock ha
  have g2 := good_lock hb
  unfold spec_l9Hang spec_l9Hang_j0 hangB
  rw [spec_one, spec_one, spec_lock, spec_lock]
  simp only [Option.bind_some]
  by_cases h1 : a.Thread = b.Thread
  · simp [h1]
  · have h1' : (a.Thread == b.Thread) = false := by simp [h1]
    have key : (((if a.Kind = 4 ∨ a.Kind = 5 then a.Obj else if a.Kind = 8 ∨ a.Kind = 9 then a.Lock else (-2)) == (if b.Kind = 4 ∨ b.Kind = 5 then b.Obj else if b.Kind = 8 ∨ b.Kind = 9 then b.Lock else (-2))) && (if a.Kind = 4 ∨ a.Kind = 5 then a.Obj else if a.Kind = 8 ∨ a.Kind = 9 then a.Lock else (-2)) != (-2)) = (decide (0 ≤ lockB a) && lockB a == lockB b) := by
      unfold lockB
      by_cases c1 : a.Kind = 4 ∨ a.Kind = 5
      · have := g1.1 c1
        simp only [c1, if_true]
        by_cases c2 : b.Kind = 4 ∨ b.Kind = 5
        · simp only [c2, if_true, this, decide_true, Bool.true_and]
          by_cases e : a.Obj = b.Obj
          · simp [e]; omega
          · simp [e]
        · by_cases c3 : b.Kind = 8 ∨ b.Kind = 9
          · simp only [c2, c3, if_true, if_false, this, decide_true, Bool.true_and]
            by_cases e : a.Obj = b.Lock
            · simp [e]; omega
            · simp [e]
          · simp only [c2, c3, if_false, this, decide_true, Bool.true_and]
            have e : (a.Obj == -2) = false := by simp; omega
            have e' : (a.Obj == -1) = false := by simp; omega
            rw [e, e']; rfl
      · by_cases c0 : a.Kind = 8 ∨ a.Kind = 9
        · have := g1.2 c0
          simp only [c1, c0, if_true, if_false]
          by_cases c2 : b.Kind = 4 ∨ b.Kind = 5
          · simp only [c2, if_true, this, decide_true, Bool.true_and]
            by_cases e : a.Lock = b.Obj
            · simp [e]; omega
            · simp [e]
          · by_cases c3 : b.Kind = 8 ∨ b.Kind = 9
            · simp only [c2, c3, if_true, if_false, this, decide_true, Bool.true_and]
              by_cases e : a.Lock = b.Lock
              · simp [e]; omega
              · simp [e]
            · simp only [c2, c3, if_false, this, decide_true, Bool.true_and]
              have e : (a.Lock == -2) = false := by simp; omega
              have e' : (a.Lock == -1) = false := by simp; omega
              rw [e, e']; rfl
        · simp only [c1, c0, if_false]; simp
    rw [h1', ← key]
    generalize (if a.Kind = 4 ∨ a.Kind = 5 then a.Obj else if a.Kind = 8 ∨ a.Kind = 9 then a.Lock else (-2)) = x
    generalize (if b.Kind = 4 ∨ b.Kind = 5 then b.Obj else if b.Kind = 8 ∨ b.Kind = 9 then b.Lock else (-2)) = y
    cases oneB a b <;> cases oneB b a <;> cases x == y <;> cases x != (-2) <;> rfl
end Go.Proofs.Ytfanhncmpbncpaa
