/- Plain facts for FnExactStepState; no condition. -/

import Derived.Test.YtjcaompblpglcaaGreatO2
set_option linter.unusedVariables false
namespace Go.Proofs.YtjcaompblpglcaaGreat
open Go Go.T
def goodTh (p : GProg) (t : GThread) : Bool :=
 inr t.Routine 0 ((p.Routines.length : Int) - 1) && inr t.State 1 4 && decide (t.Stack.length ≤ 8) && inr t.Pc 0 (((p.Routines[t.Routine.toNat]?).getD []).length : Int) &&
 (if t.State = 3 ∨ t.State = 4 then inr t.Cond 0 (p.Conds - 1) && inr t.Lock 0 (p.Locks - 1) else decide (t.Cond = -1) && decide (t.Lock = -1))
theorem spec_thread {p : GProg} {t : GThread} (hp : PB4 p) : spec_l3Thread p t = some (goodTh p t) := by
  obtain ⟨⟨c1, c2⟩, ⟨c3, c4⟩, ⟨c5, c6⟩, c7, c8⟩ := hp
  have w1 : w64 (p.Conds - 1) = p.Conds - 1 := w64_id (by omega)
  have w2 : w64 (p.Locks - 1) = p.Locks - 1 := w64_id (by omega)
  have w3 : w64 ((p.Routines.length : Int) - 1) = (p.Routines.length : Int) - 1 := w64_id (by omega)
  unfold spec_l3Thread spec_l3Thread_j0 spec_l3Thread_j1 goodTh
  simp only [spec_in_eq, Option.bind_some, w1, w2, w3]
  cases h1 : inr t.Routine 0 ((p.Routines.length : Int) - 1)
  · simp
  have hr := inr_true.1 h1
  have hx : rd p.Routines t.Routine = some ((p.Routines[t.Routine.toNat]?).getD []) := rd_eq hr.1 (by
    rw [List.getElem?_eq_getElem (by omega)]; simp)
  simp only [PS, hx]
  cases inr t.State 1 4
  · simp
  by_cases h8 : t.Stack.length ≤ 8
  · have h8' : decide ((t.Stack.length : Int) > 8) = false := by simp; omega
    simp only [PS, h8']
    cases inr t.Pc 0 (((p.Routines[t.Routine.toNat]?).getD []).length : Int)
    · simp
    by_cases h3 : t.State = 3
    · cases inr t.Cond 0 (p.Conds - 1) <;> simp [h3, h8]
    · by_cases h4 : t.State = 4
      · cases inr t.Cond 0 (p.Conds - 1) <;> simp [h4, h8]
      · by_cases h5 : t.Cond = -1 <;> by_cases h6 : t.Lock = -1 <;> simp [h3, h4, h5, h6, h8]
  · have h8' : decide ((t.Stack.length : Int) > 8) = true := by simp; omega
    simp only [PS, h8']
    simp [h8]
theorem impl_thread {p : GProg} {t : GThread} (hp : PB4 p) : impl_Thread_isGood t p = some (goodTh p t) := by
  obtain ⟨⟨c1, c2⟩, ⟨c3, c4⟩, ⟨c5, c6⟩, c7, c8⟩ := hp
  have w1 : w64 (p.Conds - 1) = p.Conds - 1 := w64_id (by omega)
  have w2 : w64 (p.Locks - 1) = p.Locks - 1 := w64_id (by omega)
  have w3 : w64 ((p.Routines.length : Int) - 1) = (p.Routines.length : Int) - 1 := w64_id (by omega)
  unfold impl_Thread_isGood impl_Thread_isGood_j0 impl_Thread_isGood_j1 goodTh
  simp only [impl_in_eq, Option.bind_some, w1, w2, w3]
  cases h1 : inr t.Routine 0 ((p.Routines.length : Int) - 1)
  · simp
  have hr := inr_true.1 h1
  have hx : rd p.Routines t.Routine = some ((p.Routines[t.Routine.toNat]?).getD []) := rd_eq hr.1 (by
    rw [List.getElem?_eq_getElem (by omega)]; simp)
  simp only [PS, hx]
  cases inr t.Pc 0 (((p.Routines[t.Routine.toNat]?).getD []).length : Int)
  · simp
  cases inr t.State 1 4
  · simp
  by_cases h8 : t.Stack.length ≤ 8
  · have h8' : decide ((t.Stack.length : Int) > 8) = false := by simp; omega
    simp only [PS, h8']
    by_cases h3 : t.State = 3
    · cases inr t.Cond 0 (p.Conds - 1) <;> simp [h3, h8]
    · by_cases h4 : t.State = 4
      · cases inr t.Cond 0 (p.Conds - 1) <;> simp [h4, h8]
      · by_cases h5 : t.Cond = -1 <;> by_cases h6 : t.Lock = -1 <;> simp [h3, h4, h5, h6, h8]
  · have h8' : decide ((t.Stack.length : Int) > 8) = true := by simp; omega
    simp only [PS, h8']
    simp [h8]
def goodS (p : GProg) (s : GState) : Bool :=
 inr (s.Threads.length : Int) 1 5 && decide ((s.Cells.length : Int) = p.Cells) && decide ((s.Owner.length : Int) = p.Locks) && inr s.Fault 0 4 && s.Threads.all (goodTh p) && s.Owner.all (fun x => inr x (-1) ((s.Threads.length : Int) - 1))
def SS (s : GState) : Prop := s.Threads.length ≤ 1048576 ∧ s.Owner.length ≤ 1048576
theorem all_l0 {c : List Int} {a b : Int} (hc : c.length ≤ 1048576) : ∀ (n k : Nat), k ≤ c.length → c.length < n + k → spec_l1All_l0 c a b n k = some ((c.drop k).all (fun x => inr x a b))
 | 0, k, h1, h2 => by omega
 | n + 1, k, h1, h2 => by
  rw [spec_l1All_l0]
  by_cases hk : k < c.length
  ·rw [List.drop_eq_getElem_cons hk, List.all_cons]
   simp only [PS, hk, rd_at hk, spec_in_eq, w64_s (k := k) (by omega), all_l0 hc n (k + 1) hk (by omega)]
   cases inr c[k] a b <;> simp
  ·have : k = c.length := by omega
   subst this
   simp
theorem spec_all {c : List Int} {a b : Int} (hc : c.length ≤ 1048576) : spec_l1All c a b = some (c.all (fun x => inr x a b)) := by
 rw [spec_l1All]
 have := all_l0 (a := a) (b := b) hc FU 0 (by omega) (by have := FU_gt (n := c.length) (by omega); omega)
 simpa using this
theorem spec_state_l0 {p : GProg} {s : GState} (hp : PB4 p) (hs : SS s) : ∀ (n k : Nat), k ≤ s.Threads.length → s.Threads.length < n + k →
  spec_l3Good_l0 s n p s k = some ((s.Threads.drop k).all (goodTh p) && s.Owner.all (fun x => inr x (-1) ((s.Threads.length : Int) - 1)))
 | 0, k, h1, h2 => by omega
 | n + 1, k, h1, h2 => by
  rw [spec_l3Good_l0]
  have hs1 := hs.1
  by_cases hk : k < s.Threads.length
  ·rw [List.drop_eq_getElem_cons hk, List.all_cons]
   simp only [PS, hk, rd_at hk, spec_thread hp, w64_s (k := k) (by omega), spec_state_l0 hp hs n (k + 1) hk (by omega)]
   cases goodTh p s.Threads[k] <;> simp
  ·have : k = s.Threads.length := by omega
   subst this
   have w3 : w64 ((s.Threads.length : Int) - 1) = (s.Threads.length : Int) - 1 := w64_id (by omega)
   simp only [PS, Nat.lt_irrefl, w3, spec_all hs.2]
   simp
theorem spec_good {p : GProg} {s : GState} (hp : PB4 p) (hs : SS s) : spec_l3Good p s = some (goodS p s) := by
 rw [spec_l3Good]
 unfold goodS
 simp only [spec_in_eq, Option.bind_some]
 cases inr (s.Threads.length : Int) 1 5
 ·simp
 by_cases h2 : (s.Cells.length : Int) = p.Cells
 ·by_cases h3 : (s.Owner.length : Int) = p.Locks
  ·cases inr s.Fault 0 4
   ·simp [h2, h3]
   ·have hs1 := hs.1
    have := spec_state_l0 hp hs FU 0 (by omega) (by have := FU_gt (n := s.Threads.length) (by omega); omega)
    rw [List.drop_zero] at this
    rw [show ((0 : Nat) : Int) = 0 from rfl] at this
    simp [h2, h3, this]
  ·have h3' : ((s.Owner.length : Int) != p.Locks) = true := by simp [h3]
   simp [h2, h3, h3']
 ·have h2' : ((s.Cells.length : Int) != p.Cells) = true := by simp [h2]
  simp [h2, h2']
theorem impl_good {p : GProg} {s : GState} (hp : PB4 p) (hs : SS s) : impl_GoodState_j0 p s = some (s.Threads.all (goodTh p) && s.Owner.all (fun x => inr x (-1) ((s.Threads.length : Int) - 1))) := by
 have hs1 := hs.1
 have hs2 := hs.2
 have w3 : w64 ((s.Threads.length : Int) - 1) = (s.Threads.length : Int) - 1 := w64_id (by omega)
 obtain ⟨r, e1, e2⟩ := findL (p := s.Threads) (t := fun t => impl_GoodState_1 t p) (q := fun t => !goodTh p t) (F := slices_IndexFunc_Thread_Thread__impl_GoodState_1_l0 s.Threads p) (by intros; rw [slices_IndexFunc_Thread_Thread__impl_GoodState_1_l0]) (by omega) (fun t _ => by rw [impl_GoodState_1, impl_thread hp]; rfl)
 obtain ⟨r', f1, f2⟩ := findL (p := s.Owner) (t := fun x => impl_GoodState_2 x s) (q := fun x => !inr x (-1) ((s.Threads.length : Int) - 1)) (F := slices_IndexFunc_int_int__impl_GoodState_2_l0 s.Owner s) (by intros; rw [slices_IndexFunc_int_int__impl_GoodState_2_l0]) (by omega) (fun x _ => by rw [impl_GoodState_2, w3, impl_in_eq]; rfl)
 have e3 : slices_ContainsFunc_Thread_Thread__impl_GoodState_1 s.Threads p = some (!s.Threads.all (goodTh p)) := by
  rw [slices_ContainsFunc_Thread_Thread__impl_GoodState_1, slices_IndexFunc_Thread_Thread__impl_GoodState_1, e1]
  simp only [PS, e2]
  rw [List.not_all_eq_any_not]
 have f3 : slices_ContainsFunc_int_int__impl_GoodState_2 s.Owner s = some (!s.Owner.all (fun x => inr x (-1) ((s.Threads.length : Int) - 1))) := by
  rw [slices_ContainsFunc_int_int__impl_GoodState_2, slices_IndexFunc_int_int__impl_GoodState_2, f1]
  simp only [PS, f2]
  rw [List.not_all_eq_any_not]
 rw [impl_GoodState_j0]
 simp only [PS, e3, f3]
 cases s.Threads.all (goodTh p) <;> cases s.Owner.all (fun x => inr x (-1) ((s.Threads.length : Int) - 1)) <;> simp
theorem goodP_PB4 {p : GProg} (h : goodP p = true) : PB4 p := by
 unfold goodP at h
 simp only [Bool.and_eq_true] at h
 obtain ⟨⟨⟨⟨h1, h2⟩, h3⟩, h4⟩, _⟩ := h
 exact ⟨inr_true.1 h1, inr_true.1 h2, inr_true.1 h3, by have := inr_true.1 h4; omega⟩
theorem spec_goodState {p : GProg} {s : GState} (sm : SP p) (g : wfGProg p) (hs : SS s) : spec_GoodState p s = some (goodP p && goodS p s) := by
 rw [spec_GoodState, spec_goodProg sm g]
 simp only [PS, ]
 cases hp : goodP p
 ·simp
 ·simp [spec_good (goodP_PB4 hp) hs]
theorem impl_goodState {p : GProg} {s : GState} (sm : SP p) (hs : SS s) : impl_GoodState p s = some (goodP p && goodS p s) := by
 rw [impl_GoodState, impl_goodProg sm]
 simp only [PS, ]
 cases hp : goodP p
 ·simp
 ·have h4 := goodP_PB4 hp
  unfold goodS
  simp only [impl_in_eq, Option.bind_some]
  cases inr (s.Threads.length : Int) 1 5
  ·simp
  by_cases h2 : (s.Cells.length : Int) = p.Cells
  ·by_cases h3 : (s.Owner.length : Int) = p.Locks
   ·cases inr s.Fault 0 4
    ·simp [h2, h3]
    ·simp [h2, h3, impl_good h4 hs]
   ·have h3' : ((s.Owner.length : Int) != p.Locks) = true := by simp [h3]
    simp [h2, h3, h3']
  ·have h2' : ((s.Cells.length : Int) != p.Cells) = true := by simp [h2]
   simp [h2, h2']
end Go.Proofs.YtjcaompblpglcaaGreat
