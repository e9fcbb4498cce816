/- Plain facts for FnExactRunThreads; no condition. -/

import Derived.Test.YtjcaompblpglcaaGreatFL
set_option linter.unusedVariables false
set_option linter.unusedSimpArgs false
namespace Go.Proofs.YtjcaompblpglcaaGreat
open Go Go.T
theorem cl_f {l : List Nat} (h : l.length < 1099511627776) : slices_Clone_float64_float64 l = some l := by
 rw [slices_Clone_float64_float64, slices_Clone_float64_float64_j0, app_ok (by simp; omega)]
 cases l <;> simp [nilS, both]
theorem cl_i {l : List Int} (h : l.length < 1099511627776) : slices_Clone_int_int l = some l := by
 rw [slices_Clone_int_int, slices_Clone_int_int_j0, app_ok (by simp; omega)]
 cases l <;> simp [nilS, both]
theorem cl_t {l : List GThread} (h : l.length < 1099511627776) : slices_Clone_Thread_Thread l = some l := by
 rw [slices_Clone_Thread_Thread, slices_Clone_Thread_Thread_j0, app_ok (by simp; omega)]
 cases l <;> simp [nilS, both]
def SC (s : GState) : Prop := s.Threads.length ≤ 1048576 ∧ s.Cells.length ≤ 1048576 ∧ s.Owner.length ≤ 1048576 ∧ ∀ t ∈ s.Threads, t.Stack.length ≤ 1048576
theorem own_l0 {s g : GState} (h : SC s) : ∀ (n k : Nat), k ≤ s.Threads.length → s.Threads.length < n + k → spec_l3Own_l0 s n g (GState.mk (s.Threads.take k) s.Cells s.Owner s.Fault) k = some s
 | 0, k, h1, h2 => by omega
 | n + 1, k, h1, h2 => by
  rw [spec_l3Own_l0]
  have h0 := h.1
  by_cases hk : k < s.Threads.length
  ·have hs := h.2.2.2 _ (List.getElem_mem hk)
   simp only [PS, hk, rd_at hk, w64_s (k := k) (by omega), app_ok (a := []) (b := s.Threads[k].Stack) (by simp; omega), List.nil_append, app_ok (a := s.Threads.take k) (b := [(⟨s.Threads[k].Routine, s.Threads[k].Pc, s.Threads[k].State, s.Threads[k].Cond, s.Threads[k].Lock, s.Threads[k].Stack⟩ : GThread)]) (by simp only [List.length_take, List.length_cons, List.length_nil]; omega)]
   have := own_l0 (g := g) h n (k + 1) hk (by omega)
   rw [List.take_add_one, List.getElem?_eq_getElem hk] at this
   exact this
  ·have : k = s.Threads.length := by omega
   subst this
   simp only [PS, Nat.lt_irrefl, List.take_length]
theorem own_eq {s : GState} (h : SC s) : spec_l3Own s = some s := by
 have h0 := h.1; have h1 := h.2.1; have h2 := h.2.2.1
 rw [spec_l3Own, spec_l1Own, app_ok (a := []) (b := s.Cells) (by simp; omega), app_ok (a := []) (b := s.Owner) (by simp; omega)]
 simp only [Option.bind_some, List.nil_append]
 exact own_l0 h FU 0 (by omega) (FU_gt (by omega))
theorem cop_l0 {s g : GState} (h : SC s) : ∀ (n k : Nat), k ≤ s.Threads.length → s.Threads.length < n + k → impl_State_copied_l0 s.Threads n g (s.Threads.take k) s.Cells s.Owner s.Fault k = some s
 | 0, k, h1, h2 => by omega
 | n + 1, k, h1, h2 => by
  rw [impl_State_copied_l0]
  have h0 := h.1
  by_cases hk : k < s.Threads.length
  ·have hs := h.2.2.2 _ (List.getElem_mem hk)
   have e1 : isLenM (s.Threads.take k) (k : Int) = some () := by unfold isLenM; rw [if_pos (by simp; omega)]
   have e2 : nx1 (k : Int) = some () := by unfold nx1; rw [if_pos (by rw [w64_s (k := k) (by omega)]; omega)]
   simp only [PS, hk, rd_at hk, w64_s (k := k) (by omega), app_ok (a := []) (b := s.Threads[k].Stack) (by simp; omega), List.nil_append, e1, e2]
   have := cop_l0 (g := g) h n (k + 1) hk (by omega)
   rw [List.take_add_one, List.getElem?_eq_getElem hk] at this
   exact this
  ·have : k = s.Threads.length := by omega
   subst this
   have e : isEnd s.Threads (s.Threads.length : Int) = some () := by unfold isEnd; rw [if_pos (Int.le_refl _)]
   simp only [PS, Nat.lt_irrefl, e, List.take_length]
theorem cop_eq {s : GState} (h : SC s) : impl_State_copied s = some s := by
 have h0 := h.1; have h1 := h.2.1; have h2 := h.2.2.1
 rw [impl_State_copied, cl_f (by omega), cl_i (by omega), cl_t (by omega)]
 simp only [Option.bind_some]
 exact cop_l0 h FU 0 (by omega) (FU_gt (by omega))
def takesF (c : Int) : Int × Int := if c = 1 ∨ c = 2 ∨ c = 14 then (0, 1) else if c = 3 ∨ c = 11 ∨ c = 15 then (1, 0) else if 4 ≤ c ∧ c ≤ 9 then (2, 1) else (0, 0)
theorem code_cases {c : Int} (h : 1 ≤ c ∧ c ≤ 17) : c = 1 ∨ c = 2 ∨ c = 3 ∨ c = 4 ∨ c = 5 ∨ c = 6 ∨ c = 7 ∨ c = 8 ∨ c = 9 ∨ c = 10 ∨ c = 11 ∨ c = 12 ∨ c = 13 ∨ c = 14 ∨ c = 15 ∨ c = 16 ∨ c = 17 := by omega
theorem takes_impl {o : GOp} (h : 1 ≤ o.Code ∧ o.Code ≤ 17) : impl_Op_takes o = some (takesF o.Code) := by
 rcases code_cases h with hc | hc | hc | hc | hc | hc | hc | hc | hc | hc | hc | hc | hc | hc | hc | hc | hc <;>
  simp [impl_Op_takes, impl_Op_takes_j0, impl_Op_takes_j1, impl_Op_takes_j2, hc, takesF]
theorem takes_spec {c : Int} (h : 1 ≤ c ∧ c ≤ 17) : spec_l3Takes c = some (takesF c) := by
 rcases code_cases h with hc | hc | hc | hc | hc | hc | hc | hc | hc | hc | hc | hc | hc | hc | hc | hc | hc <;>
  simp [spec_l3Takes, spec_l3Takes_j0, spec_l3Takes_j1, hc, takesF, spec_in_eq, inr]
theorem takes_small (c : Int) : 0 ≤ (takesF c).1 ∧ (takesF c).1 ≤ 2 ∧ 0 ≤ (takesF c).2 ∧ (takesF c).2 ≤ 1 := by
 unfold takesF; split
 ·simp
 ·split
  ·simp
  ·split <;> simp
theorem goodO_args {p : GProg} {long : Int} {o : GOp} (h : goodO p long o = true) : (1 ≤ o.Code ∧ o.Code ≤ 17) ∧ ((o.Code = 2 ∨ o.Code = 3) → 0 ≤ o.A ∧ o.A ≤ p.Cells - 1) ∧ ((o.Code = 12 ∨ o.Code = 13) → 0 ≤ o.A ∧ o.A ≤ p.Locks - 1) ∧ (o.Code = 16 → 0 ≤ o.B ∧ o.B ≤ p.Locks - 1) := by
 unfold goodO at h
 by_cases h1 : o.Code = 1
 ·exact ⟨by omega, by omega, by omega, by omega⟩
 rw [if_neg h1] at h
 by_cases h2 : o.Code = 2 ∨ o.Code = 3
 ·rw [if_pos h2] at h
  simp only [Bool.and_eq_true] at h
  have := inr_true.1 h.2.1
  exact ⟨by omega, fun _ => this, by omega, by omega⟩
 rw [if_neg h2] at h
 by_cases h3 : o.Code = 10 ∨ o.Code = 11
 ·exact ⟨by omega, by omega, by omega, by omega⟩
 rw [if_neg h3] at h
 by_cases h4 : o.Code = 12 ∨ o.Code = 13
 ·rw [if_pos h4] at h
  simp only [Bool.and_eq_true] at h
  have := inr_true.1 h.2.1
  exact ⟨by omega, by omega, fun _ => this, by omega⟩
 rw [if_neg h4] at h
 by_cases h5 : o.Code = 14
 ·exact ⟨by omega, by omega, by omega, by omega⟩
 rw [if_neg h5] at h
 by_cases h6 : o.Code = 16
 ·rw [if_pos h6] at h
  simp only [Bool.and_eq_true] at h
  have := inr_true.1 h.2.2
  exact ⟨by omega, by omega, by omega, fun _ => this⟩
 rw [if_neg h6] at h
 by_cases h7 : o.Code = 17
 ·exact ⟨by omega, by omega, by omega, by omega⟩
 rw [if_neg h7] at h
 simp only [Bool.and_eq_true] at h
 have := inr_true.1 h.2.1.1
 exact ⟨this, by omega, by omega, by omega⟩
theorem fault_both {p : GProg} {s : GState} {k : Nat} {o : GOp} {long : Int} (hk : k < s.Threads.length) (h : TG p s s.Threads[k]) (ho : goodO p long o = true) : ∃ f : Int, spec_l3Code s k o = some f ∧ impl_State_faultOf s k o = some f ∧ 0 ≤ f ∧ f ≤ 4 ∧ (f = 0 → (takesF o.Code).1 ≤ s.Threads[k].Stack.length ∧ (s.Threads[k].Stack.length : Int) - (takesF o.Code).1 + (takesF o.Code).2 ≤ 8 ∧ (o.Code = 15 → ∃ r : Int × Bool, impl_State_joined s s.Threads[k] = some r ∧ spec_l3Joins s s.Threads[k] = some r.1 ∧ r.2 = true)) := by
 obtain ⟨hc, hA, hL, hB⟩ := goodO_args ho
 have hsk := h.sk
 obtain ⟨t0, t1, t2, t3⟩ := takes_small o.Code
 have w : w64 (w64 ((s.Threads[k].Stack.length : Int) - (takesF o.Code).1) + (takesF o.Code).2) = (s.Threads[k].Stack.length : Int) - (takesF o.Code).1 + (takesF o.Code).2 := by
  rw [w64_id (n := (s.Threads[k].Stack.length : Int) - (takesF o.Code).1) (by omega), w64_id (by omega)]
 rw [spec_l3Code, impl_State_faultOf, rd_at hk]
 simp only [Option.bind_some, takes_impl hc, takes_spec hc, w]
 by_cases h1 : (s.Threads[k].Stack.length : Int) < (takesF o.Code).1
 ·exact ⟨1, by simp [h1], by simp [h1], by omega, by omega, by omega⟩
 by_cases h2 : (s.Threads[k].Stack.length : Int) - (takesF o.Code).1 + (takesF o.Code).2 > 8
 ·exact ⟨1, by simp [h1, h2], by simp [h1, h2], by omega, by omega, by omega⟩
 have d1 : decide ((s.Threads[k].Stack.length : Int) < (takesF o.Code).1) = false := by simp; omega
 have d2 : decide ((s.Threads[k].Stack.length : Int) - (takesF o.Code).1 + (takesF o.Code).2 > 8) = false := by simp; omega
 simp only [d1, d2, Bool.false_eq_true, if_false]
 have base : (takesF o.Code).1 ≤ s.Threads[k].Stack.length ∧ (s.Threads[k].Stack.length : Int) - (takesF o.Code).1 + (takesF o.Code).2 ≤ 8 := ⟨by omega, by omega⟩
 rw [spec_l3Code_j0, impl_State_faultOf_j0]
 by_cases c13 : o.Code = 13
 ·obtain ⟨v, hv, v1, v2⟩ := own_rd h (hL (.inr c13)).1 (hL (.inr c13)).2
  by_cases e : v = (k : Int)
  ·subst e
   exact ⟨0, by simp [c13, hv, spec_l3Code_j4, spec_l3Code_j2, spec_l3Code_j3], by simp [c13, hv], by omega, by omega, fun _ => ⟨base.1, base.2, by omega⟩⟩
  ·exact ⟨2, by simp [c13, hv, e, spec_l3Code_j1, spec_l3Code_j2], by simp [c13, hv, e], by omega, by omega, by omega⟩
 have d13 : (o.Code == 13) = false := by simp [c13]
 simp only [d13, Bool.false_eq_true, if_false]
 rw [spec_l3Code_j4]
 by_cases c16 : o.Code = 16
 ·obtain ⟨v, hv, v1, v2⟩ := own_rd h (hB c16).1 (hB c16).2
  by_cases e : v = (k : Int)
  ·subst e
   exact ⟨0, by simp [c16, hv, spec_l3Code_j2, spec_l3Code_j3], by simp [c16, hv], by omega, by omega, fun _ => ⟨base.1, base.2, by omega⟩⟩
  ·exact ⟨2, by simp [c16, hv, e, spec_l3Code_j2], by simp [c16, hv, e], by omega, by omega, by omega⟩
 have d16 : (o.Code == 16) = false := by simp [c16]
 simp only [d16, Bool.false_eq_true, if_false]
 rw [spec_l3Code_j2]
 by_cases c15 : o.Code = 15
 ·obtain ⟨r, j1, j2, j3⟩ := joined_both h
  cases hr : r.2
  ·rw [hr] at j2
   exact ⟨3, by simp [c15, j2], by simp [c15, j1, hr], by omega, by omega, by omega⟩
  ·rw [hr] at j2
   have := j3 hr
   have dr : decide (r.1 < 0) = false := by simp; omega
   refine ⟨0, ?_, by simp [c15, j1, hr], by omega, by omega, fun _ => ⟨base.1, base.2, fun _ => ⟨r, j1, by simpa using j2, hr⟩⟩⟩
   simp only [Bool.false_eq_true, if_false, c15, beq_self_eq_true, if_true, j2, Option.bind_some, dr]
   rw [spec_l3Code_j3]; simp [c15]
 have d15 : (o.Code == 15) = false := by simp [c15]
 simp only [d15, Bool.false_eq_true, if_false]
 rw [spec_l3Code_j3]
 by_cases c14 : o.Code = 14
 ·by_cases e : s.Threads.length = 5
  ·exact ⟨4, by simp [c14, e], by simp [c14, e], by omega, by omega, by omega⟩
  ·have e' : ((s.Threads.length : Int) == 5) = false := by rw [beq_eq_false_iff_ne]; omega
   exact ⟨0, by simp [c14, e'], by simp [c14, e'], by omega, by omega, fun _ => ⟨base.1, base.2, by omega⟩⟩
 ·exact ⟨0, by simp [c14], by simp [c14], by omega, by omega, fun _ => ⟨base.1, base.2, by omega⟩⟩
end Go.Proofs.YtjcaompblpglcaaGreat
