/- Plain facts for FnExactStepState; no condition. -/

import Derived.Test.YtjcaompblpglcaaGreatHC
set_option linter.unusedVariables false
set_option linter.unusedSimpArgs false
namespace Go.Proofs.YtjcaompblpglcaaGreat
open Go Go.T
def Go1 (p : GProg) (s : GState) (x : Int) : Prop := ∃ (j : Nat) (hj : j < s.Threads.length), x = (j : Int) ∧ (s.Threads[j].State = 1 ∨ s.Threads[j].State = 4) ∧ s.Fault = 0 ∧ ∃ b : Int, spec_l3Blocks p s s.Threads[j] = some b ∧ b < 0
theorem enabled_m {p : GProg} {s : GState} (h : ∀ t ∈ s.Threads, TG p s t) (h5 : s.Threads.length ≤ 5) : ∀ (n k : Nat) (a : List Int), k ≤ s.Threads.length → s.Threads.length < n + k → a.length ≤ k → (∀ x ∈ a, Go1 p s x) → ∃ r, spec_l3Enabled_l0 s n p s a k = some r ∧ impl_State_enabled_l0 s n p a k = some r ∧ r.length ≤ s.Threads.length ∧ ∀ x ∈ r, Go1 p s x
 | 0, k, a, h1, h2, h3, h4 => by omega
 | n + 1, k, a, h1, h2, h3, h4 => by
  rw [spec_l3Enabled_l0, impl_State_enabled_l0]
  by_cases hk : k < s.Threads.length
  ·obtain ⟨b, w, e1, e2, e3, e4, e5⟩ := blocks (h _ (List.getElem_mem hk))
   have go : ∀ a' : List Int, a'.length ≤ k + 1 → (∀ x ∈ a', Go1 p s x) → _ := fun a' ha hb => enabled_m h h5 n (k + 1) a' hk (by omega) ha hb
   have hm : (a ++ [(k : Int)]).length ≤ k + 1 := by simp; omega
   have hb : Go1 p s (k : Int) → ∀ x ∈ a ++ [(k : Int)], Go1 p s x := fun hg x hx => by
    rcases List.mem_append.1 hx with hx | hx
    ·exact h4 x hx
    ·simp only [List.mem_singleton] at hx; subst hx; exact hg
   simp only [PS, hk, rd_at hk, w64_s (k := k) (by omega), e1, e2]
   by_cases hf : s.Fault = 0
   ·have ef : (s.Fault == 0) = true := by simp [hf]
    by_cases hb0 : b < 0
    ·have q1 : decide (b ≥ 0) = false := by simp; omega
     have q2 : decide (b < 0) = true := by simp; omega
     have ha := app_ok (a := a) (b := [(k : Int)]) (by simp; omega)
     by_cases s1 : s.Threads[k].State = 1
     ·have es : (s.Threads[k].State == 1) = true := by simp [s1]
      simp only [PS, ef, es, q1, q2, ha]
      exact go _ hm (hb ⟨k, hk, rfl, .inl s1, hf, b, e1, hb0⟩)
     ·have es : (s.Threads[k].State == 1) = false := by simp [s1]
      by_cases s4 : s.Threads[k].State = 4
      ·have es4 : (s.Threads[k].State == 4) = true := by simp [s4]
       simp only [PS, ef, es, es4, q1, q2, ha]
       exact go _ hm (hb ⟨k, hk, rfl, .inr s4, hf, b, e1, hb0⟩)
      ·have es4 : (s.Threads[k].State == 4) = false := by simp [s4]
       simp only [PS, ef, es, es4, q1, q2]
       exact go a (by omega) h4
    ·have q1 : decide (b ≥ 0) = true := by simp; omega
     have q2 : decide (b < 0) = false := by simp; omega
     by_cases s1 : s.Threads[k].State = 1
     ·have es : (s.Threads[k].State == 1) = true := by simp [s1]
      simp only [PS, ef, es, q1, q2]
      exact go a (by omega) h4
     ·have es : (s.Threads[k].State == 1) = false := by simp [s1]
      by_cases s4 : s.Threads[k].State = 4
      ·have es4 : (s.Threads[k].State == 4) = true := by simp [s4]
       simp only [PS, ef, es, es4, q1, q2]
       exact go a (by omega) h4
      ·have es4 : (s.Threads[k].State == 4) = false := by simp [s4]
       simp only [PS, ef, es, es4, q1, q2]
       exact go a (by omega) h4
   ·have ef : (s.Fault == 0) = false := by simp [hf]
    simp only [PS, ef]
    exact go a (by omega) h4
  ·have : k = s.Threads.length := by omega
   subst this
   simp only [PS, Nat.lt_irrefl]
   exact ⟨a, rfl, rfl, h3, h4⟩
theorem step_both {p : GProg} {s : GState} {k : Nat} (hk : k < s.Threads.length) (hT : ∀ t ∈ s.Threads, TG p s t) (hcl : (s.Cells.length : Int) = p.Cells) (hsc : SC s) (hst : s.Threads[k].State = 1 ∨ s.Threads[k].State = 4) :
  ∃ q : GState × GEvent, spec_l3Step p s k = some q ∧ impl_State_step s p k = some (q.2, q.1) ∧ q.1.Threads.length ≤ 6 ∧ q.1.Cells.length = s.Cells.length ∧ q.1.Owner.length = s.Owner.length ∧ ∀ t ∈ q.1.Threads, t.Stack.length ≤ 9 := by
 have h := hT _ (List.getElem_mem hk)
 have hn5 := h.n5
 have hsk := h.sk
 have hall : ∀ t ∈ s.Threads, t.Stack.length ≤ 8 := fun t ht => (hT t ht).sk
 have hrd : rd s.Threads (k : Int) = some s.Threads[k] := rd_at hk
 rw [spec_l3Step, impl_State_step]
 have hpc : w64 (s.Threads[k].Pc + 0) = s.Threads[k].Pc := by
  have h1 := h.pc
  have h2 := h.rt
  have h3 := h.bp
  have hr : s.Threads[k].Routine.toNat < p.Routines.length := by omega
  rw [List.getElem?_eq_getElem hr, Option.getD_some] at h1
  have h4 := (h.ops _ (List.getElem_mem hr)).1
  rw [Int.add_zero, w64_id (by omega)]
 simp only [hrd, Option.bind_some]
 rcases hst with s1 | s4
 ·have e4 : (s.Threads[k].State == 4) = false := by simp [s1]
  rcases next_both h with ⟨a, b⟩ | ⟨o, r, hr, ho, a, b⟩
  ·refine ⟨(⟨s.Threads.set k ⟨s.Threads[k].Routine, s.Threads[k].Pc, 2, s.Threads[k].Cond, s.Threads[k].Lock, s.Threads[k].Stack⟩, s.Cells, s.Owner, s.Fault⟩, ⟨k, 11, -1, -1, s.Threads[k].Pc⟩), ?_, ?_, by simp; omega, rfl, rfl, set9 hall (by show s.Threads[k].Stack.length ≤ 9; omega)⟩
   ·simp [a, e4, own_eq hsc, hrd]
   ·simp [b, e4]
  ·have hg := (h.ops r hr).2 o ho
   obtain ⟨f, f1, f2, f3, f4, f5⟩ := fault_both hk h hg
   by_cases hf : f = 0
   ·subst hf
    obtain ⟨d1, d2, d3⟩ := f5 rfl
    obtain ⟨q, q1, q2, q3⟩ := do_both hk h hall hcl s1 hg d1 d2 d3
    refine ⟨q, ?_, ?_, q3⟩
    ·simp [a, e4, f1, own_eq hsc, q1]
    ·simp [b, e4, f2, q2]
   ·refine ⟨(⟨s.Threads, s.Cells, s.Owner, f⟩, ⟨k, 12, f, -1, s.Threads[k].Pc⟩), ?_, ?_, by show s.Threads.length ≤ 6; omega, rfl, rfl, fun t ht => by have := hall t ht; omega⟩
    ·simp [a, e4, f1, hf, spec_l3Fault, own_eq hsc]
    ·simp [b, e4, f2, hf]
 ·have e4 : (s.Threads[k].State == 4) = true := by simp [s4]
  obtain ⟨v, hv, _⟩ := own_rd h (h.lk s4).1 (h.lk s4).2
  rcases next_both h with ⟨a, b⟩ | ⟨o, r, hr, ho, a, b⟩
  ·refine ⟨(⟨s.Threads.set k ⟨s.Threads[k].Routine, s.Threads[k].Pc, 1, -1, -1, s.Threads[k].Stack⟩, s.Cells, s.Owner.set s.Threads[k].Lock.toNat k, s.Fault⟩, ⟨k, 9, s.Threads[k].Cond, s.Threads[k].Lock, s.Threads[k].Pc⟩), ?_, ?_, by simp; omega, rfl, by simp, set9 hall (by show s.Threads[k].Stack.length ≤ 9; omega)⟩
   ·simp [a, e4, own_eq hsc, hrd, hv]
   ·simp [b, e4, hv, impl_boolInt, hpc]
    rw [Int.add_zero] at hpc
    rw [hpc]
  ·refine ⟨(⟨s.Threads.set k ⟨s.Threads[k].Routine, w64 (s.Threads[k].Pc + 1), 1, -1, -1, s.Threads[k].Stack⟩, s.Cells, s.Owner.set s.Threads[k].Lock.toNat k, s.Fault⟩, ⟨k, 9, s.Threads[k].Cond, s.Threads[k].Lock, s.Threads[k].Pc⟩), ?_, ?_, by simp; omega, rfl, by simp, set9 hall (by show s.Threads[k].Stack.length ≤ 9; omega)⟩
   ·simp [a, e4, own_eq hsc, hrd, hv]
   ·simp [b, e4, hv, impl_boolInt]
end Go.Proofs.YtjcaompblpglcaaGreat
