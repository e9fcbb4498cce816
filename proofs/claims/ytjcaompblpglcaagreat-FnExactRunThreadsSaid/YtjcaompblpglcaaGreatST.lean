/- Plain facts for FnExactRunThreads; no condition. -/

import Derived.Test.YtjcaompblpglcaaGreatFL
set_option linter.unusedVariables false
set_option linter.unusedSimpArgs false
namespace Go.Proofs.YtjcaompblpglcaaGreat
open Go Go.T
theorem cl_f {l : List Nat} (h : l.length < 1099511627776) : Qb6 l = some l := by
 rw [Qb6, Qbs, Qhq (by simp; omega)]
 cases l <;> simp [Xgz, Xjf]
theorem cl_i {l : List Int} (h : l.length < 1099511627776) : Qdb l = some l := by
 rw [Qdb, Qdd, Qhq (by simp; omega)]
 cases l <;> simp [Xgz, Xjf]
theorem cl_t {l : List Qa0} (h : l.length < 1099511627776) : Qbt l = some l := by
 rw [Qbt, Qc3, Qhq (by simp; omega)]
 cases l <;> simp [Xgz, Xjf]
def SC (s : Qa2) : Prop := s.Threads.length ≤ 1048576 ∧ s.Cells.length ≤ 1048576 ∧ s.Owner.length ≤ 1048576 ∧ ∀ t ∈ s.Threads, t.Stack.length ≤ 1048576
theorem Xg6 {s g : Qa2} (h : SC s) : ∀ (n k : Nat), k ≤ s.Threads.length → s.Threads.length < n + k → Qf9 s n g (Qa2.mk (s.Threads.take k) s.Cells s.Owner s.Fault) k = some s
 | 0, k, h1, h2 => by omega
 | n + 1, k, h1, h2 => by
  rw [Qf9]
  have h0 := h.1
  by_cases hk : k < s.Threads.length
  ·have hs := h.2.2.2 _ (List.getElem_mem hk)
   simp only [PS, hk, Qeq hk, Qiw (k := k) (by omega), Qhq (a := []) (b := s.Threads[k].Stack) (by simp; omega), List.nil_append, Qhq (a := s.Threads.take k) (b := [(⟨s.Threads[k].Routine, s.Threads[k].Pc, s.Threads[k].State, s.Threads[k].Cond, s.Threads[k].Lock, s.Threads[k].Stack⟩ : Qa0)]) (by simp only [List.length_take, List.length_cons, List.length_nil]; omega)]
   have := Xg6 (g := g) h n (k + 1) hk (by omega)
   rw [List.take_add_one, List.getElem?_eq_getElem hk] at this
   exact this
  ·have : k = s.Threads.length := by omega
   subst this
   simp only [PS, Nat.lt_irrefl, List.take_length]
theorem Qxj {s : Qa2} (h : SC s) : Qh7 s = some s := by
 have h0 := h.1; have h1 := h.2.1; have h2 := h.2.2.1
 rw [Qh7, Qnr, Qhq (a := []) (b := s.Cells) (by simp; omega), Qhq (a := []) (b := s.Owner) (by simp; omega)]
 simp only [Option.bind_some, List.nil_append]
 exact Xg6 h FU 0 (by omega) (Qjo (by omega))
theorem Xgi {s g : Qa2} (h : SC s) : ∀ (n k : Nat), k ≤ s.Threads.length → s.Threads.length < n + k → Qbu s.Threads n g (s.Threads.take k) s.Cells s.Owner s.Fault k = some s
 | 0, k, h1, h2 => by omega
 | n + 1, k, h1, h2 => by
  rw [Qbu]
  have h0 := h.1
  by_cases hk : k < s.Threads.length
  ·have hs := h.2.2.2 _ (List.getElem_mem hk)
   have e1 : Qpr (s.Threads.take k) (k : Int) = some () := by unfold Qpr; rw [if_pos (by simp; omega)]
   have e2 : nx1 (k : Int) = some () := by unfold nx1; rw [if_pos (by rw [Qiw (k := k) (by omega)]; omega)]
   simp only [PS, hk, Qeq hk, Qiw (k := k) (by omega), Qhq (a := []) (b := s.Threads[k].Stack) (by simp; omega), List.nil_append, e1, e2]
   have := Xgi (g := g) h n (k + 1) hk (by omega)
   rw [List.take_add_one, List.getElem?_eq_getElem hk] at this
   exact this
  ·have : k = s.Threads.length := by omega
   subst this
   have e : Xci s.Threads (s.Threads.length : Int) = some () := by unfold Xci; rw [if_pos (Int.le_refl _)]
   simp only [PS, Nat.lt_irrefl, e, List.take_length]
theorem Xk4 {s : Qa2} (h : SC s) : Qen s = some s := by
 have h0 := h.1; have h1 := h.2.1; have h2 := h.2.2.1
 rw [Qen, cl_f (by omega), cl_i (by omega), cl_t (by omega)]
 simp only [Option.bind_some]
 exact Xgi h FU 0 (by omega) (Qjo (by omega))
def Qbf (c : Int) : Int × Int := if c = 1 ∨ c = 2 ∨ c = 14 then (0, 1) else if c = 3 ∨ c = 11 ∨ c = 15 then (1, 0) else if 4 ≤ c ∧ c ≤ 9 then (2, 1) else (0, 0)
theorem Qq3 {c : Int} (h : 1 ≤ c ∧ c ≤ 17) : c = 1 ∨ c = 2 ∨ c = 3 ∨ c = 4 ∨ c = 5 ∨ c = 6 ∨ c = 7 ∨ c = 8 ∨ c = 9 ∨ c = 10 ∨ c = 11 ∨ c = 12 ∨ c = 13 ∨ c = 14 ∨ c = 15 ∨ c = 16 ∨ c = 17 := by omega
theorem Qqm {o : GOp} (h : 1 ≤ o.Code ∧ o.Code ≤ 17) : Qgb o = some (Qbf o.Code) := by
 rcases Qq3 h with hc | hc | hc | hc | hc | hc | hc | hc | hc | hc | hc | hc | hc | hc | hc | hc | hc <;>
  simp [Qgb, Qdx, Qdv, Qc6, hc, Qbf]
theorem Quc {c : Int} (h : 1 ≤ c ∧ c ≤ 17) : Qg6 c = some (Qbf c) := by
 rcases Qq3 h with hc | hc | hc | hc | hc | hc | hc | hc | hc | hc | hc | hc | hc | hc | hc | hc | hc <;>
  simp [Qg6, Qeo, Qem, hc, Qbf, Qkw, inr]
theorem Qsw (c : Int) : 0 ≤ (Qbf c).1 ∧ (Qbf c).1 ≤ 2 ∧ 0 ≤ (Qbf c).2 ∧ (Qbf c).2 ≤ 1 := by
 unfold Qbf; split
 ·simp
 ·split
  ·simp
  ·split <;> simp
theorem Quv {p : Qaf} {long : Int} {o : GOp} (h : Qk2 p long o = true) : (1 ≤ o.Code ∧ o.Code ≤ 17) ∧ ((o.Code = 2 ∨ o.Code = 3) → 0 ≤ o.A ∧ o.A ≤ p.Cells - 1) ∧ ((o.Code = 12 ∨ o.Code = 13) → 0 ≤ o.A ∧ o.A ≤ p.Locks - 1) ∧ (o.Code = 16 → 0 ≤ o.B ∧ o.B ≤ p.Locks - 1) := by
 unfold Qk2 at h
 by_cases h1 : o.Code = 1
 ·exact ⟨by omega, by omega, by omega, by omega⟩
 rw [if_neg h1] at h
 by_cases h2 : o.Code = 2 ∨ o.Code = 3
 ·rw [if_pos h2] at h
  simp only [Bool.and_eq_true] at h
  have := Qca.1 h.2.1
  exact ⟨by omega, fun _ => this, by omega, by omega⟩
 rw [if_neg h2] at h
 by_cases h3 : o.Code = 10 ∨ o.Code = 11
 ·exact ⟨by omega, by omega, by omega, by omega⟩
 rw [if_neg h3] at h
 by_cases h4 : o.Code = 12 ∨ o.Code = 13
 ·rw [if_pos h4] at h
  simp only [Bool.and_eq_true] at h
  have := Qca.1 h.2.1
  exact ⟨by omega, by omega, fun _ => this, by omega⟩
 rw [if_neg h4] at h
 by_cases h5 : o.Code = 14
 ·exact ⟨by omega, by omega, by omega, by omega⟩
 rw [if_neg h5] at h
 by_cases h6 : o.Code = 16
 ·rw [if_pos h6] at h
  simp only [Bool.and_eq_true] at h
  have := Qca.1 h.2.2
  exact ⟨by omega, by omega, by omega, fun _ => this⟩
 rw [if_neg h6] at h
 by_cases h7 : o.Code = 17
 ·exact ⟨by omega, by omega, by omega, by omega⟩
 rw [if_neg h7] at h
 simp only [Bool.and_eq_true] at h
 have := Qca.1 h.2.1.1
 exact ⟨this, by omega, by omega, by omega⟩
theorem Xan {p : Qaf} {s : Qa2} {k : Nat} {o : GOp} {long : Int} (hk : k < s.Threads.length) (h : TG p s s.Threads[k]) (ho : Qk2 p long o = true) : ∃ f : Int, Qjf s k o = some f ∧ Qcg s k o = some f ∧ 0 ≤ f ∧ f ≤ 4 ∧ (f = 0 → (Qbf o.Code).1 ≤ s.Threads[k].Stack.length ∧ (s.Threads[k].Stack.length : Int) - (Qbf o.Code).1 + (Qbf o.Code).2 ≤ 8 ∧ (o.Code = 15 → ∃ r : Int × Bool, Qbq s s.Threads[k] = some r ∧ Qd0 s s.Threads[k] = some r.1 ∧ r.2 = true)) := by
 obtain ⟨hc, hA, hL, hB⟩ := Quv ho
 have hsk := h.sk
 obtain ⟨t0, t1, t2, t3⟩ := Qsw o.Code
 have w : w64 (w64 ((s.Threads[k].Stack.length : Int) - (Qbf o.Code).1) + (Qbf o.Code).2) = (s.Threads[k].Stack.length : Int) - (Qbf o.Code).1 + (Qbf o.Code).2 := by
  rw [Qbz (n := (s.Threads[k].Stack.length : Int) - (Qbf o.Code).1) (by omega), Qbz (by omega)]
 rw [Qjf, Qcg, Qeq hk]
 simp only [Option.bind_some, Qqm hc, Quc hc, w]
 by_cases h1 : (s.Threads[k].Stack.length : Int) < (Qbf o.Code).1
 ·exact ⟨1, by simp [h1], by simp [h1], by omega, by omega, by omega⟩
 by_cases h2 : (s.Threads[k].Stack.length : Int) - (Qbf o.Code).1 + (Qbf o.Code).2 > 8
 ·exact ⟨1, by simp [h1, h2], by simp [h1, h2], by omega, by omega, by omega⟩
 have d1 : decide ((s.Threads[k].Stack.length : Int) < (Qbf o.Code).1) = false := by simp; omega
 have d2 : decide ((s.Threads[k].Stack.length : Int) - (Qbf o.Code).1 + (Qbf o.Code).2 > 8) = false := by simp; omega
 simp only [d1, d2, Bool.false_eq_true, if_false]
 have base : (Qbf o.Code).1 ≤ s.Threads[k].Stack.length ∧ (s.Threads[k].Stack.length : Int) - (Qbf o.Code).1 + (Qbf o.Code).2 ≤ 8 := ⟨by omega, by omega⟩
 rw [Qi2, Qcz]
 by_cases c13 : o.Code = 13
 ·obtain ⟨v, hv, v1, v2⟩ := Qsb h (hL (.inr c13)).1 (hL (.inr c13)).2
  by_cases e : v = (k : Int)
  ·subst e
   exact ⟨0, by simp [c13, hv, Qfi, Qcc, Qdg], by simp [c13, hv], by omega, by omega, fun _ => ⟨base.1, base.2, by omega⟩⟩
  ·exact ⟨2, by simp [c13, hv, e, Qi4, Qcc], by simp [c13, hv, e], by omega, by omega, by omega⟩
 have d13 : (o.Code == 13) = false := by simp [c13]
 simp only [d13, Bool.false_eq_true, if_false]
 rw [Qfi]
 by_cases c16 : o.Code = 16
 ·obtain ⟨v, hv, v1, v2⟩ := Qsb h (hB c16).1 (hB c16).2
  by_cases e : v = (k : Int)
  ·subst e
   exact ⟨0, by simp [c16, hv, Qcc, Qdg], by simp [c16, hv], by omega, by omega, fun _ => ⟨base.1, base.2, by omega⟩⟩
  ·exact ⟨2, by simp [c16, hv, e, Qcc], by simp [c16, hv, e], by omega, by omega, by omega⟩
 have d16 : (o.Code == 16) = false := by simp [c16]
 simp only [d16, Bool.false_eq_true, if_false]
 rw [Qcc]
 by_cases c15 : o.Code = 15
 ·obtain ⟨r, j1, j2, j3⟩ := Qoq h
  cases hr : r.2
  ·rw [hr] at j2
   exact ⟨3, by simp [c15, j2], by simp [c15, j1, hr], by omega, by omega, by omega⟩
  ·rw [hr] at j2
   have := j3 hr
   have dr : decide (r.1 < 0) = false := by simp; omega
   refine ⟨0, ?_, by simp [c15, j1, hr], by omega, by omega, fun _ => ⟨base.1, base.2, fun _ => ⟨r, j1, by simpa using j2, hr⟩⟩⟩
   simp only [Bool.false_eq_true, if_false, c15, beq_self_eq_true, if_true, j2, Option.bind_some, dr]
   rw [Qdg]; simp [c15]
 have d15 : (o.Code == 15) = false := by simp [c15]
 simp only [d15, Bool.false_eq_true, if_false]
 rw [Qdg]
 by_cases c14 : o.Code = 14
 ·by_cases e : s.Threads.length = 5
  ·exact ⟨4, by simp [c14, e], by simp [c14, e], by omega, by omega, by omega⟩
  ·have e' : ((s.Threads.length : Int) == 5) = false := by rw [beq_eq_false_iff_ne]; omega
   exact ⟨0, by simp [c14, e'], by simp [c14, e'], by omega, by omega, fun _ => ⟨base.1, base.2, by omega⟩⟩
 ·exact ⟨0, by simp [c14], by simp [c14], by omega, by omega, fun _ => ⟨base.1, base.2, by omega⟩⟩
end Go.Proofs.YtjcaompblpglcaaGreat
