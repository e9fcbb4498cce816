/- Plain facts for FnExactRunThreads; no condition. -/

import Derived.Test.YtjcaompblpglcaaGreatNWa
set_option linter.unusedVariables false
set_option linter.unusedSimpArgs false
namespace Go.Proofs.YtjcaompblpglcaaGreat
open Go Go.T
def Go1 (p : GProg) (s : GState) (x : Int) : Prop := ∃ (j : Nat) (hj : j < s.Threads.length), x = (j : Int) ∧ (s.Threads[j].State = 1 ∨ s.Threads[j].State = 4) ∧ s.Fault = 0 ∧ ∃ b : Int, spec_l3Blocks p s s.Threads[j] = some b ∧ b < 0
theorem enabled_m {p : GProg} {s : GState} (h : ∀ t ∈ s.Threads, TG p s t) (h5 : s.Threads.length ≤ 5) : ∀ (n k : Nat) (a : List Int), k ≤ s.Threads.length → s.Threads.length < n + k → a.length ≤ k → (∀ x ∈ a, Go1 p s x) → ∃ r, spec_l3Enabled_l0 s n p s a k = some r ∧ impl_State_enabled_l0 s n p a k = some r ∧ r.length ≤ s.Threads.length ∧ ∀ x ∈ r, Go1 p s x
 | 0, k, a, h1, h2, h3, h4 => by omega
 | n + 1, k, a, h1, h2, h3, h4 => by
  rw [spec_l3Enabled_l0, impl_State_enabled_l0]
  by_cases hk : k < s.Threads.length
  ·obtain ⟨b, w, e1, e2, e3, e4, e5⟩ := blocks (h _ (List.getElem_mem hk))
   have go : ∀ a' : List Int, a'.length ≤ k + 1 → (∀ x ∈ a', Go1 p s x) → _ := fun a' ha hb => enabled_m h h5 n (k + 1) a' hk (by omega) ha hb
   have hm : (a ++ [(k : Int)]).length ≤ k + 1 := by simp; omega
   have hb : Go1 p s (k : Int) → ∀ x ∈ a ++ [(k : Int)], Go1 p s x := fun hg x hx => by
    rcases List.mem_append.1 hx with hx | hx
    ·exact h4 x hx
    ·simp only [List.mem_singleton] at hx; subst hx; exact hg
   simp only [PS, hk, rd_at hk, w64_s (k := k) (by omega), e1, e2]
   by_cases hf : s.Fault = 0
   ·have ef : (s.Fault == 0) = true := by simp [hf]
    by_cases hb0 : b < 0
    ·have q1 : decide (b ≥ 0) = false := by simp; omega
     have q2 : decide (b < 0) = true := by simp; omega
     have ha := app_ok (a := a) (b := [(k : Int)]) (by simp; omega)
     by_cases s1 : s.Threads[k].State = 1
     ·have es : (s.Threads[k].State == 1) = true := by simp [s1]
      simp only [PS, ef, es, q1, q2, ha]
      exact go _ hm (hb ⟨k, hk, rfl, .inl s1, hf, b, e1, hb0⟩)
     ·have es : (s.Threads[k].State == 1) = false := by simp [s1]
      by_cases s4 : s.Threads[k].State = 4
      ·have es4 : (s.Threads[k].State == 4) = true := by simp [s4]
       simp only [PS, ef, es, es4, q1, q2, ha]
       exact go _ hm (hb ⟨k, hk, rfl, .inr s4, hf, b, e1, hb0⟩)
      ·have es4 : (s.Threads[k].State == 4) = false := by simp [s4]
       simp only [PS, ef, es, es4, q1, q2]
       exact go a (by omega) h4
    ·have q1 : decide (b ≥ 0) = true := by simp; omega
     have q2 : decide (b < 0) = false := by simp; omega
     by_cases s1 : s.Threads[k].State = 1
     ·have es : (s.Threads[k].State == 1) = true := by simp [s1]
      simp only [PS, ef, es, q1, q2]
      exact go a (by omega) h4
     ·have es : (s.Threads[k].State == 1) = false := by simp [s1]
      by_cases s4 : s.Threads[k].State = 4
      ·have es4 : (s.Threads[k].State == 4) = true := by simp [s4]
       simp only [PS, ef, es, es4, q1, q2]
       exact go a (by omega) h4
      ·have es4 : (s.Threads[k].State == 4) = false := by simp [s4]
       simp only [PS, ef, es, es4, q1, q2]
       exact go a (by omega) h4
   ·have ef : (s.Fault == 0) = false := by simp [hf]
    simp only [PS, ef]
    exact go a (by omega) h4
  ·have : k = s.Threads.length := by omega
   subst this
   simp only [PS, Nat.lt_irrefl]
   exact ⟨a, rfl, rfl, h3, h4⟩
theorem step_rg {p : GProg} {s : GState} {k : Nat} (hk : k < s.Threads.length) (hR : RG p s) (hst : s.Threads[k].State = 1 ∨ s.Threads[k].State = 4) :
  ∃ q : GState × GEvent, spec_l3Step p s k = some q ∧ impl_State_step s p k = some (q.2, q.1) ∧ RG p q.1 := by
 have h := hR.tg _ (List.getElem_mem hk)
 have hth := hR.th _ (List.getElem_mem hk)
 have hn5 := h.n5
 have hsk := h.sk
 have hsc := hR.sc
 have hrd : rd s.Threads (k : Int) = some s.Threads[k] := rd_at hk
 rw [spec_l3Step, impl_State_step]
 have hpc : w64 (s.Threads[k].Pc + 0) = s.Threads[k].Pc := by
  have h1 := h.pc
  have h2 := h.rt
  have h3 := h.bp
  have hr : s.Threads[k].Routine.toNat < p.Routines.length := by omega
  rw [List.getElem?_eq_getElem hr, Option.getD_some] at h1
  have h4 := (h.ops _ (List.getElem_mem hr)).1
  rw [Int.add_zero, w64_id (by omega)]
 simp only [hrd, Option.bind_some]
 rcases hst with s1 | s4
 ·have e4 : (s.Threads[k].State == 4) = false := by simp [s1]
  rcases next_b2 h with ⟨a, b⟩ | ⟨o, r, hr, ho, hrr, hp1, a, b⟩
  ·refine ⟨(⟨s.Threads.set k ⟨s.Threads[k].Routine, s.Threads[k].Pc, 2, s.Threads[k].Cond, s.Threads[k].Lock, s.Threads[k].Stack⟩, s.Cells, s.Owner, s.Fault⟩, ⟨k, 11, -1, -1, s.Threads[k].Pc⟩), ?_, ?_, rg_set hR (th_on hth hth.pc (by omega) (fun e => by omega) hth.sk hth.fl) rfl hR.cf rfl hR.ow⟩
   ·simp [a, e4, own_eq hsc, hrd]
   ·simp [b, e4]
  ·have hg := (h.ops r hr).2 o ho
   obtain ⟨f, f1, f2, f3, f4, f5⟩ := fault_both hk h hg
   by_cases hf : f = 0
   ·subst hf
    obtain ⟨d1, d2, d3⟩ := f5 rfl
    obtain ⟨q, q1, q2, q3⟩ := do_rg hk hR s1 hr hrr ho hp1 (fun e => fault14 hk e f2) d1 d2 d3
    refine ⟨q, ?_, ?_, q3⟩
    ·simp [a, e4, f1, own_eq hsc, q1]
    ·simp [b, e4, f2, q2]
   ·refine ⟨(⟨s.Threads, s.Cells, s.Owner, f⟩, ⟨k, 12, f, -1, s.Threads[k].Pc⟩), ?_, ?_, ⟨hR.bp, hR.ops, hR.pv, hR.n1, hR.n5, hR.own, hR.ow, hR.cl, hR.cf, hR.th⟩⟩
    ·simp [a, e4, f1, hf, spec_l3Fault, own_eq hsc]
    ·simp [b, e4, f2, hf]
 ·have e4 : (s.Threads[k].State == 4) = true := by simp [s4]
  obtain ⟨v, hv, _⟩ := own_rd h (h.lk s4).1 (h.lk s4).2
  rcases next_b2 h with ⟨a, b⟩ | ⟨o, r, hr, ho, hrr, hp1, a, b⟩
  ·refine ⟨(⟨s.Threads.set k ⟨s.Threads[k].Routine, s.Threads[k].Pc, 1, -1, -1, s.Threads[k].Stack⟩, s.Cells, s.Owner.set s.Threads[k].Lock.toNat k, s.Fault⟩, ⟨k, 9, s.Threads[k].Cond, s.Threads[k].Lock, s.Threads[k].Pc⟩), ?_, ?_, rg_set hR (th_on hth hth.pc (by omega) (fun e => by omega) hth.sk hth.fl) rfl hR.cf (by simp) (mem_set_own hR.ow ⟨by omega, by omega⟩)⟩
   ·simp [a, e4, own_eq hsc, hrd, hv]
   ·simp [b, e4, hv, impl_boolInt, hpc]
    rw [Int.add_zero] at hpc
    rw [hpc]
  ·have hp0 := hth.pc
   have h24 := (h.ops r hr).1
   refine ⟨(⟨s.Threads.set k ⟨s.Threads[k].Routine, w64 (s.Threads[k].Pc + 1), 1, -1, -1, s.Threads[k].Stack⟩, s.Cells, s.Owner.set s.Threads[k].Lock.toNat k, s.Fault⟩, ⟨k, 9, s.Threads[k].Cond, s.Threads[k].Lock, s.Threads[k].Pc⟩), ?_, ?_, rg_set hR (th_on hth (by rw [← hrr] at hp0 ⊢; rw [w64_id (by omega)]; omega) (by omega) (fun e => by omega) hth.sk hth.fl) rfl hR.cf (by simp) (mem_set_own hR.ow ⟨by omega, by omega⟩)⟩
   ·simp [a, e4, own_eq hsc, hrd, hv]
   ·simp [b, e4, hv, impl_boolInt]
theorem new_rg {p : GProg} (hg : goodP p = true) (hv : ∀ r ∈ p.Routines, ∀ o ∈ r, o.V < 18446744073709551616) : ∃ s, spec_l3New p = some s ∧ impl_start p = some s ∧ RG p s := by
 obtain ⟨c, l, h1, h2, h3, h4, e1, e2⟩ := start_both hg
 obtain ⟨b, o⟩ := goodP_pb hg
 obtain ⟨b1, b2, b3, b4, b5⟩ := b
 refine ⟨newS c l, e1, e2, ⟨⟨b1, b2, b3, b4, b5⟩, o, hv, by simp [newS], by simp [newS], by simp [newS, h4], fun x hx => ?_, by simp [newS, h3], fun x hx => ?_, fun t ht => ?_⟩⟩
 ·have := List.eq_of_mem_replicate hx
  subst this
  simp [newS]
 ·have := List.eq_of_mem_replicate hx
  omega
 ·simp only [newS, List.mem_singleton] at ht
  subst ht
  exact ⟨⟨by simp, by simp; omega⟩, ⟨by simp, by simp⟩, by simp, by simp, by simp, by simp⟩
theorem enabled_nd {p : GProg} {s : GState} (h5 : s.Threads.length ≤ 5) : ∀ (n k : Nat) (a r : List Int), k ≤ s.Threads.length → s.Threads.length < n + k → a.length ≤ k → a.Nodup → (∀ x ∈ a, x < k) → spec_l3Enabled_l0 s n p s a k = some r → r.Nodup
  | 0, k, a, r, h1, h2, _, _, _, h => by omega
  | n + 1, k, a, r, h1, h2, hl, hn, hlt, h => by
    rw [spec_l3Enabled_l0] at h
    by_cases hk : k < s.Threads.length
    · have go1 := enabled_nd (p := p) h5 n (k + 1) a r hk (by omega) (by omega) hn (fun x hx => by have := hlt x hx; omega)
      have go2 := enabled_nd (p := p) h5 n (k + 1) (a ++ [(k : Int)]) r hk (by omega) (by simp; omega) (by
        rw [List.nodup_append]
        exact ⟨hn, by simp, fun x hx y hy => by simp at hy; subst hy; have := hlt x hx; omega⟩) (fun x hx => by
        rcases List.mem_append.1 hx with hx | hx
        · have := hlt x hx; omega
        · simp at hx; omega)
      simp only [PS, hk, rd_at hk, w64_s (k := k) (by omega), app_ok (a := a) (b := [(k : Int)]) (by simp; omega)] at h
      have hb : ∀ (X : Option GState), True := fun _ => trivial
      split at h
      · split at h
        · cases hB : spec_l3Blocks p s s.Threads[k] with
          | none => rw [hB] at h; cases h
          | some b =>
            rw [hB] at h
            simp only [Option.bind_some] at h
            split at h
            · exact go2 h
            · exact go1 h
        · split at h
          · cases hB : spec_l3Blocks p s s.Threads[k] with
            | none => rw [hB] at h; cases h
            | some b =>
              rw [hB] at h
              simp only [Option.bind_some] at h
              split at h
              · exact go2 h
              · exact go1 h
          · exact go1 h
      · exact go1 h
    · have : k = s.Threads.length := by omega
      subst this
      simp only [PS, Nat.lt_irrefl] at h
      cases h
      exact hn
theorem enab {p : GProg} {s : GState} (hR : RG p s) : ∃ e : List Int, spec_l3Enabled p s = some e ∧ impl_State_enabled s p = some e ∧ e.length ≤ 5 ∧ (∀ x ∈ e, Go1 p s x) ∧ e.Nodup := by
 have h5 := hR.n5
 obtain ⟨e, e1, e2, e3, e4⟩ := enabled_m hR.tg h5 FU 0 [] (by omega) (FU_gt (by omega)) (by simp) (by simp)
 have nd := enabled_nd (p := p) h5 FU 0 [] e (by omega) (FU_gt (by omega)) (by simp) (by simp) (by simp) e1
 rw [show ((0 : Nat) : Int) = 0 from rfl] at e1 e2
 exact ⟨e, by rw [spec_l3Enabled]; exact e1, by rw [impl_State_enabled]; exact e2, by omega, e4, nd⟩
theorem rest_spec {s : GState} (h5 : s.Threads.length ≤ 5) : ∀ (n k : Nat), k ≤ s.Threads.length → s.Threads.length < n + k → spec_l4Code_l0 s n k = some (if (s.Threads.drop k).any (fun t => t.State != 2) = true then 3 else 1)
 | 0, k, h1, h2 => by omega
 | n + 1, k, h1, h2 => by
  rw [spec_l4Code_l0]
  by_cases hk : k < s.Threads.length
  ·rw [List.drop_eq_getElem_cons hk, List.any_cons]
   simp only [PS, hk, rd_at hk, w64_s (k := k) (by omega), rest_spec h5 n (k + 1) hk (by omega)]
   cases hs : (s.Threads[k].State != 2) <;> simp
  ·have : k = s.Threads.length := by omega
   subst this
   simp
def codeF (s : GState) (e : List Int) (i n : Int) : Int := if s.Fault ≠ 0 then 2 else if e.length = 0 then (if s.Threads.any (fun t => t.State != 2) = true then 3 else 1) else if i = n then 4 else 0
theorem code_spec {p : GProg} {s : GState} (h5 : s.Threads.length ≤ 5) {e : List Int} (he : spec_l3Enabled p s = some e) (i n : Int) : spec_l4Code p s i n = some (codeF s e i n) := by
 rw [spec_l4Code, he]
 unfold codeF
 by_cases hf : s.Fault = 0
 ·have := rest_spec h5 FU 0 (by omega) (FU_gt (by omega))
  rw [List.drop_zero] at this
  rw [show ((0 : Nat) : Int) = 0 from rfl] at this
  by_cases hl : e.length = 0
  ·have : e = [] := List.eq_nil_of_length_eq_zero hl
   subst this
   simp [hf, this]
  ·have hl' : ((e.length : Int) == 0) = false := by rw [beq_eq_false_iff_ne]; omega
   have hf' : (s.Fault != 0) = false := by simp [hf]
   simp only [hf', Bool.false_eq_true, if_false, Option.bind_some, hl', hl]
   by_cases hi : i = n <;> simp [hi, hf]
 ·simp [hf]
theorem code_impl {p : GProg} {s : GState} (h5 : s.Threads.length ≤ 5) (e : List Int) (i n : Int) : impl_codeOf p s e i n = some (codeF s e i n) := by
 obtain ⟨r, e1, e2⟩ := findL (p := s.Threads) (t := fun t => impl_codeOf_1 t) (q := fun t => t.State != 2) (F := slices_IndexFunc_Thread_Thread__impl_codeOf_1_l0 s.Threads) (by intros; rw [slices_IndexFunc_Thread_Thread__impl_codeOf_1_l0]) (by omega) (fun t _ => rfl)
 have e3 : slices_ContainsFunc_Thread_Thread__impl_codeOf_1 s.Threads = some (s.Threads.any (fun t => t.State != 2)) := by
  rw [slices_ContainsFunc_Thread_Thread__impl_codeOf_1, slices_IndexFunc_Thread_Thread__impl_codeOf_1, e1]
  simp only [PS, e2]
 rw [impl_codeOf, e3]
 unfold codeF
 by_cases hf : s.Fault = 0
 ·by_cases hl : e.length = 0
  ·have : e = [] := List.eq_nil_of_length_eq_zero hl
   subst this
   cases s.Threads.any (fun t => t.State != 2) <;> simp [hf]
  ·have hl' : ((e.length : Int) == 0) = false := by rw [beq_eq_false_iff_ne]; omega
   have hf' : (s.Fault != 0) = false := by simp [hf]
   simp only [hf', Bool.false_eq_true, if_false, hl', hl]
   by_cases hi : i = n <;> simp [hi, hf]
 ·simp [hf]
end Go.Proofs.YtjcaompblpglcaaGreat
