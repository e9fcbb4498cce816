/- Plain facts for FnExactFastRace; no condition. -/

import Derived.Test.YthhcnmideecfpaaL0
set_option linter.unusedVariables false
set_option linter.unusedSimpArgs false
namespace Go.Proofs.Ythhcnmideecfpaa
open Go Go.T

/-- what a good event is -/
def goodE (e : GEvent) : Bool := inr e.Thread 0 4 && inr e.Kind 1 12 && inr e.Obj (-1) 99 && inr e.Lock (-1) 99 && inr e.Pc 0 99 && (!inr e.Kind 2 10 || decide (0 ≤ e.Obj)) && ((e.Kind != 8 && e.Kind != 9) || decide (0 ≤ e.Lock))
theorem spec_event_eq (e : GEvent) : spec_l6Event e = some (goodE e) := by
  unfold spec_l6Event spec_l6Event_j0 goodE
  simp only [spec_in_eq, Option.bind_some]
  generalize inr e.Thread 0 4 = b1
  generalize inr e.Kind 1 12 = b2
  generalize inr e.Kind 2 10 = b6
  generalize inr e.Obj (-1) 99 = b3
  generalize inr e.Lock (-1) 99 = b4
  generalize inr e.Pc 0 99 = b5
  by_cases h1 : e.Obj < 0
  · have h1' : ¬ 0 ≤ e.Obj := by omega
    by_cases h2 : e.Lock < 0
    · have h2' : ¬ 0 ≤ e.Lock := by omega
      by_cases h3 : e.Kind = 8
      · cases b1 <;> cases b2 <;> cases b3 <;> cases b4 <;> cases b5 <;> cases b6 <;> simp [h1, h1', h2, h2', h3]
      · by_cases h4 : e.Kind = 9
        · cases b1 <;> cases b2 <;> cases b3 <;> cases b4 <;> cases b5 <;> cases b6 <;> simp [h1, h1', h2, h2', h3, h4]
        · cases b1 <;> cases b2 <;> cases b3 <;> cases b4 <;> cases b5 <;> cases b6 <;> simp [h1, h1', h2, h2', h3, h4]
    · have h2' : 0 ≤ e.Lock := by omega
      by_cases h3 : e.Kind = 8
      · cases b1 <;> cases b2 <;> cases b3 <;> cases b4 <;> cases b5 <;> cases b6 <;> simp [h1, h1', h2, h2', h3]
      · by_cases h4 : e.Kind = 9
        · cases b1 <;> cases b2 <;> cases b3 <;> cases b4 <;> cases b5 <;> cases b6 <;> simp [h1, h1', h2, h2', h3, h4]
        · cases b1 <;> cases b2 <;> cases b3 <;> cases b4 <;> cases b5 <;> cases b6 <;> simp [h1, h1', h2, h2', h3, h4]
  · have h1' : 0 ≤ e.Obj := by omega
    by_cases h2 : e.Lock < 0
    · have h2' : ¬ 0 ≤ e.Lock := by omega
      by_cases h3 : e.Kind = 8
      · cases b1 <;> cases b2 <;> cases b3 <;> cases b4 <;> cases b5 <;> cases b6 <;> simp [h1, h1', h2, h2', h3]
      · by_cases h4 : e.Kind = 9
        · cases b1 <;> cases b2 <;> cases b3 <;> cases b4 <;> cases b5 <;> cases b6 <;> simp [h1, h1', h2, h2', h3, h4]
        · cases b1 <;> cases b2 <;> cases b3 <;> cases b4 <;> cases b5 <;> cases b6 <;> simp [h1, h1', h2, h2', h3, h4]
    · have h2' : 0 ≤ e.Lock := by omega
      by_cases h3 : e.Kind = 8
      · cases b1 <;> cases b2 <;> cases b3 <;> cases b4 <;> cases b5 <;> cases b6 <;> simp [h1, h1', h2, h2', h3]
      · by_cases h4 : e.Kind = 9
        · cases b1 <;> cases b2 <;> cases b3 <;> cases b4 <;> cases b5 <;> cases b6 <;> simp [h1, h1', h2, h2', h3, h4]
        · cases b1 <;> cases b2 <;> cases b3 <;> cases b4 <;> cases b5 <;> cases b6 <;> simp [h1, h1', h2, h2', h3, h4]
theorem impl_event_eq (e : GEvent) : impl_Event_isGood e = some (goodE e) := by
  unfold impl_Event_isGood impl_Event_isGood_j0 goodE
  simp only [impl_in_eq, Option.bind_some]
  generalize inr e.Thread 0 4 = b1
  generalize inr e.Kind 1 12 = b2
  generalize inr e.Kind 2 10 = b6
  generalize inr e.Obj (-1) 99 = b3
  generalize inr e.Lock (-1) 99 = b4
  generalize inr e.Pc 0 99 = b5
  by_cases h1 : 0 ≤ e.Obj <;> by_cases h2 : 0 ≤ e.Lock <;> by_cases h3 : e.Kind = 8
  all_goals first
    | (cases b1 <;> cases b2 <;> cases b3 <;> cases b4 <;> cases b5 <;> cases b6 <;> simp [h1, h2, h3]; done)
    | (by_cases h4 : e.Kind = 9 <;> cases b1 <;> cases b2 <;> cases b3 <;> cases b4 <;> cases b5 <;> cases b6 <;> simp [h1, h2, h3, h4]; done)

theorem spec_trace_l0 {p : List GEvent} (hp : p.length < 1099511627776) : ∀ (n k : Nat), k ≤ p.length → p.length < n + k → spec_l6Trace_l0 p n k = some ((p.drop k).all goodE && decide (p.length ≤ 200))
  | 0, k, h1, h2 => by omega
  | n + 1, k, h1, h2 => by
    rw [spec_l6Trace_l0]
    by_cases hk : k < p.length
    · rw [List.drop_eq_getElem_cons hk, List.all_cons]
      simp only [PS, hk, rd_at hk, w64_s (k := k) (by omega), spec_event_eq, spec_trace_l0 hp n (k + 1) hk (by omega)]
      cases goodE p[k] <;> simp
    · have : k = p.length := by omega
      subst this
      simp; omega
def goodT (p : List GEvent) : Bool := p.all goodE && decide (p.length ≤ 200)
theorem spec_trace_eq {p : List GEvent} (hp : p.length < 1099511627776) : spec_l6Trace p = some (goodT p) := by
  rw [spec_l6Trace]
  exact spec_trace_l0 hp FU 0 (by omega) (by have := FU_gt hp; omega)
theorem impl_index_l0 {p : List GEvent} (hp : p.length < 1099511627776) : ∀ (n k : Nat), k ≤ p.length → p.length < n + k → ∃ r : Int, slices_IndexFunc_Event_Event__impl_GoodTrace_1_l0 p n k = some r ∧ decide (r ≥ 0) = !(p.drop k).all goodE
  | 0, k, h1, h2 => by omega
  | n + 1, k, h1, h2 => by
    rw [slices_IndexFunc_Event_Event__impl_GoodTrace_1_l0]
    by_cases hk : k < p.length
    · rw [List.drop_eq_getElem_cons hk, List.all_cons]
      obtain ⟨r, e1, e2⟩ := impl_index_l0 hp n (k + 1) hk (by omega)
      simp only [PS, hk, rd_at hk, w64_s (k := k) (by omega), impl_GoodTrace_1, impl_event_eq, e1]
      cases goodE p[k]
      · refine ⟨k, by simp, by simp⟩
      · exact ⟨r, by simp, by simpa using e2⟩
    · have : k = p.length := by omega
      subst this
      exact ⟨-1, by simp, by simp⟩
theorem impl_trace_eq {p : List GEvent} (hp : p.length < 1099511627776) : impl_GoodTrace p = some (goodT p) := by
  rw [impl_GoodTrace]
  obtain ⟨r, e1, e2⟩ := impl_index_l0 hp FU 0 (by omega) (by have := FU_gt hp; omega)
  have e1' : slices_IndexFunc_Event_Event__impl_GoodTrace_1 p = some r := e1
  rw [slices_ContainsFunc_Event_Event__impl_GoodTrace_1, e1']
  by_cases h : p.length ≤ 200
  · have h' : (p.length : Int) ≤ 200 := by omega
    simp only [List.drop_zero] at e2
    simp [h', h, goodT, e2]
  · have h' : ¬ (p.length : Int) ≤ 200 := by omega
    simp [h', h, goodT]
end Go.Proofs.Ythhcnmideecfpaa
