/- Plain facts for FnExactSharedLocks; no condition. -/

import Derived.Test.YthhcnmideecfpaaL3
set_option linter.unusedVariables false
namespace Go.Proofs.Ythhcnmideecfpaa
open Go Go.T

theorem takes_both {e : GEvent} (h : goodE e = true) : (∃ s t, spec_l6Takes e = some s ∧ impl_Event_takes e = some t ∧ decide (s ≥ 0) = false ∧ decide (t ≥ 0) = false) ∨ (∃ t, spec_l6Takes e = some t ∧ impl_Event_takes e = some t ∧ 0 ≤ t ∧ t ≤ 99) := by
  unfold goodE at h
  simp only [Bool.and_eq_true, Bool.or_eq_true, Bool.not_eq_true', bne_iff_ne, decide_eq_true_eq, inr, Bool.and_eq_false_iff, decide_eq_false_iff_not] at h
  unfold spec_l6Takes impl_Event_takes
  by_cases h4 : e.Kind = 4
  · right; exact ⟨e.Obj, by simp [h4], by simp [h4], by omega, by omega⟩
  · by_cases h9 : e.Kind = 9
    · right; exact ⟨e.Lock, by simp [h9], by simp [h9], by omega, by omega⟩
    · left; exact ⟨-3, -1, by simp [h4, h9], by simp [h4, h9], by decide, by decide⟩
theorem gives_both {e : GEvent} (h : goodE e = true) : (∃ s t, spec_l6Gives e = some s ∧ impl_Event_gives e = some t ∧ decide (s ≥ 0) = false ∧ decide (t ≥ 0) = false) ∨ (∃ t, spec_l6Gives e = some t ∧ impl_Event_gives e = some t ∧ 0 ≤ t ∧ t ≤ 99) := by
  unfold goodE at h
  simp only [Bool.and_eq_true, Bool.or_eq_true, Bool.not_eq_true', bne_iff_ne, decide_eq_true_eq, inr, Bool.and_eq_false_iff, decide_eq_false_iff_not] at h
  unfold spec_l6Gives impl_Event_gives
  by_cases h4 : e.Kind = 5
  · right; exact ⟨e.Obj, by simp [h4], by simp [h4], by omega, by omega⟩
  · by_cases h9 : e.Kind = 8
    · right; exact ⟨e.Lock, by simp [h9], by simp [h9], by omega, by omega⟩
    · left; exact ⟨-2, -1, by simp [h4, h9], by simp [h4, h9], by decide, by decide⟩

theorem ls_put {v : Vector Bool 100} {r : Int} (h0 : 0 ≤ r) (h1 : r ≤ 99) : spec_l1Put (ls (mks v) 0 100) r = some (ls (mks (v.setIfInBounds r.toNat true)) 0 100) := by
  have := ls_len (mks v) 100 0
  rw [put_eq (by omega), mks_set h0 h1, ← put_ls (r := r.toNat) 100 0 (by omega) (by omega)]
  congr 2; omega
theorem ls_drop {v : Vector Bool 100} {r : Int} (h0 : 0 ≤ r) (h1 : r ≤ 99) : spec_l7Drop (ls (mks v) 0 100) r = some (ls (mks (v.setIfInBounds r.toNat false)) 0 100) := by
  have := ls_len (mks v) 100 0
  rw [drop_eq (by omega), mks_set h0 h1, ← drop_ls (r := r.toNat) 100 0]
  have : ((r.toNat : Nat) : Int) = r := by omega
  rw [this]
theorem held_sim {p l : List GEvent} {i : Int} {x0 : GEvent} (hx : rd p i = some x0) (hl : l.length < 1000000) (hg : l.all goodE = true) : ∀ (n k : Nat) (v : Vector Bool 100), k ≤ l.length → l.length < n + k → ∃ r, spec_l7Held_l0 p i l n (ls (mks v) 0 100) k = some r ∧ impl_held_l0 x0.Thread l n v k = some r ∧ r.length ≤ 100
  | 0, k, v, h1, h2 => by omega
  | n + 1, k, v, h1, h2 => by
    rw [spec_l7Held_l0, impl_held_l0]
    by_cases hk : k < l.length
    · have hge : goodE l[k] = true := List.all_eq_true.1 hg _ (List.getElem_mem hk)
      simp only [PS, hk, rd_at hk, hx, w64_s (k := k) (by omega)]
      by_cases ht : l[k].Thread = x0.Thread
      · have ht' : (l[k].Thread != x0.Thread) = false := by simp [ht]
        simp only [PS, ht']
        have second : ∀ v : Vector Bool 100, ∃ r, spec_l7Held_j1 (spec_l7Held_l0 p i l n) p i l k (ls (mks v) 0 100) l[k] = some r ∧ impl_held_j1 (impl_held_l0 x0.Thread l n) x0.Thread l k v l[k] = some r ∧ r.length ≤ 100 := by
          intro v
          rw [spec_l7Held_j1, impl_held_j1]
          rcases gives_both hge with ⟨s, t, e1, e2, e3, e4⟩ | ⟨t, e1, e2, e3, e4⟩
          · simp only [PS, e1, e2, e3, e4, w64_s (k := k) (by omega)]
            exact held_sim hx hl hg n (k + 1) v hk (by omega)
          · have e5 : decide (t ≥ 0) = true := by simpa using e3
            simp only [PS, e1, e2, e5, ls_drop e3 e4, rdv_ok (v := v) e3 (by omega), w64_s (k := k) (by omega)]
            exact held_sim hx hl hg n (k + 1) _ hk (by omega)
        rcases takes_both hge with ⟨s, t, e1, e2, e3, e4⟩ | ⟨t, e1, e2, e3, e4⟩
        · simp only [PS, e1, e2, e3, e4]
          exact second v
        · have e5 : decide (t ≥ 0) = true := by simpa using e3
          simp only [PS, e1, e2, e5, ls_put e3 e4, rdv_ok (v := v) e3 (by omega)]
          exact second _
      · have ht' : (l[k].Thread != x0.Thread) = true := by simp [ht]
        simp only [PS, ht']
        exact held_sim hx hl hg n (k + 1) v hk (by omega)
    · simp only [PS, hk]
      have := held_l2 (v := v) FU 0 [] (by omega) (by have := FU_gt (n := 100) (by omega); omega) (by simp)
      exact ⟨_, rfl, by simpa using this, ls_len _ _ _⟩
theorem ls_none (v : Vector Bool 100) : ∀ (m a : Nat), mks v = (fun _ => false) → ls (mks v) a m = []
  | 0, a, h => rfl
  | m + 1, a, h => by rw [ls, ls_none v m (a + 1) h]; simp [h]
theorem held_both {p : List GEvent} {i : Int} (hp : p.length < 1000000) (hg : p.all goodE = true) (h0 : 0 ≤ i) (h1 : i.toNat < p.length) : ∃ r, spec_l7Held p i = some r ∧ impl_held p p[i.toNat].Thread (w64 (i + 1)) = some r ∧ r.length ≤ 100 := by
  have hi : i = ((i.toNat : Nat) : Int) := by omega
  have hx : rd p i = some p[i.toNat] := rd_eq h0 (by simp [h1])
  have hs : slc p 0 (w64 (i + 1)) = some (p.take (i.toNat + 1)) := by
    rw [show w64 (i + 1) = ((i.toNat + 1 : Nat) : Int) by rw [w64_id (by omega)]; omega, slc_take (by omega)]
  rw [spec_l7Held, impl_held]
  simp only [PS, hs]
  have hm : mks (Vector.replicate 100 false) = fun _ => false := by
    funext i; unfold mks; by_cases h : i < 100 <;> simp [h]
  have := held_sim hx (l := p.take (i.toNat + 1)) (by simp; omega) (by
    rw [List.all_eq_true] at hg ⊢; exact fun x hx => hg x (List.mem_of_mem_take hx)) FU 0 (Vector.replicate 100 false) (by omega) (by have := FU_gt (n := (p.take (i.toNat + 1)).length) (by simp; omega); omega)
  rw [ls_none _ _ _ hm] at this
  simpa using this
end Go.Proofs.Ythhcnmideecfpaa
