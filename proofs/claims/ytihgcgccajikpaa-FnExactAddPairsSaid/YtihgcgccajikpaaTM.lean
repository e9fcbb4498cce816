/- Lemmas for FnExactAddPairs; no condition. -/

import Derived.Test.YtihgcgccajikpaaTL
set_option linter.unusedVariables false
namespace Go.T
open Go Go.RowKit Go.Proofs

/- ------------------------------------------------ forgetting -/
def St.keep (s : St) (l : List Nat) : St := ⟨l.map fun t => (t, s.get t), s.rt, s.us⟩
theorem lookup_map {α : Type} (g : Nat → α) : ∀ (l : List Nat) (t : Nat), (l.map fun t => (t, g t)).lookup t = if t ∈ l then some (g t) else none
  | [], t => by simp
  | x :: l, t => by
    rw [List.map_cons]
    by_cases h : t = x
    · subst h; rw [lookup_cons_same]; simp
    · rw [lookup_cons_ne h, lookup_map g l t]
      simp [h]
theorem St.get_keep (s : St) (l : List Nat) (t : Nat) : (s.keep l).get t = if t ∈ l then s.get t else .dead := by
  unfold St.keep
  show ((l.map fun t => (t, s.get t)).lookup t).getD .dead = _
  rw [lookup_map]
  split <;> rfl

/-- what is known becomes less -/
theorem Rel0.weak {E : Env} {s s2 : St} {a : Act} {w : World} {χ : Nat → Option Nat} {hd : Nat → Value} (h : Rel0 E s a w χ hd) (hg : ∀ t, s2.get t = s.get t ∨ s2.get t = .dead) (hr : ∀ i, s2.root i = s.root i) (hu : s2.us = s.us) : Rel0 E s2 a w χ hd := by
  have ht : tab s2 hd = tab s hd := by funext i; simp [tab, hr]
  refine ⟨h.defers, h.size, h.os, h.tape, h.output, h.hsz, h.frame, by rw [hu]; exact h.fx, by rw [hu]; exact h.jj, by rw [hr]; exact h.rj, h.jk, h.col, ?_, ?_⟩
  · intro i R hR
    rw [hr] at hR
    rw [hu, ht]
    exact h.rts i R hR
  · intro t
    rw [hu, ht]
    rcases hg t with e | e
    · rw [e]; exact h.slots t
    · rw [e]; exact repR_dead _
theorem ent_keep (E : Env) (s : St) (l : List Nat) : Ent E s (s.keep l) := by
  rintro a w ⟨χ, hd, h⟩
  refine ⟨χ, hd, h.weak (fun t => ?_) (fun _ => rfl) rfl⟩
  rw [St.get_keep]
  split
  · exact .inl rfl
  · exact .inr rfl
def okSl (s : St) : List (Nat × AV) → Prop
  | [] => True
  | (t, v) :: r => s.get t = v ∧ okSl s r
theorem okSl_get {s : St} : ∀ {l : List (Nat × AV)}, okSl s l → ∀ t, ((l.lookup t).getD .dead) = s.get t ∨ ((l.lookup t).getD .dead) = .dead
  | [], _, t => by simp
  | (x, v) :: r, ⟨h1, h2⟩, t => by
    by_cases e : t = x
    · subst e; rw [lookup_cons_same]; left; exact h1.symm
    · rw [lookup_cons_ne e]; exact okSl_get h2 t
/-- the slots that are named hold what is named; the roots stay -/
theorem ent_sl (E : Env) {s : St} {l : List (Nat × AV)} (h : okSl s l) : Ent E s ⟨l, s.rt, s.us⟩ := by
  rintro a w ⟨χ, hd, hr⟩
  exact ⟨χ, hd, hr.weak (fun t => okSl_get h t) (fun _ => rfl) rfl⟩

theorem twp_regN {E : Env} {id : Nat} {ops : Array Oper} {y : Code} {Q : Exit → St → Prop} {s s1 s2 : St} (l : List Nat) (h : RegTo E ops ops.toList s s1) (hk : s1.keep l = s2) (hq : TWp E y Q s2) : TWp E (.seq (.region id ops false) y) Q s :=
  twp_reg h (twp_ent (ent_keep E s1 l) (by rw [hk]; exact hq))

theorem litB {a b : Bool} (h : a = b) : AV.lit (.bool a) = AV.lit (.bool b) := by rw [h]
/-- a test that decides whether an operation is done at all -/
theorem RegTo.split {E : Env} {ops : Array Oper} {o : Oper} {rest : List Oper} {s s2 : St} {c : Bool} (h : c = true → RegTo E ops (o :: rest) s s2) (k : c = false → RegTo E ops (o :: rest) s s2) : RegTo E ops (o :: rest) s s2 := by
  cases c
  · exact k rfl
  · exact h rfl
end Go.T
