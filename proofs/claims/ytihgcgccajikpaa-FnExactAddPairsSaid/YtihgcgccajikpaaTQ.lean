/- Lemmas for FnExactAddPairs; no condition. -/

import Derived.Test.YtihgcgccajikpaaTP
set_option linter.unusedVariables false
namespace Go.T
open Go Go.RowKit Go.Proofs

/- ------------------------------------------------ loops, over states that are written out -/
mutual
theorem renA_tree (π : List (Nat × Nat)) : ∀ a : AV, tree a = true → renA π a = a
  | .sl _ _ _, h => by simp [tree] at h
  | .ptr _ _ _, h => by simp [tree] at h
  | .agg cs, h => by simp only [tree] at h; simp only [renA, renL_tree π cs h]
  | .tup cs, h => by simp only [tree] at h; simp only [renA, renL_tree π cs h]
  | .fn g cs, h => by simp only [tree] at h; simp only [renA, renL_tree π cs h]
  | .dead, _ => rfl
  | .lit _, _ => rfl
  | .ro _ _, _ => rfl
  | .own _ _ _, _ => rfl
  | .rop _ _, _ => rfl
theorem renL_tree (π : List (Nat × Nat)) : ∀ cs : List AV, treeL cs = true → renL π cs = cs
  | [], _ => rfl
  | c :: cs, h => by
    simp only [treeL, Bool.and_eq_true] at h
    simp only [renL, renA_tree π c h.1, renL_tree π cs h.2]
end
theorem renLL_tree (π : List (Nat × Nat)) : ∀ xs : List (List AV), treeLL xs = true → renLL π xs = xs
  | [], _ => rfl
  | x :: xs, h => by
    simp only [treeLL, List.all_cons, Bool.and_eq_true] at h
    have := renLL_tree π xs h.2
    simp only [renLL] at this
    simp only [renLL, List.map_cons, renL_tree π x h.1, this]

def okSlR (s : St) (π : List (Nat × Nat)) : List (Nat × AV) → Prop
  | [] => True
  | (t, v) :: r => renA π (s.get t) = v ∧ okSlR s π r
/-- rows that a renaming leaves as they are -/
def RenOK (π : List (Nat × Nat)) (xs : List (List AV)) : Prop := treeLL xs = true ∨ renLL π xs = xs
theorem RenOK.eq {π : List (Nat × Nat)} {xs : List (List AV)} (h : RenOK π xs) : renLL π xs = xs := h.elim (renLL_tree π xs) id
def okRt (s : St) (π : List (Nat × Nat)) : List (Nat × Nat × Root) → Prop
  | [] => True
  | (i, _, R) :: r => (s.root i = some R ∧ RenOK π R.xs) ∧ okRt s π r
def piR (l : List (Nat × Nat × Root)) : List (Nat × Nat) := l.map fun x => (x.1, x.2.1)
def ndB : List Nat → Bool
  | [] => true
  | x :: l => !l.contains x && ndB l
theorem ndB_iff : ∀ {l : List Nat}, ndB l = true → l.Nodup
  | [], _ => List.nodup_nil
  | x :: l, h => by
    simp only [ndB, Bool.and_eq_true, Bool.not_eq_true'] at h
    exact List.nodup_cons.2 ⟨by simpa using h.1, ndB_iff h.2⟩
def okPi (π : List (Nat × Nat)) : Bool := ndB (π.map (·.1)) && ndB (π.map (·.2)) && !(π.map (·.2)).contains JJ && !(π.map (·.1)).contains JJ
theorem okSlR_get {s : St} {π : List (Nat × Nat)} : ∀ {l : List (Nat × AV)}, okSlR s π l → ∀ t v, l.lookup t = some v → renA π (s.get t) = v
  | [], _, t, v, h => by simp at h
  | (x, u) :: r, ⟨h1, h2⟩, t, v, h => by
    by_cases e : t = x
    · subst e; rw [lookup_cons_same] at h; cases h; exact h1
    · rw [lookup_cons_ne e] at h; exact okSlR_get h2 t v h
theorem okRt_map {s : St} {π : List (Nat × Nat)} : ∀ {l : List (Nat × Nat × Root)}, okRt s π l → (piR l).map (fun p => (p.2, (s.root p.1).map (renR π))) = l.map (fun x => (x.2.1, some x.2.2))
  | [], _ => rfl
  | (i, j, R) :: r, ⟨⟨h1, h2⟩, h3⟩ => by
    have := okRt_map (π := π) h3
    simp only [piR] at this
    simp only [piR, List.map_cons, this, h1, Option.map_some, renR, h2.eq]
/-- a state that is written out, from one that knows it (and more) -/
def fxB (f : List (Nat × Value)) (π : List (Nat × Nat)) : Bool := f.all fun p => π.lookup p.1 == some p.1
theorem fxB_iff {f : List (Nat × Value)} {π : List (Nat × Nat)} (h : fxB f π = true) : ∀ p, p ∈ f → π.lookup p.1 = some p.1 := by
  simp only [fxB, List.all_eq_true] at h
  intro p hp
  simpa using h p hp
theorem ent_to (E : Env) {s : St} (l : List (Nat × AV)) (rts : List (Nat × Nat × Root)) (hπ : okPi (piR rts) = true) (hfx : fxB E.fx (piR rts) = true) (hsl : okSlR s (piR rts) l) (hrt : okRt s (piR rts) rts) :
    Ent E s ⟨l, rts.map (fun x => (x.2.1, some x.2.2)), (piR rts).map (·.2) ++ [JJ]⟩ := by
  simp only [okPi, Bool.and_eq_true, Bool.not_eq_true'] at hπ
  obtain ⟨⟨⟨h1, h2⟩, hJ⟩, hJ1⟩ := hπ
  refine (ent_ren E s (piR rts) (l.map (·.1)) (ndB_iff h1) (ndB_iff h2) (by simpa using hJ) (by simpa using hJ1) (fxB_iff hfx)).trans ?_
  rintro a w ⟨χ, hd, hr⟩
  refine ⟨χ, hd, hr.weak (fun t => ?_) (fun i => ?_) rfl⟩
  · simp only [St.get]
    cases hl : l.lookup t with
    | none => right; rfl
    | some v =>
      left
      have hv := okSlR_get hsl t v hl
      have hm : t ∈ l.map (·.1) := List.mem_map.2 ⟨_, lookup_memP hl, rfl⟩
      show v = (((l.map (·.1)).map (fun t => (t, renA (piR rts) (s.get t)))).lookup t).getD .dead
      rw [lookup_map (fun t => renA (piR rts) (s.get t)), if_pos hm]
      exact hv.symm
  · have := okRt_map (π := piR rts) hrt
    simp only [St.root] at this
    simp only [St.root, St.ren]
    rw [this]
theorem twp_to {E : Env} {c : Code} {Q : Exit → St → Prop} {s : St} (l : List (Nat × AV)) (rts : List (Nat × Nat × Root)) (hπ : okPi (piR rts) = true) (hfx : fxB E.fx (piR rts) = true) (hsl : okSlR s (piR rts) l) (hrt : okRt s (piR rts) rts)
    (h : TWp E c Q ⟨l, rts.map (fun x => (x.2.1, some x.2.2)), (piR rts).map (·.2) ++ [JJ]⟩) : TWp E c Q s := twp_ent (ent_to E l rts hπ hfx hsl hrt) h

/-- a loop: its states by what changes, and a number that every round lowers -/
theorem twp_loopE {E : Env} {c : Code} {Q : Exit → St → Prop} {s : St} {σ : Type} (L : σ → St) (P : σ → Prop) (μ : σ → Nat) (x0 : σ) (h0 : P x0) (he : Ent E s (L x0))
    (round : ∀ x, P x → TWp E c (thn (fun s' => ∃ y, μ y < μ x ∧ P y ∧ Ent E s' (L y)) Q) (L x)) : TWp E (.loop c) Q s := by
  intro a w hr
  refine wp_loop_ghost (fun n a w => ∃ x, μ x = n ∧ P x ∧ Rel E (L x) a w) (μ x0) ⟨x0, rfl, h0, he a w hr⟩ ?_
  rintro n a w ⟨x, rfl, hP, hr⟩
  refine wp_mono (round x hP a w hr) ?_
  rintro e a' w' ⟨s', h1, h2⟩
  cases e with
  | normal =>
    obtain ⟨y, hy, hP', he'⟩ := h1
    exact ⟨μ y, hy, y, rfl, hP', he' a' w' h2⟩
  | _ => exact ⟨s', h1, h2⟩
end Go.T
