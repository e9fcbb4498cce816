/- Lemmas for FnExactAddPairs; no condition. -/

import Derived.Test.YtihgcgccajikpaaBM
set_option linter.unusedVariables false
namespace Go.T
open Go Go.RowKit Go.Proofs

/-- a loop at its head, its first step done -/
def LWw (P : Program) (c : Code) (Q : Exit → Act → World → Prop) (a : Act) (w : World) : Prop :=
  ∀ (b : Frame) (k : List Item) (cs : List Frame), ∃ e a' w', Q e a' w' ∧ Arrives P (lone (b.at a (.code c :: .inLoop c :: k)) cs w) b k cs e a' w'
theorem lww_loop {P : Program} {c : Code} {Q : Exit → Act → World → Prop} {a : Act} {w : World} (h : LWw P c Q a w) : (Code.loop c).wp P Q a w := by
  intro b k cs
  obtain ⟨e, a', w', hq, harr⟩ := h b k cs
  exact ⟨e, a', w', hq, .of_steps (.one step_loop) harr⟩
theorem lww_round {P : Program} {c : Code} {Q : Exit → Act → World → Prop} {a : Act} {w : World} (h : c.wp P (Exit.then (LWw P c Q) Q) a w) : LWw P c Q a w := by
  intro b k cs
  obtain ⟨e, a₁, w₁, hq, harr⟩ := h b (.inLoop c :: k) cs
  cases e with
  | normal =>
    obtain ⟨e₂, a₂, w₂, hq₂, harr₂⟩ := hq b k cs
    exact ⟨e₂, a₂, w₂, hq₂, .of_steps (Steps.trans harr (.one step_inLoop)) harr₂⟩
  | exit id => exact ⟨_, a₁, w₁, hq, .pass (x := .inLoop c) rfl (fun _ _ => .inl (by simp)) harr⟩
  | goto l => exact ⟨_, a₁, w₁, hq, .pass (x := .inLoop c) rfl (fun _ _ => .inl (by simp)) harr⟩
  | ret => exact ⟨_, a₁, w₁, hq, .pass (x := .inLoop c) rfl (fun _ _ => .inl (by simp)) harr⟩
  | panic ch => exact ⟨_, a₁, w₁, hq, .pass (x := .inLoop c) rfl (fun _ _ => .inl (by simp)) harr⟩
  | outgrown => exact ⟨_, a₁, w₁, hq, .pass (x := .inLoop c) rfl (fun _ _ => .inl (by simp)) harr⟩
def LW (E : Env) (c : Code) (Q : Exit → St → Prop) (s : St) : Prop := ∀ a w, Rel E s a w → LWw E.P c (fun e a' w' => ∃ s', Q e s' ∧ Rel E s' a' w') a w
theorem lw_loop {E : Env} {c : Code} {Q : Exit → St → Prop} {s : St} (h : LW E c Q s) : TWp E (.loop c) Q s := fun a w hr => lww_loop (h a w hr)
theorem lw_round {E : Env} {c : Code} {Q : Exit → St → Prop} {s : St} (h : TWp E c (thn (LW E c Q) Q) s) : LW E c Q s := by
  intro a w hr
  refine lww_round (wp_mono (h a w hr) ?_)
  rintro e a' w' ⟨s', h1, h2⟩
  cases e with
  | normal => exact h1 a' w' h2
  | _ => exact ⟨s', h1, h2⟩

/- ------------------------------------------------ places in a code -/
def cAt : Code → List Bool → Option Code
  | c, [] => some c
  | .seq a _, false :: p => cAt a p
  | .seq _ b, true :: p => cAt b p
  | .cond _ a _, false :: p => cAt a p
  | .cond _ _ b, true :: p => cAt b p
  | .block _ b, false :: p => cAt b p
  | .loop b, false :: p => cAt b p
  | _, _ => none
def kAt (E : Env) : Code → List Bool → (Exit → St → Prop) → Exit → St → Prop
  | _, [], Q => Q
  | .seq a b, false :: p, Q => kAt E a p (thn (TWp E b Q) Q)
  | .seq _ b, true :: p, Q => kAt E b p Q
  | .cond _ a _, false :: p, Q => kAt E a p Q
  | .cond _ _ b, true :: p, Q => kAt E b p Q
  | .block id b, false :: p, Q => kAt E b p (inB id Q)
  | .loop b, false :: p, Q => kAt E b p (thn (LW E b Q) Q)
  | _, _, Q => Q
/-- the place behind a piece that is through; none: all is through -/
def nxt : Code → List Bool → Option (List Bool)
  | _, [] => none
  | .seq a _, false :: p => match nxt a p with
    | some q => some (false :: q)
    | none => some [true]
  | .seq _ b, true :: p => (nxt b p).map (true :: ·)
  | .cond _ a _, false :: p => (nxt a p).map (false :: ·)
  | .cond _ _ b, true :: p => (nxt b p).map (true :: ·)
  | .block _ b, false :: p => (nxt b p).map (false :: ·)
  | .loop b, false :: p => match nxt b p with
    | some q => some (false :: q)
    | none => some []
  | _, _ => none
/-- the place to which an exit leads -/
def ext (id : Nat) : Code → List Bool → Option (Option (List Bool))
  | _, [] => none
  | .seq a _, false :: p => match ext id a p with
    | some (some q) => some (some (false :: q))
    | some none => some (some [true])
    | none => none
  | .seq _ b, true :: p => (ext id b p).map (Option.map (true :: ·))
  | .cond _ a _, false :: p => (ext id a p).map (Option.map (false :: ·))
  | .cond _ _ b, true :: p => (ext id b p).map (Option.map (true :: ·))
  | .block i b, false :: p => match ext id b p with
    | some q => some (q.map (false :: ·))
    | none => if id = i then some none else none
  | .loop b, false :: p => match ext id b p with
    | some (some q) => some (some (false :: q))
    | some none => some (some [])
    | none => none
  | _, _ => none
def WAt (E : Env) (c : Code) (Q : Exit → St → Prop) (p : List Bool) (s : St) : Prop :=
  match cAt c p with
  | some (.loop b) => LW E b (kAt E c p Q) s
  | some d => TWp E d (kAt E c p Q) s
  | none => False
theorem wAt_twp {E : Env} {c d : Code} {Q : Exit → St → Prop} {p : List Bool} {s : St} (hc : cAt c p = some d) (h : WAt E c Q p s) : TWp E d (kAt E c p Q) s := by
  unfold WAt at h
  rw [hc] at h
  split at h
  · rename_i hd; cases hd; exact lw_loop h
  · rename_i hd; cases hd; exact h
  · cases ‹some d = none›
theorem wAt_of {E : Env} {c d : Code} {Q : Exit → St → Prop} {p : List Bool} {s : St} (hc : cAt c p = some d) (hd : ∀ b, d ≠ .loop b) (h : TWp E d (kAt E c p Q) s) : WAt E c Q p s := by
  unfold WAt
  rw [hc]
  split
  · rename_i he; cases he; exact absurd rfl (hd _)
  · rename_i he; cases he; exact h
  · cases ‹some d = none›
theorem wAt_root {E : Env} {c : Code} {Q : Exit → St → Prop} {s : St} (h : WAt E c Q [] s) : TWp E c Q s := by
  have h1 : cAt c [] = some c := by cases c <;> rfl
  have h2 : kAt E c [] Q = Q := by cases c <;> rfl
  have := wAt_twp h1 h
  rwa [h2] at this
def WN (E : Env) (c : Code) (Q : Exit → St → Prop) (p : Option (List Bool)) (s : St) : Prop :=
  match p with
  | some p => WAt E c Q p s
  | none => Q .normal s
theorem wAt_map {E : Env} {c d : Code} {Q Q' : Exit → St → Prop} {b : Bool} (hc : ∀ p, cAt c (b :: p) = cAt d p) (hk : ∀ p, kAt E c (b :: p) Q = kAt E d p Q') (hq : ∀ s, Q .normal s → Q' .normal s) {p : Option (List Bool)} {s : St} (h : WN E c Q (p.map (b :: ·)) s) : WN E d Q' p s := by
  cases p with
  | none => exact hq s h
  | some p =>
    simp only [Option.map_some, WN, WAt, hc, hk] at h ⊢
    exact h
theorem nxt_sound {E : Env} : ∀ {c : Code} {p : List Bool} {Q : Exit → St → Prop} {s : St}, WN E c Q (nxt c p) s → kAt E c p Q .normal s
  | c, [], Q, s, h => by cases c <;> exact h
  | .seq a b, false :: p, Q, s, h => by
    simp only [kAt]
    refine nxt_sound ?_
    simp only [nxt] at h
    cases hn : nxt a p with
    | none =>
      rw [hn] at h
      have := wAt_twp (d := b) (by cases b <;> rfl) h
      have h2 : kAt E (.seq a b) [true] Q = Q := by cases b <;> rfl
      rw [h2] at this
      exact this
    | some q => rw [hn] at h; exact h
  | .seq a b, true :: p, Q, s, h => by simp only [kAt]; exact nxt_sound (wAt_map (fun _ => rfl) (fun _ => rfl) (fun _ h => h) h)
  | .cond _ a b, false :: p, Q, s, h => by simp only [kAt]; exact nxt_sound (wAt_map (fun _ => rfl) (fun _ => rfl) (fun _ h => h) h)
  | .cond _ a b, true :: p, Q, s, h => by simp only [kAt]; exact nxt_sound (wAt_map (fun _ => rfl) (fun _ => rfl) (fun _ h => h) h)
  | .block id b, false :: p, Q, s, h => by simp only [kAt]; simp only [nxt] at h; exact nxt_sound (wAt_map (c := .block id b) (Q := Q) (Q' := inB id Q) (fun _ => rfl) (fun _ => rfl) (fun _ h => h) h)
  | .loop b, false :: p, Q, s, h => by
    simp only [kAt]
    refine nxt_sound ?_
    simp only [nxt] at h
    cases hn : nxt b p with
    | none => rw [hn] at h; exact h
    | some q => rw [hn] at h; exact h
  | .block id b, true :: p, Q, s, h => by simpa only [kAt, nxt, WN] using h
  | .loop b, true :: p, Q, s, h => by simpa only [kAt, nxt, WN] using h
  | .skip, _ :: _, Q, s, h => by simpa only [kAt, nxt, WN] using h
  | .region _ _ _, _ :: _, Q, s, h => by simpa only [kAt, nxt, WN] using h
  | .rangeFunc _ _ _ _, _ :: _, Q, s, h => by simpa only [kAt, nxt, WN] using h
  | .exit _, _ :: _, Q, s, h => by simpa only [kAt, nxt, WN] using h
  | .scope _, _ :: _, Q, s, h => by simpa only [kAt, nxt, WN] using h
  | .label _, _ :: _, Q, s, h => by simpa only [kAt, nxt, WN] using h
  | .goto _, _ :: _, Q, s, h => by simpa only [kAt, nxt, WN] using h
  | .ret, _ :: _, Q, s, h => by simpa only [kAt, nxt, WN] using h
  | .refuse _, _ :: _, Q, s, h => by simpa only [kAt, nxt, WN] using h
/-- exits pass a continuation -/
theorem exit_thn {id : Nat} {k : St → Prop} {Q : Exit → St → Prop} {s : St} : thn k Q (.exit id) s = Q (.exit id) s := rfl
theorem ext_sound {E : Env} {id : Nat} : ∀ {c : Code} {p : List Bool} {Q : Exit → St → Prop} {s : St} {q : Option (List Bool)}, ext id c p = some q → WN E c Q q s → kAt E c p Q (.exit id) s
  | c, [], Q, s, q, h, _ => by cases c <;> simp [ext] at h
  | .seq a b, false :: p, Q, s, q, h, hw => by
    simp only [kAt]
    simp only [ext] at h
    split at h
    · rename_i q' he; cases h; exact ext_sound he hw
    · rename_i he
      cases h
      refine ext_sound he ?_
      have := wAt_twp (d := b) (by cases b <;> rfl) hw
      have h2 : kAt E (.seq a b) [true] Q = Q := by cases b <;> rfl
      rw [h2] at this
      exact this
    · cases h
  | .seq a b, true :: p, Q, s, q, h, hw => by
    simp only [kAt]
    simp only [ext, Option.map_eq_some_iff] at h
    obtain ⟨q', he, rfl⟩ := h
    exact ext_sound he (wAt_map (fun _ => rfl) (fun _ => rfl) (fun _ h => h) hw)
  | .cond _ a b, false :: p, Q, s, q, h, hw => by
    simp only [kAt]
    simp only [ext, Option.map_eq_some_iff] at h
    obtain ⟨q', he, rfl⟩ := h
    exact ext_sound he (wAt_map (fun _ => rfl) (fun _ => rfl) (fun _ h => h) hw)
  | .cond _ a b, true :: p, Q, s, q, h, hw => by
    simp only [kAt]
    simp only [ext, Option.map_eq_some_iff] at h
    obtain ⟨q', he, rfl⟩ := h
    exact ext_sound he (wAt_map (fun _ => rfl) (fun _ => rfl) (fun _ h => h) hw)
  | .block i b, false :: p, Q, s, q, h, hw => by
    simp only [kAt]
    simp only [ext] at h
    split at h
    · rename_i q' he
      cases h
      exact ext_sound he (wAt_map (c := .block i b) (Q := Q) (Q' := inB i Q) (fun _ => rfl) (fun _ => rfl) (fun _ h => h) hw)
    · rename_i he
      split at h
      case isFalse => cases h
      rename_i hi
      cases h
      refine ext_none he ?_
      simp only [inB]
      rw [if_pos hi]
      exact hw
  | .loop b, false :: p, Q, s, q, h, hw => by
    simp only [kAt]
    simp only [ext] at h
    split at h
    · rename_i q' he; cases h; exact ext_sound he hw
    · rename_i he; cases h; exact ext_sound he hw
    · cases h
  | .block id b, true :: p, Q, s, q, h, _ => by simp [ext] at h
  | .loop b, true :: p, Q, s, q, h, _ => by simp [ext] at h
  | .skip, _ :: _, Q, s, q, h, _ => by simp [ext] at h
  | .region _ _ _, _ :: _, Q, s, q, h, _ => by simp [ext] at h
  | .rangeFunc _ _ _ _, _ :: _, Q, s, q, h, _ => by simp [ext] at h
  | .exit _, _ :: _, Q, s, q, h, _ => by simp [ext] at h
  | .scope _, _ :: _, Q, s, q, h, _ => by simp [ext] at h
  | .label _, _ :: _, Q, s, q, h, _ => by simp [ext] at h
  | .goto _, _ :: _, Q, s, q, h, _ => by simp [ext] at h
  | .ret, _ :: _, Q, s, q, h, _ => by simp [ext] at h
  | .refuse _, _ :: _, Q, s, q, h, _ => by simp [ext] at h where
  ext_none {E : Env} {id : Nat} : ∀ {c : Code} {p : List Bool} {Q : Exit → St → Prop} {s : St}, ext id c p = none → Q (.exit id) s → kAt E c p Q (.exit id) s
  | c, [], Q, s, h, hq => by cases c <;> exact hq
  | .seq a b, false :: p, Q, s, h, hq => by
    simp only [kAt]
    simp only [ext] at h
    split at h
    · cases h
    · cases h
    · rename_i he; exact ext_none he hq
  | .seq a b, true :: p, Q, s, h, hq => by
    simp only [kAt]
    simp only [ext, Option.map_eq_none_iff] at h
    exact ext_none h hq
  | .cond _ a b, false :: p, Q, s, h, hq => by
    simp only [kAt]
    simp only [ext, Option.map_eq_none_iff] at h
    exact ext_none h hq
  | .cond _ a b, true :: p, Q, s, h, hq => by
    simp only [kAt]
    simp only [ext, Option.map_eq_none_iff] at h
    exact ext_none h hq
  | .block i b, false :: p, Q, s, h, hq => by
    simp only [kAt]
    simp only [ext] at h
    split at h
    · cases h
    · rename_i he
      split at h
      · cases h
      · rename_i hi
        refine ext_none he ?_
        simp only [inB]
        rw [if_neg hi]; exact hq
  | .loop b, false :: p, Q, s, h, hq => by
    simp only [kAt]
    simp only [ext] at h
    split at h
    · cases h
    · cases h
    · rename_i he; exact ext_none he hq
  | .block id b, true :: p, Q, s, h, hq => by simpa only [kAt] using hq
  | .loop b, true :: p, Q, s, h, hq => by simpa only [kAt] using hq
  | .skip, _ :: _, Q, s, h, hq => by simpa only [kAt] using hq
  | .region _ _ _, _ :: _, Q, s, h, hq => by simpa only [kAt] using hq
  | .rangeFunc _ _ _ _, _ :: _, Q, s, h, hq => by simpa only [kAt] using hq
  | .exit _, _ :: _, Q, s, h, hq => by simpa only [kAt] using hq
  | .scope _, _ :: _, Q, s, h, hq => by simpa only [kAt] using hq
  | .label _, _ :: _, Q, s, h, hq => by simpa only [kAt] using hq
  | .goto _, _ :: _, Q, s, h, hq => by simpa only [kAt] using hq
  | .ret, _ :: _, Q, s, h, hq => by simpa only [kAt] using hq
  | .refuse _, _ :: _, Q, s, h, hq => by simpa only [kAt] using hq
theorem ret_sound {E : Env} : ∀ {c : Code} {p : List Bool} {Q : Exit → St → Prop} {s : St}, Q .ret s → kAt E c p Q .ret s
  | c, [], Q, s, hq => by cases c <;> exact hq
  | .seq a b, false :: p, Q, s, hq => by simp only [kAt]; exact ret_sound hq
  | .seq a b, true :: p, Q, s, hq => by simp only [kAt]; exact ret_sound hq
  | .cond _ a b, false :: p, Q, s, hq => by simp only [kAt]; exact ret_sound hq
  | .cond _ a b, true :: p, Q, s, hq => by simp only [kAt]; exact ret_sound hq
  | .block i b, false :: p, Q, s, hq => by simp only [kAt]; exact ret_sound hq
  | .loop b, false :: p, Q, s, hq => by simp only [kAt]; exact ret_sound hq
  | .block id b, true :: p, Q, s, hq => by simpa only [kAt] using hq
  | .loop b, true :: p, Q, s, hq => by simpa only [kAt] using hq
  | .skip, _ :: _, Q, s, hq => by simpa only [kAt] using hq
  | .region _ _ _, _ :: _, Q, s, hq => by simpa only [kAt] using hq
  | .rangeFunc _ _ _ _, _ :: _, Q, s, hq => by simpa only [kAt] using hq
  | .exit _, _ :: _, Q, s, hq => by simpa only [kAt] using hq
  | .scope _, _ :: _, Q, s, hq => by simpa only [kAt] using hq
  | .label _, _ :: _, Q, s, hq => by simpa only [kAt] using hq
  | .goto _, _ :: _, Q, s, hq => by simpa only [kAt] using hq
  | .ret, _ :: _, Q, s, hq => by simpa only [kAt] using hq
  | .refuse _, _ :: _, Q, s, hq => by simpa only [kAt] using hq
theorem cAt_app : ∀ {c : Code} {p q : List Bool} {d : Code}, cAt c p = some d → cAt c (p ++ q) = cAt d q
  | c, [], q, d, h => by cases c <;> (simp only [cAt] at h; cases h; rfl)
  | .seq a b, false :: p, q, d, h => by simp only [cAt, List.cons_append] at h ⊢; exact cAt_app h
  | .seq a b, true :: p, q, d, h => by simp only [cAt, List.cons_append] at h ⊢; exact cAt_app h
  | .cond _ a b, false :: p, q, d, h => by simp only [cAt, List.cons_append] at h ⊢; exact cAt_app h
  | .cond _ a b, true :: p, q, d, h => by simp only [cAt, List.cons_append] at h ⊢; exact cAt_app h
  | .block i b, false :: p, q, d, h => by simp only [cAt, List.cons_append] at h ⊢; exact cAt_app h
  | .loop b, false :: p, q, d, h => by simp only [cAt, List.cons_append] at h ⊢; exact cAt_app h
  | .block id b, true :: p, q, d, h => by simp [cAt] at h
  | .loop b, true :: p, q, d, h => by simp [cAt] at h
  | .skip, _ :: _, q, d, h => by simp [cAt] at h
  | .region _ _ _, _ :: _, q, d, h => by simp [cAt] at h
  | .rangeFunc _ _ _ _, _ :: _, q, d, h => by simp [cAt] at h
  | .exit _, _ :: _, q, d, h => by simp [cAt] at h
  | .scope _, _ :: _, q, d, h => by simp [cAt] at h
  | .label _, _ :: _, q, d, h => by simp [cAt] at h
  | .goto _, _ :: _, q, d, h => by simp [cAt] at h
  | .ret, _ :: _, q, d, h => by simp [cAt] at h
  | .refuse _, _ :: _, q, d, h => by simp [cAt] at h
theorem kAt_app {E : Env} : ∀ {c : Code} {p q : List Bool} {d : Code} {Q : Exit → St → Prop}, cAt c p = some d → kAt E c (p ++ q) Q = kAt E d q (kAt E c p Q)
  | c, [], q, d, Q, h => by cases c <;> (simp only [cAt] at h; cases h; rfl)
  | .seq a b, false :: p, q, d, Q, h => by simp only [cAt, kAt, List.cons_append] at h ⊢; exact kAt_app h
  | .seq a b, true :: p, q, d, Q, h => by simp only [cAt, kAt, List.cons_append] at h ⊢; exact kAt_app h
  | .cond _ a b, false :: p, q, d, Q, h => by simp only [cAt, kAt, List.cons_append] at h ⊢; exact kAt_app h
  | .cond _ a b, true :: p, q, d, Q, h => by simp only [cAt, kAt, List.cons_append] at h ⊢; exact kAt_app h
  | .block i b, false :: p, q, d, Q, h => by simp only [cAt, kAt, List.cons_append] at h ⊢; exact kAt_app h
  | .loop b, false :: p, q, d, Q, h => by simp only [cAt, kAt, List.cons_append] at h ⊢; exact kAt_app h
  | .block id b, true :: p, q, d, Q, h => by simp [cAt] at h
  | .loop b, true :: p, q, d, Q, h => by simp [cAt] at h
  | .skip, _ :: _, q, d, Q, h => by simp [cAt] at h
  | .region _ _ _, _ :: _, q, d, Q, h => by simp [cAt] at h
  | .rangeFunc _ _ _ _, _ :: _, q, d, Q, h => by simp [cAt] at h
  | .exit _, _ :: _, q, d, Q, h => by simp [cAt] at h
  | .scope _, _ :: _, q, d, Q, h => by simp [cAt] at h
  | .label _, _ :: _, q, d, Q, h => by simp [cAt] at h
  | .goto _, _ :: _, q, d, Q, h => by simp [cAt] at h
  | .ret, _ :: _, q, d, Q, h => by simp [cAt] at h
  | .refuse _, _ :: _, q, d, Q, h => by simp [cAt] at h
end Go.T
