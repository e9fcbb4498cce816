/- Lemmas for FnExactOrderOf; no condition. -/

import Derived.Test.YtjcaompblpglcaaBB
import Derived.Test.YtjcaompblpglcaaTZB
set_option linter.unusedVariables false
namespace Go.T
open Go Go.RowKit Go.Proofs
def XE (X Y : Xs) : Prop := (∀ i, X.1.lookup i = Y.1.lookup i) ∧ ∀ i, i ∈ X.2 ↔ i ∈ Y.2
theorem XE.refl (X : Xs) : XE X X := ⟨fun _ => rfl, fun _ => Iff.rfl⟩
theorem XE.trans {X Y Z : Xs} (h : XE X Y) (k : XE Y Z) : XE X Z := ⟨fun i => (h.1 i).trans (k.1 i), fun i => (h.2 i).trans (k.2 i)⟩
def Xbv (l : List (Nat × Option Qao)) : List Nat := l.map (·.1)
def adX : Xs → List (Nat × Option Qao) → Xs
 | X, [] => X
 | X, (i, R) :: l => adX ((i, R) :: X.1, i :: X.2) l
theorem Qyd : ∀ (l : List (Nat × Option Qao)) (X : Xs), adX X l = (l.reverse ++ X.1, (Xbv l).reverse ++ X.2)
 | [], X => by simp [adX, Xbv]
 | (i, R) :: l, X => by
  rw [adX, Qyd l]
  simp [Xbv]
theorem XE.add {X Y : Xs} (h : XE X Y) (l : List (Nat × Option Qao)) : XE (adX X l) (adX Y l) := by
 rw [Qyd, Qyd]
 refine ⟨fun i => ?_, fun i => ?_⟩
 ·simp only [List.lookup_append, h.1 i]
 ·simp only [List.mem_append, h.2 i]
def chB (A : List (List Nat)) : List Nat → Bool
 | a :: b :: l => (Qwe A b).contains a && chB A (b :: l)
 | _ => true
def Xcc (o : Oper) : Bool := match o.op, o.dst with
 | .store _ _ _, none => true
 | _, _ => false
def msN (ops : Array Oper) (k m : Nat) (hs : List Hn) : List Nat := if (ops.toList.take m).any Xcc then (List.range m).filter fun i => hs.any (fun h => h.k == k + i && Xas h.h) || (match ops.toList[i]? with | some o => Xcc o | none => false) else msOf k m hs
def Xbp (Θ : Tys) (P : Program) (n : Nat) (ops : Array Oper) (draw : Bool) (k : Nat) (s : St) (hs : List Hn) : Option (Nat × St × List Hn × List Prop) :=
  if draw then match ghs k hs s with
    | some (s1, hs1, ps) => if ops.toList.any memOp || decide ((msN ops k (Qx1 ops) hs1).length ≠ 0) || !Qpv ops (Qwz ops) then (if chB (Que ops.toList []) (msN ops k (Qx1 ops) hs1) && !(ops.toList.take (Qx1 ops)).any Xcc then (match exDM Θ P n ops (Qx1 ops) k s1 (msN ops k (Qx1 ops) hs1) (Que ops.toList []) hs1 with
      | some (k3, s3, hs3, rs) => some (k3, s3, hs3, ps ++ rs)
      | none => none)
      else none)
      else if Qpv ops (Qwz ops) then match Qpb Θ P n ops s1.sl s1.rt s1.us (ops.toList.take (ops.toList.length - Qwz ops)) k [] hs1 with
      | some (k2, rd, hs2, qs) => match Qsg Θ P n ops (ops.toList.drop (ops.toList.length - Qwz ops)) k2 ⟨rd ++ s1.sl, s1.rt, s1.us⟩ hs2 with
        | some (k3, s3, hs3, rs) => some (k3, s3, hs3, ps ++ (qs ++ rs))
        | none => none
      | none => none
      else none
    | none => none
  else Qsg Θ P n ops ops.toList k s hs
theorem Qtd {E : Env} {Θ : Tys} (hΘ : TOK E.P Θ) (hm : E.P.follows .mixedOrders = true) {id : Nat} {ops : Array Oper} {draw : Bool} {k k' : Nat} {s s' : St} {hs hs' : List Hn} {ps : List Prop} (h : Xbp Θ E.P E.n ops draw k s hs = some (k', s', hs', ps)) (hp : Qb5 ps) {Q : Exit → St → Prop} (hq : Q .normal s') : TWp E (.region id ops draw) Q s := by
 unfold Xbp at h
 split at h
 ·rename_i hdr
  subst hdr
  split at h
  case h_2 => cases h
  rename_i s1 hs1 qs hg
  split at h
  ·split at h
   ·split at h
    case h_2 => cases h
    rename_i k3 s3 hs3 rs hx
    cases h
    obtain ⟨h1, h2⟩ := Qan hp
    exact Qu1 (Qfy hg h1) (Qvt hΘ hm hx h2 hq)
   ·cases h
  split at h
  case isFalse => cases h
  rename_i hok
  simp only [Qpv, Bool.and_eq_true] at hok
  split at h
  case h_2 => cases h
  rename_i k2 rd hs2 rs hh
  split at h
  case h_2 => cases h
  rename_i k3 s3 hs3 ts ho
  cases h
  obtain ⟨h1, h2⟩ := Qan hp
  obtain ⟨h3, h4⟩ := Qan h2
  refine Qu1 (Qfy hg h1) ?_
  obtain ⟨sl, rt, us⟩ := s1
  exact Qx6 (Qwz ops) hm hok.1.1 hok.1.2 hok.2 (Qht hΘ hh h3) (Qg1 hΘ ho h4 hq)
 ·rename_i hdr
  have : draw = false := by simpa using hdr
  subst this
  exact Xc5 (Qg1 hΘ h hp hq)
end Go.T
set_option linter.unusedVariables false
namespace Go.T
open Go Go.RowKit Go.Proofs
def LWw (P : Program) (c : Code) (Q : Exit → Act → World → Prop) (a : Act) (w : World) : Prop :=
 ∀ (b : Frame) (k : List Item) (cs : List Frame), ∃ e a' w', Q e a' w' ∧ Arrives P (lone (b.at a (.code c :: .inLoop c :: k)) cs w) b k cs e a' w'
theorem Qzu {P : Program} {c : Code} {Q : Exit → Act → World → Prop} {a : Act} {w : World} (h : LWw P c Q a w) : (Code.loop c).wp P Q a w := by
 intro b k cs
 obtain ⟨e, a', w', hq, harr⟩ := h b k cs
 exact ⟨e, a', w', hq, .of_steps (.one step_loop) harr⟩
theorem Qwh {P : Program} {c : Code} {Q : Exit → Act → World → Prop} {a : Act} {w : World} (h : c.wp P (Exit.then (LWw P c Q) Q) a w) : LWw P c Q a w := by
 intro b k cs
 obtain ⟨e, a₁, w₁, hq, harr⟩ := h b (.inLoop c :: k) cs
 cases e with
 | normal =>
  obtain ⟨e₂, a₂, w₂, hq₂, harr₂⟩ := hq b k cs
  exact ⟨e₂, a₂, w₂, hq₂, .of_steps (Steps.trans harr (.one step_inLoop)) harr₂⟩
 | exit id => exact ⟨_, a₁, w₁, hq, .pass (x := .inLoop c) rfl (fun _ _ => .inl (by simp)) harr⟩
 | goto l => exact ⟨_, a₁, w₁, hq, .pass (x := .inLoop c) rfl (fun _ _ => .inl (by simp)) harr⟩
 | ret => exact ⟨_, a₁, w₁, hq, .pass (x := .inLoop c) rfl (fun _ _ => .inl (by simp)) harr⟩
 | panic ch => exact ⟨_, a₁, w₁, hq, .pass (x := .inLoop c) rfl (fun _ _ => .inl (by simp)) harr⟩
 | outgrown => exact ⟨_, a₁, w₁, hq, .pass (x := .inLoop c) rfl (fun _ _ => .inl (by simp)) harr⟩
def LW (E : Env) (c : Code) (Q : Exit → St → Prop) (s : St) : Prop := ∀ a w, Rel E s a w → LWw E.P c (fun e a' w' => ∃ s', Q e s' ∧ Rel E s' a' w') a w
theorem Xc1 {E : Env} {c : Code} {Q : Exit → St → Prop} {s : St} (h : LW E c Q s) : TWp E (.loop c) Q s := fun a w hr => Qzu (h a w hr)
theorem Qyw {E : Env} {c : Code} {Q : Exit → St → Prop} {s : St} (h : TWp E c (thn (LW E c Q) Q) s) : LW E c Q s := by
 intro a w hr
 refine Qwh (wp_mono (h a w hr) ?_)
 rintro e a' w' ⟨s', h1, h2⟩
 cases e with
 | normal => exact h1 a' w' h2
 | _ => exact ⟨s', h1, h2⟩
def cAt : Code → List Bool → Option Code
 | c, [] => some c
 | .seq a _, false :: p => cAt a p
 | .seq _ b, true :: p => cAt b p
 | .cond _ a _, false :: p => cAt a p
 | .cond _ _ b, true :: p => cAt b p
 | .block _ b, false :: p => cAt b p
 | .loop b, false :: p => cAt b p
 | _, _ => none
def kAt (E : Env) : Code → List Bool → (Exit → St → Prop) → Exit → St → Prop
 | _, [], Q => Q
 | .seq a b, false :: p, Q => kAt E a p (thn (TWp E b Q) Q)
 | .seq _ b, true :: p, Q => kAt E b p Q
 | .cond _ a _, false :: p, Q => kAt E a p Q
 | .cond _ _ b, true :: p, Q => kAt E b p Q
 | .block id b, false :: p, Q => kAt E b p (inB id Q)
 | .loop b, false :: p, Q => kAt E b p (thn (LW E b Q) Q)
 | _, _, Q => Q
def nxt : Code → List Bool → Option (List Bool)
 | _, [] => none
 | .seq a _, false :: p => match nxt a p with
  | some q => some (false :: q)
  | none => some [true]
 | .seq _ b, true :: p => (nxt b p).map (true :: ·)
 | .cond _ a _, false :: p => (nxt a p).map (false :: ·)
 | .cond _ _ b, true :: p => (nxt b p).map (true :: ·)
 | .block _ b, false :: p => (nxt b p).map (false :: ·)
 | .loop b, false :: p => match nxt b p with
  | some q => some (false :: q)
  | none => some []
 | _, _ => none
def ext (id : Nat) : Code → List Bool → Option (Option (List Bool))
 | _, [] => none
 | .seq a _, false :: p => match ext id a p with
  | some (some q) => some (some (false :: q))
  | some none => some (some [true])
  | none => none
 | .seq _ b, true :: p => (ext id b p).map (Option.map (true :: ·))
 | .cond _ a _, false :: p => (ext id a p).map (Option.map (false :: ·))
 | .cond _ _ b, true :: p => (ext id b p).map (Option.map (true :: ·))
 | .block i b, false :: p => match ext id b p with
  | some q => some (q.map (false :: ·))
  | none => if id = i then some none else none
 | .loop b, false :: p => match ext id b p with
  | some (some q) => some (some (false :: q))
  | some none => some (some [])
  | none => none
 | _, _ => none
def WAt (E : Env) (c : Code) (Q : Exit → St → Prop) (p : List Bool) (s : St) : Prop :=
 match cAt c p with
 | some (.loop b) => LW E b (kAt E c p Q) s
 | some d => TWp E d (kAt E c p Q) s
 | none => False
theorem Qhz {E : Env} {c d : Code} {Q : Exit → St → Prop} {p : List Bool} {s : St} (hc : cAt c p = some d) (h : WAt E c Q p s) : TWp E d (kAt E c p Q) s := by
 unfold WAt at h
 rw [hc] at h
 split at h
 ·rename_i hd; cases hd; exact Xc1 h
 ·rename_i hd; cases hd; exact h
 ·cases ‹some d = none›
theorem Qny {E : Env} {c d : Code} {Q : Exit → St → Prop} {p : List Bool} {s : St} (hc : cAt c p = some d) (hd : ∀ b, d ≠ .loop b) (h : TWp E d (kAt E c p Q) s) : WAt E c Q p s := by
 unfold WAt
 rw [hc]
 split
 ·rename_i he; cases he; exact absurd rfl (hd _)
 ·rename_i he; cases he; exact h
 ·cases ‹some d = none›
theorem Quj {E : Env} {c : Code} {Q : Exit → St → Prop} {s : St} (h : WAt E c Q [] s) : TWp E c Q s := by
 have h1 : cAt c [] = some c := by cases c <;> rfl
 have h2 : kAt E c [] Q = Q := by cases c <;> rfl
 have := Qhz h1 h
 rwa [h2] at this
def WN (E : Env) (c : Code) (Q : Exit → St → Prop) (p : Option (List Bool)) (s : St) : Prop :=
 match p with
 | some p => WAt E c Q p s
 | none => Q .normal s
theorem Qhr {E : Env} {c d : Code} {Q Q' : Exit → St → Prop} {b : Bool} (hc : ∀ p, cAt c (b :: p) = cAt d p) (hk : ∀ p, kAt E c (b :: p) Q = kAt E d p Q') (hq : ∀ s, Q .normal s → Q' .normal s) {p : Option (List Bool)} {s : St} (h : WN E c Q (p.map (b :: ·)) s) : WN E d Q' p s := by
 cases p with
 | none => exact hq s h
 | some p =>
  simp only [Option.map_some, WN, WAt, hc, hk] at h ⊢
  exact h
theorem Qf5 {E : Env} : ∀ {c : Code} {p : List Bool} {Q : Exit → St → Prop} {s : St}, WN E c Q (nxt c p) s → kAt E c p Q .normal s
 | c, [], Q, s, h => by cases c <;> exact h
 | .seq a b, false :: p, Q, s, h => by
  simp only [kAt]
  refine Qf5 ?_
  simp only [nxt] at h
  cases hn : nxt a p with
  | none =>
   rw [hn] at h
   have := Qhz (d := b) (by cases b <;> rfl) h
   have h2 : kAt E (.seq a b) [true] Q = Q := by cases b <;> rfl
   rw [h2] at this
   exact this
  | some q => rw [hn] at h; exact h
 | .seq a b, true :: p, Q, s, h => by simp only [kAt]; exact Qf5 (Qhr (fun _ => rfl) (fun _ => rfl) (fun _ h => h) h)
 | .cond _ a b, false :: p, Q, s, h => by simp only [kAt]; exact Qf5 (Qhr (fun _ => rfl) (fun _ => rfl) (fun _ h => h) h)
 | .cond _ a b, true :: p, Q, s, h => by simp only [kAt]; exact Qf5 (Qhr (fun _ => rfl) (fun _ => rfl) (fun _ h => h) h)
 | .block id b, false :: p, Q, s, h => by simp only [kAt]; simp only [nxt] at h; exact Qf5 (Qhr (c := .block id b) (Q := Q) (Q' := inB id Q) (fun _ => rfl) (fun _ => rfl) (fun _ h => h) h)
 | .loop b, false :: p, Q, s, h => by
  simp only [kAt]
  refine Qf5 ?_
  simp only [nxt] at h
  cases hn : nxt b p with
  | none => rw [hn] at h; exact h
  | some q => rw [hn] at h; exact h
 | .block id b, true :: p, Q, s, h => by simpa only [kAt, nxt, WN] using h
 | .loop b, true :: p, Q, s, h => by simpa only [kAt, nxt, WN] using h
 | .skip, _ :: _, Q, s, h => by simpa only [kAt, nxt, WN] using h
 | .region _ _ _, _ :: _, Q, s, h => by simpa only [kAt, nxt, WN] using h
 | .rangeFunc _ _ _ _, _ :: _, Q, s, h => by simpa only [kAt, nxt, WN] using h
 | .exit _, _ :: _, Q, s, h => by simpa only [kAt, nxt, WN] using h
 | .scope _, _ :: _, Q, s, h => by simpa only [kAt, nxt, WN] using h
 | .label _, _ :: _, Q, s, h => by simpa only [kAt, nxt, WN] using h
 | .goto _, _ :: _, Q, s, h => by simpa only [kAt, nxt, WN] using h
 | .ret, _ :: _, Q, s, h => by simpa only [kAt, nxt, WN] using h
 | .refuse _, _ :: _, Q, s, h => by simpa only [kAt, nxt, WN] using h
theorem Qep {E : Env} {id : Nat} : ∀ {c : Code} {p : List Bool} {Q : Exit → St → Prop} {s : St} {q : Option (List Bool)}, ext id c p = some q → WN E c Q q s → kAt E c p Q (.exit id) s
 | c, [], Q, s, q, h, _ => by cases c <;> simp [ext] at h
 | .seq a b, false :: p, Q, s, q, h, hw => by
  simp only [kAt]
  simp only [ext] at h
  split at h
  ·rename_i q' he; cases h; exact Qep he hw
  ·rename_i he
   cases h
   refine Qep he ?_
   have := Qhz (d := b) (by cases b <;> rfl) hw
   have h2 : kAt E (.seq a b) [true] Q = Q := by cases b <;> rfl
   rw [h2] at this
   exact this
  ·cases h
 | .seq a b, true :: p, Q, s, q, h, hw => by
  simp only [kAt]
  simp only [ext, Option.map_eq_some_iff] at h
  obtain ⟨q', he, rfl⟩ := h
  exact Qep he (Qhr (fun _ => rfl) (fun _ => rfl) (fun _ h => h) hw)
 | .cond _ a b, false :: p, Q, s, q, h, hw => by
  simp only [kAt]
  simp only [ext, Option.map_eq_some_iff] at h
  obtain ⟨q', he, rfl⟩ := h
  exact Qep he (Qhr (fun _ => rfl) (fun _ => rfl) (fun _ h => h) hw)
 | .cond _ a b, true :: p, Q, s, q, h, hw => by
  simp only [kAt]
  simp only [ext, Option.map_eq_some_iff] at h
  obtain ⟨q', he, rfl⟩ := h
  exact Qep he (Qhr (fun _ => rfl) (fun _ => rfl) (fun _ h => h) hw)
 | .block i b, false :: p, Q, s, q, h, hw => by
  simp only [kAt]
  simp only [ext] at h
  split at h
  ·rename_i q' he
   cases h
   exact Qep he (Qhr (c := .block i b) (Q := Q) (Q' := inB i Q) (fun _ => rfl) (fun _ => rfl) (fun _ h => h) hw)
  ·rename_i he
   split at h
   case isFalse => cases h
   rename_i hi
   cases h
   refine ext_none he ?_
   simp only [inB]
   rw [if_pos hi]
   exact hw
 | .loop b, false :: p, Q, s, q, h, hw => by
  simp only [kAt]
  simp only [ext] at h
  split at h
  ·rename_i q' he; cases h; exact Qep he hw
  ·rename_i he; cases h; exact Qep he hw
  ·cases h
 | .block id b, true :: p, Q, s, q, h, _ => by simp [ext] at h
 | .loop b, true :: p, Q, s, q, h, _ => by simp [ext] at h
 | .skip, _ :: _, Q, s, q, h, _ => by simp [ext] at h
 | .region _ _ _, _ :: _, Q, s, q, h, _ => by simp [ext] at h
 | .rangeFunc _ _ _ _, _ :: _, Q, s, q, h, _ => by simp [ext] at h
 | .exit _, _ :: _, Q, s, q, h, _ => by simp [ext] at h
 | .scope _, _ :: _, Q, s, q, h, _ => by simp [ext] at h
 | .label _, _ :: _, Q, s, q, h, _ => by simp [ext] at h
 | .goto _, _ :: _, Q, s, q, h, _ => by simp [ext] at h
 | .ret, _ :: _, Q, s, q, h, _ => by simp [ext] at h
 | .refuse _, _ :: _, Q, s, q, h, _ => by simp [ext] at h where
 ext_none {E : Env} {id : Nat} : ∀ {c : Code} {p : List Bool} {Q : Exit → St → Prop} {s : St}, ext id c p = none → Q (.exit id) s → kAt E c p Q (.exit id) s
 | c, [], Q, s, h, hq => by cases c <;> exact hq
 | .seq a b, false :: p, Q, s, h, hq => by
  simp only [kAt]
  simp only [ext] at h
  split at h
  ·cases h
  ·cases h
  ·rename_i he; exact ext_none he hq
 | .seq a b, true :: p, Q, s, h, hq => by
  simp only [kAt]
  simp only [ext, Option.map_eq_none_iff] at h
  exact ext_none h hq
 | .cond _ a b, false :: p, Q, s, h, hq => by
  simp only [kAt]
  simp only [ext, Option.map_eq_none_iff] at h
  exact ext_none h hq
 | .cond _ a b, true :: p, Q, s, h, hq => by
  simp only [kAt]
  simp only [ext, Option.map_eq_none_iff] at h
  exact ext_none h hq
 | .block i b, false :: p, Q, s, h, hq => by
  simp only [kAt]
  simp only [ext] at h
  split at h
  ·cases h
  ·rename_i he
   split at h
   ·cases h
   ·rename_i hi
    refine ext_none he ?_
    simp only [inB]
    rw [if_neg hi]; exact hq
 | .loop b, false :: p, Q, s, h, hq => by
  simp only [kAt]
  simp only [ext] at h
  split at h
  ·cases h
  ·cases h
  ·rename_i he; exact ext_none he hq
 | .block id b, true :: p, Q, s, h, hq => by simpa only [kAt] using hq
 | .loop b, true :: p, Q, s, h, hq => by simpa only [kAt] using hq
 | .skip, _ :: _, Q, s, h, hq => by simpa only [kAt] using hq
 | .region _ _ _, _ :: _, Q, s, h, hq => by simpa only [kAt] using hq
 | .rangeFunc _ _ _ _, _ :: _, Q, s, h, hq => by simpa only [kAt] using hq
 | .exit _, _ :: _, Q, s, h, hq => by simpa only [kAt] using hq
 | .scope _, _ :: _, Q, s, h, hq => by simpa only [kAt] using hq
 | .label _, _ :: _, Q, s, h, hq => by simpa only [kAt] using hq
 | .goto _, _ :: _, Q, s, h, hq => by simpa only [kAt] using hq
 | .ret, _ :: _, Q, s, h, hq => by simpa only [kAt] using hq
 | .refuse _, _ :: _, Q, s, h, hq => by simpa only [kAt] using hq
theorem Qfo {E : Env} : ∀ {c : Code} {p : List Bool} {Q : Exit → St → Prop} {s : St}, Q .ret s → kAt E c p Q .ret s
 | c, [], Q, s, hq => by cases c <;> exact hq
 | .seq a b, false :: p, Q, s, hq => by simp only [kAt]; exact Qfo hq
 | .seq a b, true :: p, Q, s, hq => by simp only [kAt]; exact Qfo hq
 | .cond _ a b, false :: p, Q, s, hq => by simp only [kAt]; exact Qfo hq
 | .cond _ a b, true :: p, Q, s, hq => by simp only [kAt]; exact Qfo hq
 | .block i b, false :: p, Q, s, hq => by simp only [kAt]; exact Qfo hq
 | .loop b, false :: p, Q, s, hq => by simp only [kAt]; exact Qfo hq
 | .block id b, true :: p, Q, s, hq => by simpa only [kAt] using hq
 | .loop b, true :: p, Q, s, hq => by simpa only [kAt] using hq
 | .skip, _ :: _, Q, s, hq => by simpa only [kAt] using hq
 | .region _ _ _, _ :: _, Q, s, hq => by simpa only [kAt] using hq
 | .rangeFunc _ _ _ _, _ :: _, Q, s, hq => by simpa only [kAt] using hq
 | .exit _, _ :: _, Q, s, hq => by simpa only [kAt] using hq
 | .scope _, _ :: _, Q, s, hq => by simpa only [kAt] using hq
 | .label _, _ :: _, Q, s, hq => by simpa only [kAt] using hq
 | .goto _, _ :: _, Q, s, hq => by simpa only [kAt] using hq
 | .ret, _ :: _, Q, s, hq => by simpa only [kAt] using hq
 | .refuse _, _ :: _, Q, s, hq => by simpa only [kAt] using hq
theorem Qfu : ∀ {c : Code} {p q : List Bool} {d : Code}, cAt c p = some d → cAt c (p ++ q) = cAt d q
 | c, [], q, d, h => by cases c <;> (simp only [cAt] at h; cases h; rfl)
 | .seq a b, false :: p, q, d, h => by simp only [cAt, List.cons_append] at h ⊢; exact Qfu h
 | .seq a b, true :: p, q, d, h => by simp only [cAt, List.cons_append] at h ⊢; exact Qfu h
 | .cond _ a b, false :: p, q, d, h => by simp only [cAt, List.cons_append] at h ⊢; exact Qfu h
 | .cond _ a b, true :: p, q, d, h => by simp only [cAt, List.cons_append] at h ⊢; exact Qfu h
 | .block i b, false :: p, q, d, h => by simp only [cAt, List.cons_append] at h ⊢; exact Qfu h
 | .loop b, false :: p, q, d, h => by simp only [cAt, List.cons_append] at h ⊢; exact Qfu h
 | .block id b, true :: p, q, d, h => by simp [cAt] at h
 | .loop b, true :: p, q, d, h => by simp [cAt] at h
 | .skip, _ :: _, q, d, h => by simp [cAt] at h
 | .region _ _ _, _ :: _, q, d, h => by simp [cAt] at h
 | .rangeFunc _ _ _ _, _ :: _, q, d, h => by simp [cAt] at h
 | .exit _, _ :: _, q, d, h => by simp [cAt] at h
 | .scope _, _ :: _, q, d, h => by simp [cAt] at h
 | .label _, _ :: _, q, d, h => by simp [cAt] at h
 | .goto _, _ :: _, q, d, h => by simp [cAt] at h
 | .ret, _ :: _, q, d, h => by simp [cAt] at h
 | .refuse _, _ :: _, q, d, h => by simp [cAt] at h
theorem Qfr {E : Env} : ∀ {c : Code} {p q : List Bool} {d : Code} {Q : Exit → St → Prop}, cAt c p = some d → kAt E c (p ++ q) Q = kAt E d q (kAt E c p Q)
 | c, [], q, d, Q, h => by cases c <;> (simp only [cAt] at h; cases h; rfl)
 | .seq a b, false :: p, q, d, Q, h => by simp only [cAt, kAt, List.cons_append] at h ⊢; exact Qfr h
 | .seq a b, true :: p, q, d, Q, h => by simp only [cAt, kAt, List.cons_append] at h ⊢; exact Qfr h
 | .cond _ a b, false :: p, q, d, Q, h => by simp only [cAt, kAt, List.cons_append] at h ⊢; exact Qfr h
 | .cond _ a b, true :: p, q, d, Q, h => by simp only [cAt, kAt, List.cons_append] at h ⊢; exact Qfr h
 | .block i b, false :: p, q, d, Q, h => by simp only [cAt, kAt, List.cons_append] at h ⊢; exact Qfr h
 | .loop b, false :: p, q, d, Q, h => by simp only [cAt, kAt, List.cons_append] at h ⊢; exact Qfr h
 | .block id b, true :: p, q, d, Q, h => by simp [cAt] at h
 | .loop b, true :: p, q, d, Q, h => by simp [cAt] at h
 | .skip, _ :: _, q, d, Q, h => by simp [cAt] at h
 | .region _ _ _, _ :: _, q, d, Q, h => by simp [cAt] at h
 | .rangeFunc _ _ _ _, _ :: _, q, d, Q, h => by simp [cAt] at h
 | .exit _, _ :: _, q, d, Q, h => by simp [cAt] at h
 | .scope _, _ :: _, q, d, Q, h => by simp [cAt] at h
 | .label _, _ :: _, q, d, Q, h => by simp [cAt] at h
 | .goto _, _ :: _, q, d, Q, h => by simp [cAt] at h
 | .ret, _ :: _, q, d, Q, h => by simp [cAt] at h
 | .refuse _, _ :: _, q, d, Q, h => by simp [cAt] at h
end Go.T
set_option linter.unusedVariables false
namespace Go.T
open Go Go.RowKit Go.Proofs
def FQ (R : St → Prop) : Exit → St → Prop := fun e s => (e = .normal ∨ e = .ret) ∧ R s
theorem Qnb {E : Env} {c : Code} {Q : Exit → St → Prop} : kAt E c [] Q = Q := by cases c <;> rfl
theorem Qok {c : Code} : cAt c [] = some c := by cases c <;> rfl
theorem Qzw {E : Env} {c a b : Code} {Q : Exit → St → Prop} {p : List Bool} {s : St} (hc : cAt c p = some (.seq a b)) (h : WAt E c Q (p ++ [false]) s) : WAt E c Q p s := by
 refine Qny hc (by simp) (Xbc ?_)
 have h1 : cAt c (p ++ [false]) = some a := by rw [Qfu hc]; simp only [cAt, Qok]
 have := Qhz h1 h
 rw [Qfr hc] at this
 simpa only [kAt, Qnb] using this
theorem Qvq {E : Env} {c b : Code} {id : Nat} {Q : Exit → St → Prop} {p : List Bool} {s : St} (hc : cAt c p = some (.block id b)) (h : WAt E c Q (p ++ [false]) s) : WAt E c Q p s := by
 refine Qny hc (by simp) (Qwp ?_)
 have h1 : cAt c (p ++ [false]) = some b := by rw [Qfu hc]; simp only [cAt, Qok]
 have := Qhz h1 h
 rw [Qfr hc] at this
 simpa only [kAt, Qnb] using this
theorem Qxd {E : Env} {c b : Code} {Q : Exit → St → Prop} {p : List Bool} {s : St} (hc : cAt c p = some (.loop b)) (h : WAt E c Q (p ++ [false]) s) : WAt E c Q p s := by
 have h1 : cAt c (p ++ [false]) = some b := by rw [Qfu hc]; simp only [cAt, Qok]
 have := Qhz h1 h
 rw [Qfr hc] at this
 simp only [kAt, Qnb] at this
 unfold WAt
 rw [hc]
 exact Qyw this
theorem Qrw {E : Env} {c x y : Code} {o : Operand} {Q : Exit → St → Prop} {p : List Bool} {s : St} {v : Bool} (hc : cAt c p = some (.cond o x y)) (hv : Qae s o = .lit (.bool v)) (h : WAt E c Q (p ++ [!v]) s) : WAt E c Q p s := by
 refine Qny hc (by simp) (Qz9 hv (fun hb => ?_) (fun hb => ?_))
 ·subst hb
  have h1 : cAt c (p ++ [false]) = some x := by rw [Qfu hc]; simp only [cAt, Qok]
  have := Qhz h1 h
  rw [Qfr hc] at this
  simpa only [kAt, Qnb] using this
 ·subst hb
  have h1 : cAt c (p ++ [true]) = some y := by rw [Qfu hc]; simp only [cAt, Qok]
  have := Qhz h1 h
  rw [Qfr hc] at this
  simpa only [kAt, Qnb] using this
def lB : List Bool → List Bool → Bool
 | [], [] => true
 | true :: p, true :: q => lB p q
 | false :: p, false :: q => lB p q
 | _, _ => false
theorem Xby : ∀ {p q : List Bool}, lB p q = true → p = q
 | [], [], _ => rfl
 | true :: p, true :: q, h => by rw [Xby (p := p) (q := q) h]
 | false :: p, false :: q, h => by rw [Xby (p := p) (q := q) h]
 | [], _ :: _, h => by simp [lB] at h
 | _ :: _, [], h => by simp [lB] at h
 | true :: _, false :: _, h => by simp [lB] at h
 | false :: _, true :: _, h => by simp [lB] at h
def oB : Option (List Bool) → Option (List Bool) → Bool
 | none, none => true
 | some p, some q => lB p q
 | _, _ => false
theorem oB_eq {p q : Option (List Bool)} (h : oB p q = true) : p = q := by
 cases p <;> cases q <;> simp only [oB] at h
 ·rfl
 ·cases h
 ·cases h
 ·rw [Xby h]
def Qw4 (Θ : Tys) (P : Program) (n : Nat) (body : Code) (tgt : Option (List Bool)) : Nat → Bool → Option (List Bool) → Nat → St → List Hn → Option (Nat × St × List Hn × List Prop)
 | 0, _, _, _, _, _ => none
 | f + 1, st, pt, k, s, hs =>
  if st && oB pt tgt then some (k, s, hs, []) else
  match pt with
  | none => none
  | some p => match cAt body p with
   | some (.seq _ _) => Qw4 Θ P n body tgt f true (some (p ++ [false])) k s hs
   | some (.block _ _) => Qw4 Θ P n body tgt f true (some (p ++ [false])) k s hs
   | some (.loop _) => Qw4 Θ P n body tgt f true (some (p ++ [false])) k s hs
   | some .skip => Qw4 Θ P n body tgt f true (nxt body p) k s hs
   | some (.region _ ops draw) => match Xbp Θ P n ops draw k s hs with
    | some (k1, s1, hs1, ps) => match Qw4 Θ P n body tgt f true (nxt body p) k1 s1 hs1 with
     | some (k2, s2, hs2, qs) => some (k2, s2, hs2, ps ++ qs)
     | none => none
    | none => none
   | some (.cond c _ _) => match Qae s c with
    | .lit (.bool v) => match (pop k hs).1.h with
     | .br b => match Qw4 Θ P n body tgt f true (some (p ++ [!b])) (k + 1) s (pop k hs).2 with
      | some (k2, s2, hs2, qs) => some (k2, s2, hs2, (v = b) :: qs)
      | none => none
     | .no => Qw4 Θ P n body tgt f true (some (p ++ [!v])) (k + 1) s hs
     | _ => none
    | _ => none
   | some (.exit id) => match ext id body p with
    | some q => Qw4 Θ P n body tgt f true q k s hs
    | none => none
   | some .ret => match tgt with
    | none => some (k, s, hs, [])
    | some _ => none
   | _ => none
theorem Qdj {E : Env} {Θ : Tys} (hΘ : TOK E.P Θ) (hm : E.P.follows .mixedOrders = true) {body : Code} {tgt : Option (List Bool)} {R : St → Prop} : ∀ {f : Nat} {st : Bool} {pt : Option (List Bool)} {k k' : Nat} {s s' : St} {hs hs' : List Hn} {ps : List Prop},
  Qw4 Θ E.P E.n body tgt f st pt k s hs = some (k', s', hs', ps) → Qb5 ps → WN E body (FQ R) tgt s' → WN E body (FQ R) pt s
 | 0, st, pt, k, k', s, s', hs, hs', ps, h, _, _ => by simp [Qw4] at h
 | f + 1, st, pt, k, k', s, s', hs, hs', ps, h, hp, hw => by
  simp only [Qw4] at h
  split at h
  ·rename_i hst
   simp only [Bool.and_eq_true] at hst
   rw [oB_eq hst.2]
   cases h
   exact hw
  ·split at h
   ·cases h
   rename_i p
   split at h
   ·rename_i hc; exact Qzw hc (Qdj hΘ hm h hp hw)
   ·rename_i hc; exact Qvq hc (Qdj hΘ hm h hp hw)
   ·rename_i hc; exact Qxd hc (Qdj hΘ hm h hp hw)
   ·rename_i hc
    refine Qny hc (by simp) (Qz8 (Qf5 ?_))
    exact Qdj hΘ hm h hp hw
   ·rename_i hc
    split at h
    case h_2 => cases h
    rename_i hr
    split at h
    case h_2 => cases h
    rename_i he
    cases h
    obtain ⟨h1, h2⟩ := Qan hp
    exact Qny hc (by simp) (Qtd hΘ hm hr h1 (Qf5 (Qdj hΘ hm he h2 hw)))
   ·rename_i hc
    split at h
    case h_2 => cases h
    rename_i v hv
    split at h
    ·rename_i b hb
     split at h
     case h_2 => cases h
     rename_i he
     cases h
     obtain ⟨h1, h2⟩ := hp
     subst h1
     exact Qrw hc hv (Qdj hΘ hm he h2 hw)
    ·exact Qrw hc hv (Qdj hΘ hm h hp hw)
    ·cases h
   ·rename_i hc
    split at h
    case h_2 => cases h
    rename_i q hq
    exact Qny hc (by simp) (Qzs (Qep hq (Qdj hΘ hm h hp hw)))
   ·rename_i hc
    split at h
    case h_2 => cases h
    cases h
    exact Qny hc (by simp) (Xbu (Qfo ⟨.inr rfl, hw.2⟩))
   ·cases h
def Xcq (s : St) (π0 : List (Nat × Nat)) : List (Nat × Nat) → Option (List (Nat × Nat × Qao) × List Prop)
 | [] => some ([], [])
 | (i, j) :: r => match s.root i, Xcq s π0 r with
  | some R, some (l, ps) => some ((i, j, R) :: l, (Qa5 π0 R.xs) :: ps)
  | _, _ => none
theorem Qpx {s : St} {π0 : List (Nat × Nat)} : ∀ {π : List (Nat × Nat)} {l : List (Nat × Nat × Qao)} {ps : List Prop}, Xcq s π0 π = some (l, ps) → Qb5 ps → okRt s π0 l ∧ piR l = π
 | [], l, ps, h, hp => by simp only [Xcq] at h; cases h; exact ⟨trivial, rfl⟩
 | (i, j) :: r, l, ps, h, hp => by
  simp only [Xcq] at h
  split at h
  case h_2 => cases h
  rename_i R l' qs hR hr
  cases h
  obtain ⟨h1, h2⟩ := Qpx hr hp.2
  exact ⟨⟨⟨hR, hp.1⟩, h1⟩, by simp only [piR] at h2; simp only [piR, List.map_cons, h2]⟩
def kpC (s : St) (π : List (Nat × Nat)) (kp : List Nat) (t : Nat) : AV := if kp.contains t then s.get t else Qff π (s.get t)
def kpP (s : St) (kp : List Nat) : List Nat → List Prop
 | [] => []
 | t :: ts => if kp.contains t then (Qov (s.get t) = true) :: kpP s kp ts else kpP s kp ts
theorem Xbt {s : St} {π : List (Nat × Nat)} {kp : List Nat} : ∀ {ts : List Nat}, Qb5 (kpP s kp ts) → Qzk s π (ts.map fun t => (t, kpC s π kp t))
 | [], _ => trivial
 | t :: ts, h => by
  simp only [kpP] at h
  split at h
  ·rename_i hk
   exact ⟨by simp only [kpC, hk, if_true]; exact Qs2 π _ h.1, Xbt h.2⟩
  ·rename_i hk
   exact ⟨by simp only [kpC, hk]; rfl, Xbt h⟩
def toC (fr : List Nat) (s : St) (π : List (Nat × Nat)) (ts kp : List Nat) : Option (St × List Prop) :=
 if okPi π && (fr.all fun i => π.lookup i == some i) then match Xcq s π π with
  | some (l, ps) => some (⟨ts.map fun t => (t, kpC s π kp t), l.map fun x => (x.2.1, some x.2.2), π.map (·.2) ++ [JJ]⟩, ps ++ kpP s kp ts)
  | none => none
 else none
theorem Qyj {E : Env} {fr : List Nat} (hfx : ∀ p, p ∈ E.fx → p.1 ∈ fr) {s s' : St} {π : List (Nat × Nat)} {ts kp : List Nat} {ps : List Prop} (h : toC fr s π ts kp = some (s', ps)) (hp : Qb5 ps) : Ent E s s' := by
  unfold toC at h
  split at h
  case isFalse => cases h
  rename_i hc
  simp only [Bool.and_eq_true] at hc
  split at h
  case h_2 => cases h
  rename_i l qs hr
  cases h
  obtain ⟨hp1, hp2⟩ := Qan hp
  obtain ⟨h1, h2⟩ := Qpx hr hp1
  have := Xda E (ts.map fun t => (t, kpC s π kp t)) l (by rw [h2]; exact hc.1) (by
    rw [h2]
    simp only [fxB, List.all_eq_true]
    intro p hpm
    have := hc.2
    rw [List.all_eq_true] at this
    exact this _ (hfx p hpm)) (by rw [h2]; exact Xbt hp2) (by rw [h2]; exact h1)
  rw [h2] at this
  exact this
def Xbf (Θ : Tys) (P : Program) (n : Nat) (body : Code) (fr : List Nat) (pt tgt : List Bool) (s : St) (hs : List Hn) (π : List (Nat × Nat)) (ts kp : List Nat) : Option (St × List Prop) :=
 match Qw4 Θ P n body (some tgt) 10000 false (some pt) 0 s hs with
 | some (k, s1, hs1, ps) => match ghs k hs1 s1 with
  | some (s2, [], qs) => match toC fr s2 π ts kp with
   | some (s3, rs) => some (s3, ps ++ (qs ++ rs))
   | none => none
  | _ => none
 | none => none
theorem go_to {E : Env} {Θ : Tys} (hΘ : TOK E.P Θ) (hm : E.P.follows .mixedOrders = true) {body : Code} {fr : List Nat} (hfx : ∀ p, p ∈ E.fx → p.1 ∈ fr) {R : St → Prop} {P : Program} (hP : E.P = P) {n : Nat} (hn : E.n = n) {pt tgt : List Bool} {s s' : St} {hs : List Hn} {π : List (Nat × Nat)} {ts kp : List Nat} {ps : List Prop}
  (h : Xbf Θ P n body fr pt tgt s hs π ts kp = some (s', ps)) (hp : Qb5 ps) (hk : WAt E body (FQ R) tgt s') : WAt E body (FQ R) pt s := by
 subst hP; subst hn
 unfold Xbf at h
 split at h
 case h_2 => cases h
 rename_i k s1 hs1 qs he
 split at h
 case h_2 => cases h
 rename_i s2 rs hg
 split at h
 case h_2 => cases h
 rename_i s3 us ht
 cases h
 obtain ⟨h1, h2⟩ := Qan hp
 obtain ⟨h3, h4⟩ := Qan h2
 refine Qdj hΘ hm he h1 ?_
 have hent := (Qfy hg h3).trans (Qyj hfx ht h4)
 show WAt E body (FQ R) tgt s1
 unfold WAt at hk ⊢
 split at hk
 ·exact fun a w hr => hk a w (hent a w hr)
 ·exact Qu1 hent hk
 ·exact hk
inductive PH where
 | raw
 | own
 | ownS
 | ro
 | ref
 | agg (l : List PH)
def Qyb (Θ : Tys) (s : St) (h : H) : ResultVar → Option (AV × List Prop)
 | .tmp t => some (s.get t, [])
 | .cell p t => Qyu Θ s t h (s.get p)
def Qoe (Θ : Tys) (s : St) : List H → List ResultVar → Option (List AV × List Prop)
 | _, [] => some ([], [])
 | h :: hs, r :: rs => match Qyb Θ s h r, Qoe Θ s hs rs with
  | some (x, ps), some (xs, qs) => some (x :: xs, ps ++ qs)
  | _, _ => none
 | [], r :: rs => match Qyb Θ s .no r, Qoe Θ s [] rs with
  | some (x, ps), some (xs, qs) => some (x :: xs, ps ++ qs)
  | _, _ => none
theorem Qn8 {Θ : Tys} {s : St} {h : H} {r : ResultVar} {x : AV} {ps : List Prop} (he : Qyb Θ s h r = some (x, ps)) (hp : Qb5 ps) : resV Θ s r = some x := by
 cases r with
 | tmp t => simp only [Qyb] at he; cases he; rfl
 | cell p t => simp only [Qyb] at he; exact Qo0 he hp
theorem Qhy {Θ : Tys} {s : St} : ∀ {hs : List H} {rs : List ResultVar} {xs : List AV} {ps : List Prop}, Qoe Θ s hs rs = some (xs, ps) → Qb5 ps → Qqj Θ s rs = some xs
 | hs, [], xs, ps, he, hp => by cases hs <;> (simp only [Qoe] at he; cases he; rfl)
 | h :: hs, r :: rs, xs, ps, he, hp => by
  simp only [Qoe] at he
  split at he
  case h_2 => cases he
  rename_i h1 h2
  cases he
  obtain ⟨p1, p2⟩ := Qan hp
  simp only [Qqj, Qn8 h1 p1, Qhy h2 p2]
 | [], r :: rs, xs, ps, he, hp => by
  simp only [Qoe] at he
  split at he
  case h_2 => cases he
  rename_i h1 h2
  cases he
  obtain ⟨p1, p2⟩ := Qan hp
  simp only [Qqj, Qn8 h1 p1, Qhy h2 p2]
mutual
def pkC (s : St) (ks : List Bool) : PH → AV → AV → Option (List Prop × List Nat)
 | .raw, x, y => some ([x = y, Qap y = true], [])
 | .own, x, y => match y with
  | .own T sz zs => match x with
   | .lit (.slice none 0 0) => match zs with
    | [] => some ([], [])
    | _ => none
   | .sl i 0 len => match s.root i with
    | some R => if R.T = T then (if R.sz = sz then (if ks[i]? == some true then none else some ([Qac (R.xs.take len) = true, R.xs.take len = zs, Qaz zs = true], [i])) else none) else none
    | none => none
   | _ => none
  | _ => none
 | .ownS, x, y => match y with
  | .own T sz zs => match x with
   | .sl i 0 len => match s.root i with
    | some R => if R.T = T then (if R.sz = sz then (if ks.isEmpty then some ([Qac (R.xs.take len) = true, R.xs.take len = zs], [i]) else none) else none) else none
    | none => none
   | _ => none
  | _ => none
 | .ro, x, y => match x, y with
  | .ro sz xs, .ro sz' xs' => if sz = sz' then (if ks.isEmpty then some ([xs = xs'], []) else none) else none
  | _, _ => none
 | .ref, x, y => match x, y with
  | .sl i off len, .sl i' off' len' => if i = i' then (if ks[i]? == some true then some ([off = off', len = len'], []) else none) else none
  | _, _ => none
 | .agg l, x, y => match x, y with
  | .agg cs, .agg ds => Xa2 s ks l cs ds
  | .tup cs, .tup ds => Xa2 s ks l cs ds
  | _, _ => none
def Xa2 (s : St) (ks : List Bool) : List PH → List AV → List AV → Option (List Prop × List Nat)
 | [], [], [] => some ([], [])
 | h :: hs, c :: cs, d :: ds => match pkC s ks h c d, Xa2 s ks hs cs ds with
  | some (ps, is), some (qs, js) => some (ps ++ qs, is ++ js)
  | _, _ => none
 | _, _, _ => none
end
mutual
theorem Quq {w : World} {S U S2 U2 : Nat → Prop} {ρ ρ2 : Tab} : ∀ (x : AV) (u : Value) (f : List Nat), Qap x = true → repR w S U ρ x u f → repR w S2 U2 ρ2 x u []
 | .lit v, u, f, _, hr => by simp only [repR, rep] at hr ⊢; exact ⟨trivial, hr.2⟩
 | .agg cs, u, f, h, hr => by
  simp only [Qap] at h
  simp only [repR] at hr ⊢
  obtain ⟨vs, rfl, hr⟩ := hr
  exact ⟨vs, rfl, Qnz cs vs f h hr⟩
 | .tup cs, u, f, h, hr => by
  simp only [Qap] at h
  simp only [repR] at hr ⊢
  obtain ⟨vs, rfl, hr⟩ := hr
  exact ⟨vs, rfl, Qnz cs vs f h hr⟩
 | .dead, _, _, h, _ => by simp [Qap] at h
 | .ro _ _, _, _, h, _ => by simp [Qap] at h
 | .own _ _ _, _, _, h, _ => by simp [Qap] at h
 | .sl _ _ _, _, _, h, _ => by simp [Qap] at h
 | .ptr _ _ _, _, _, h, _ => by simp [Qap] at h
 | .rop _ _, _, _, h, _ => by simp [Qap] at h
 | .fn _ _, _, _, h, _ => by simp [Qap] at h
theorem Qnz {w : World} {S U S2 U2 : Nat → Prop} {ρ ρ2 : Tab} : ∀ (xs : List AV) (us : List Value) (f : List Nat), Qql xs = true → Qa7 w S U ρ xs us f → Qa7 w S2 U2 ρ2 xs us []
 | [], us, f, _, hr => by simp only [Qa7] at hr ⊢; exact ⟨hr.1, trivial⟩
 | c :: cs, us, f, h, hr => by
  simp only [Qql, Bool.and_eq_true] at h
  simp only [Qa7] at hr ⊢
  obtain ⟨u, us', f1, f2, rfl, rfl, h1, h2⟩ := hr
  exact ⟨u, us', [], [], rfl, rfl, Quq c u f1 h.1 h1, Qnz cs us' f2 h.2 h2⟩
end
def roS (ks : List Bool) (χ : Nat → Option Nat) (w : World) : Nat → Prop := fun b => ks.isEmpty = true ∧ Qb3 χ w b
mutual
theorem Qsw {E : Env} {s : St} {ks : List Bool} {a : Act} {w : World} {χ : Nat → Option Nat} {hd : Nat → Value} {ρ : Tab} (h : Qbg E s a w χ hd) (hρ : ∀ i, ks[i]? = some true → ρ i = tab s hd i) :
  ∀ (p : PH) (x y : AV) (ps : List Prop) (is : List Nat) (u : Value), repR w (Qb3 χ w) (· ∈ s.us) (tab s hd) x u [] → pkC s ks p x y = some (ps, is) → Qb5 ps → is.Nodup → ∃ g, repR w (roS ks χ w) (fun i => ks[i]? = some true) ρ y u g ∧ g.Nodup ∧ (∀ b ∈ g, ∃ i ∈ is, χ b = some i ∧ i ≠ JJ ∧ ks[i]? ≠ some true)
 | .raw, x, y, ps, is, u, hr, he, hp, hn => by
  simp only [pkC] at he
  cases he
  obtain ⟨rfl, h2, _⟩ := hp
  exact ⟨[], Quq _ _ _ h2 hr, by simp, by simp⟩
 | .own, x, y, ps, is, u, hr, he, hp, hn => by
  simp only [pkC] at he
  split at he
  case h_2 => cases he
  rename_i T sz zs
  split at he
  ·split at he
   case h_2 => cases he
   cases he
   have := Qed hr
   subst this
   exact ⟨[], by simp only [repR, rep]; exact ⟨[], [], World.ownsRow_nil w 0 _ _, by simp [Qbi], by simp [Value.ownBlock]⟩, by simp, by simp⟩
  ·rename_i i len
   split at he
   case h_2 => cases he
   rename_i R hR
   split at he
   case isFalse => cases he
   rename_i hT
   split at he
   case isFalse => cases he
   rename_i hS
   split at he
   case isTrue => cases he
   rename_i hk
   cases he
   obtain ⟨h1, h2, h3, _⟩ := hp
   obtain ⟨g, g1, g2, g3⟩ := Qrg h (.sl i 0 len) (.own T sz zs) u [] hr rfl (by simp only [pk, hR]; rw [if_pos h1, h2, hT, hS]) (by simp [pkI])
   refine ⟨g, ?_, g2, fun b hb => ?_⟩
   ·simp only [repR]
    exact Qn2 _ _ _ g1 h3
   ·obtain ⟨j, hj, h4, h5⟩ := g3 b hb
    have : j = i := by simpa [pkI] using hj
    subst this
    exact ⟨j, by simp, h4, h5, by simpa using hk⟩
  ·cases he
 | .ownS, x, y, ps, is, u, hr, he, hp, hn => by
  simp only [pkC] at he
  split at he
  case h_2 => cases he
  rename_i T sz zs
  split at he
  case h_2 => cases he
  rename_i i len
  split at he
  case h_2 => cases he
  rename_i R hR
  split at he
  case isFalse => cases he
  rename_i hT
  split at he
  case isFalse => cases he
  rename_i hS
  split at he
  case isFalse => cases he
  rename_i hk
  cases he
  obtain ⟨h1, h2, _⟩ := hp
  obtain ⟨g, g1, g2, g3⟩ := Qrg h (.sl i 0 len) (.own T sz zs) u [] hr rfl (by simp only [pk, hR]; rw [if_pos h1, h2, hT, hS]) (by simp [pkI])
  refine ⟨g, ?_, g2, fun b hb => ?_⟩
  ·simp only [repR]
   exact Qb2 _ _ _ g1 (fun b hb => ⟨hk, hb⟩) (fun _ _ => rfl) (fun _ _ => rfl)
  ·obtain ⟨j, hj, h4, h5⟩ := g3 b hb
   have : j = i := by simpa [pkI] using hj
   subst this
   refine ⟨j, by simp, h4, h5, ?_⟩
   have : ks = [] := by simpa using hk
   rw [this]; simp
 | .ro, x, y, ps, is, u, hr, he, hp, hn => by
  simp only [pkC] at he
  split at he
  case h_2 => cases he
  split at he
  case isFalse => cases he
  rename_i hs
  split at he
  case isFalse => cases he
  rename_i hk
  cases he
  obtain ⟨h1, _⟩ := hp
  subst h1; subst hs
  simp only [repR] at hr ⊢
  exact ⟨[], Qb2 _ _ _ hr (fun b hb => ⟨hk, hb⟩) (fun _ _ => rfl) (by simp), by simp, by simp⟩
 | .ref, x, y, ps, is, u, hr, he, hp, hn => by
  simp only [pkC] at he
  split at he
  case h_2 => cases he
  rename_i i off len i' off' len'
  split at he
  case isFalse => cases he
  rename_i hi
  split at he
  case isFalse => cases he
  rename_i hk
  cases he
  obtain ⟨h1, h2, _⟩ := hp
  subst h1; subst h2; subst hi
  have hk : ks[i]? = some true := by simpa using hk
  simp only [repR] at hr ⊢
  exact ⟨[], ⟨rfl, hk, by rw [hρ i hk]; exact hr.2.2⟩, by simp, by simp⟩
 | .agg l, x, y, ps, is, u, hr, he, hp, hn => by
  simp only [pkC] at he
  split at he
  ·rename_i cs ds
   simp only [repR] at hr ⊢
   obtain ⟨vs, rfl, hr⟩ := hr
   obtain ⟨g, g1, g2, g3⟩ := Qm2 h hρ l cs ds ps is vs hr he hp hn
   exact ⟨g, ⟨vs, rfl, g1⟩, g2, g3⟩
  ·rename_i cs ds
   simp only [repR] at hr ⊢
   obtain ⟨vs, rfl, hr⟩ := hr
   obtain ⟨g, g1, g2, g3⟩ := Qm2 h hρ l cs ds ps is vs hr he hp hn
   exact ⟨g, ⟨vs, rfl, g1⟩, g2, g3⟩
  ·cases he
theorem Qm2 {E : Env} {s : St} {ks : List Bool} {a : Act} {w : World} {χ : Nat → Option Nat} {hd : Nat → Value} {ρ : Tab} (h : Qbg E s a w χ hd) (hρ : ∀ i, ks[i]? = some true → ρ i = tab s hd i) :
  ∀ (l : List PH) (xs ys : List AV) (ps : List Prop) (is : List Nat) (us : List Value), Qa7 w (Qb3 χ w) (· ∈ s.us) (tab s hd) xs us [] → Xa2 s ks l xs ys = some (ps, is) → Qb5 ps → is.Nodup → ∃ g, Qa7 w (roS ks χ w) (fun i => ks[i]? = some true) ρ ys us g ∧ g.Nodup ∧ (∀ b ∈ g, ∃ i ∈ is, χ b = some i ∧ i ≠ JJ ∧ ks[i]? ≠ some true)
 | [], [], [], ps, is, us, hr, he, hp, hn => by
  simp only [Qa7] at hr ⊢
  exact ⟨[], ⟨hr.1, rfl⟩, by simp, by simp⟩
 | p :: l, c :: cs, d :: ds, ps, is, us, hr, he, hp, hn => by
  simp only [Xa2] at he
  split at he
  case h_2 => cases he
  rename_i qs js rs ks' h1 h2
  cases he
  simp only [Qa7] at hr ⊢
  obtain ⟨u, us', f1, f2, rfl, hf', k1, k2⟩ := hr
  obtain ⟨rfl, rfl⟩ := List.append_eq_nil_iff.1 hf'.symm
  obtain ⟨p1, p2⟩ := Qan hp
  rw [List.nodup_append] at hn
  obtain ⟨g1, a1, a2, a3⟩ := Qsw h hρ p c d qs js u k1 h1 p1 hn.1
  obtain ⟨g2, b1, b2, b3⟩ := Qm2 h hρ l cs ds rs ks' us' k2 h2 p2 hn.2.1
  refine ⟨g1 ++ g2, ⟨u, us', g1, g2, rfl, rfl, a1, b1⟩, ?_, ?_⟩
  ·rw [List.nodup_append]
   refine ⟨a2, b2, ?_⟩
   intro b hb b' hb' e
   subst e
   obtain ⟨i, hi, hi2, _⟩ := a3 b hb
   obtain ⟨j, hj, hj2, _⟩ := b3 b hb'
   rw [hi2] at hj2; cases hj2
   exact hn.2.2 i hi i hj rfl
  ·intro b hb
   rcases List.mem_append.1 hb with hb | hb
   ·obtain ⟨i, hi, hx⟩ := a3 b hb; exact ⟨i, List.mem_append_left _ hi, hx⟩
   ·obtain ⟨i, hi, hx⟩ := b3 b hb; exact ⟨i, List.mem_append_right _ hi, hx⟩
 | [], [], _ :: _, _, _, _, _, he, _, _ => by simp [Xa2] at he
 | [], _ :: _, _, _, _, _, _, he, _, _ => by simp [Xa2] at he
 | _ :: _, [], _, _, _, _, _, he, _, _ => by simp [Xa2] at he
 | _ :: _, _ :: _, [], _, _, _, _, he, _, _ => by simp [Xa2] at he
end
def Qyy (s : St) (ks : List Bool) : Nat → List Qao → Option (List Prop)
 | _, [] => some []
 | i, R :: rs => match Qyy s ks (i + 1) rs with
  | some ps => if ks[i]? == some true then match s.root i with
    | some Q => if Q.T = R.T then (if Q.sz = R.sz then some ((Q.xs = R.xs) :: (Qac R.xs = true) :: (Qaz R.xs = true) :: ps) else none) else none
    | none => none
   else some ps
  | none => none
def Kept (s : St) (ks : List Bool) (rs : List Qao) : Prop := ∀ (i : Nat) (R : Qao), rs[i]? = some R → ks[i]? = some true → s.root i = some R ∧ Qac R.xs = true ∧ Qaz R.xs = true
theorem Qvh {s : St} {ks : List Bool} : ∀ {rs : List Qao} {k : Nat} {ps : List Prop}, Qyy s ks k rs = some ps → Qb5 ps → ∀ (i : Nat) (R : Qao), rs[i]? = some R → ks[k + i]? = some true → s.root (k + i) = some R ∧ Qac R.xs = true ∧ Qaz R.xs = true
 | [], k, ps, h, hp, i, R, hR, _ => by simp at hR
 | X :: rs, k, ps, h, hp, i, R, hR, hk => by
  simp only [Qyy] at h
  split at h
  case h_2 => cases h
  rename_i qs hq
  cases i with
  | zero =>
   simp at hR
   subst hR
   rw [Nat.add_zero] at hk ⊢
   rw [hk] at h
   simp only [beq_self_eq_true, if_true] at h
   split at h
   case h_2 => cases h
   rename_i Q hQ
   split at h
   case isFalse => cases h
   rename_i hT
   split at h
   case isFalse => cases h
   rename_i hS
   cases h
   obtain ⟨h1, h2, h3, _⟩ := hp
   refine ⟨?_, h2, h3⟩
   rw [hQ]
   obtain ⟨qT, qS, qx⟩ := Q
   obtain ⟨rT, rS, rx⟩ := X
   simp only at hT hS h1
   rw [hT, hS, h1]
  | succ i =>
   have hp' : Qb5 qs := by
    split at h
    ·split at h
     case h_2 => cases h
     split at h
     case isFalse => cases h
     split at h
     case isFalse => cases h
     cases h
     exact hp.2.2.2
    ·cases h; exact hp
   have := Qvh hq hp' i R (by simpa using hR) (by rw [show k + 1 + i = k + (i + 1) by omega]; exact hk)
   rw [show k + 1 + i = k + (i + 1) by omega] at this
   exact this
def Qe2 (Θ : Tys) (rv : List ResultVar) (ks : List Bool) (rs : List Qao) (res : AV) (E : Env) (s : St) : Prop :=
 ∃ s', Ent E s s' ∧ ∃ xs, Qqj Θ s' rv = some xs ∧ Kept s' ks rs ∧
  ∀ a w χ hd ρ, Qbg E s' a w χ hd → (∀ i, ks[i]? = some true → ρ i = tab s' hd i) → ∀ u, repR w (Qb3 χ w) (· ∈ s'.us) (tab s' hd) (one xs) u [] →
   ∃ g, repR w (roS ks χ w) (fun i => ks[i]? = some true) ρ res u g ∧ g.Nodup ∧ ∀ b ∈ g, ∃ i, χ b = some i ∧ i ≠ JJ ∧ ks[i]? ≠ some true
def Qyc (Θ : Tys) (P : Program) (n : Nat) (body : Code) (rv : List ResultVar) (ks : List Bool) (rs : List Qao) (pt : List Bool) (s : St) (hs : List Hn) (rh : List H) (ph : PH) (res : AV) : Option (List Prop) :=
 match Qw4 Θ P n body none 10000 false (some pt) 0 s hs with
 | some (k, s1, hs1, ps) => match ghs k hs1 s1 with
  | some (s2, [], qs) => match Qoe Θ s2 rh rv with
   | some (xs, rs') => match Qyy s2 ks 0 rs, pkC s2 ks ph (one xs) res with
    | some ks', some (ts, is) => if ndB is then some (ps ++ (qs ++ (rs' ++ (ks' ++ ts)))) else none
    | _, _ => none
   | none => none
  | _ => none
 | none => none
theorem go_ret {E : Env} {Θ : Tys} (hΘ : TOK E.P Θ) (hm : E.P.follows .mixedOrders = true) {body : Code} {P : Program} (hP : E.P = P) {n : Nat} (hn : E.n = n) {rv : List ResultVar} {ks : List Bool} {rs : List Qao} {pt : List Bool} {s : St} {hs : List Hn} {rh : List H} {ph : PH} {res : AV} {ps : List Prop}
  (h : Qyc Θ P n body rv ks rs pt s hs rh ph res = some ps) (hp : Qb5 ps) : WAt E body (FQ (Qe2 Θ rv ks rs res E)) pt s := by
 subst hP; subst hn
 unfold Qyc at h
 split at h
 case h_2 => cases h
 rename_i k s1 hs1 qs he
 split at h
 case h_2 => cases h
 rename_i s2 rs' hg
 split at h
 case h_2 => cases h
 rename_i xs vs hx
 split at h
 case h_2 => cases h
 rename_i kps ts is hkp hpk
 split at h
 case isFalse => cases h
 rename_i hnd
 cases h
 obtain ⟨h1, h2⟩ := Qan hp
 obtain ⟨h3, h4⟩ := Qan h2
 obtain ⟨h5, h6⟩ := Qan h4
 obtain ⟨h7, h8⟩ := Qan h6
 refine Qdj (tgt := none) hΘ hm he h1 ?_
 refine ⟨.inl rfl, s2, Qfy hg h3, xs, Qhy hx h5, fun i R hR hk => ?_, ?_⟩
 ·have := Qvh hkp h7 i R hR (by rw [Nat.zero_add]; exact hk)
  rw [Nat.zero_add] at this
  exact this
 ·intro a w χ hd ρ hr hρ u hu
  obtain ⟨g, g1, g2, g3⟩ := Qsw hr hρ _ _ _ _ _ u hu hpk h8 (Qjx hnd)
  exact ⟨g, g1, g2, fun b hb => by obtain ⟨i, _, hi⟩ := g3 b hb; exact ⟨i, hi⟩⟩
end Go.T
set_option linter.unusedVariables false
namespace Go.T
open Go Go.RowKit Go.Proofs
mutual
theorem Qwo {w : World} {S U : Nat → Prop} {ρ : Tab} (hU : ∀ i, ¬ U i) : ∀ (x : AV) (u : Value) (f : List Nat), repR w S U ρ x u f → rep w S x u f
 | .sl i _ _, u, f, hr => by simp only [repR] at hr; exact absurd hr.2.1 (hU i)
 | .ptr i _ _, u, f, hr => by simp only [repR] at hr; exact absurd hr.2.1 (hU i)
 | .agg cs, u, f, hr => by
  simp only [repR] at hr
  simp only [rep]
  obtain ⟨vs, hu, hr⟩ := hr
  exact ⟨vs, hu, Qmu hU cs vs f hr⟩
 | .tup cs, u, f, hr => by
  simp only [repR] at hr
  simp only [rep]
  obtain ⟨vs, hu, hr⟩ := hr
  exact ⟨vs, hu, Qmu hU cs vs f hr⟩
 | .fn g cs, u, f, hr => by
  simp only [repR] at hr
  simp only [rep]
  obtain ⟨vs, hu, hr⟩ := hr
  exact ⟨vs, hu, Qmu hU cs vs f hr⟩
 | .dead, u, f, hr => by simpa only [repR] using hr
 | .lit _, u, f, hr => by simpa only [repR] using hr
 | .ro _ _, u, f, hr => by simpa only [repR] using hr
 | .own _ _ _, u, f, hr => by simpa only [repR] using hr
 | .rop _ _, u, f, hr => by simpa only [repR] using hr
theorem Qmu {w : World} {S U : Nat → Prop} {ρ : Tab} (hU : ∀ i, ¬ U i) : ∀ (xs : List AV) (us : List Value) (f : List Nat), Qa7 w S U ρ xs us f → Qcy w S xs us f
 | [], us, f, hr => by simpa only [Qa7, Qcy] using hr
 | c :: cs, us, f, hr => by
  simp only [Qa7] at hr
  simp only [Qcy]
  obtain ⟨u, us', f1, f2, hv, hf, h1, h2⟩ := hr
  exact ⟨u, us', f1, f2, hv, hf, Qwo hU c u f1 h1, Qmu hU cs us' f2 h2⟩
end
open Classical in
theorem Qx8 {P : Program} {Θ : Tys} (hΘ : TOK P Θ) {f : FuncId} {fn : Func} {c : Code} (hf : P.funcs[f]? = some fn) (hname : (fn.name == "runtime.NumGoroutine") = false) (hb : fn.body = some c) {args : List AV} {res : AV} (hn : args.length ≤ fn.ntmps)
  (h : ∀ E : Env, E.P = P → E.n = fn.ntmps → (∀ p, p ∈ E.fx → p.1 ∈ ([] : List Nat)) → WAt E c (FQ (Qe2 Θ fn.results.toList [] [] res E)) [] (Qtm args)) : Qaa P f args res := by
 refine ⟨enters_of hf hname hb, ?_⟩
 intro w S vals hv hS
 have hvl := Qoh _ _ _ hv
 refine calls_of_wp hf hb ?_
 let E : Env := ⟨P, w, fn.ntmps, fun _ => False, fun b => b < w.heap.size ∧ ¬ S b, []⟩
 let χ : Nat → Option Nat := fun b => if b < w.heap.size ∧ ¬ S b then some JJ else none
 have hfree : ∀ b, S b → Qb3 χ w b := fun b hb => ⟨by simp [χ, hb], hS b hb⟩
 have hrel : Qbg E (Qtm args) { tmps := vals.toArray ++ Array.replicate (fn.ntmps - vals.toArray.size) undef, defers := [] } w χ (fun _ => undef) := by
  refine ⟨rfl, by simp [E]; omega, rfl, Tp.refl _, rfl, Nat.le_refl _, fun _ _ _ => rfl, (fun _ h => by cases h), by simp [Qtm], rfl, fun b hb => by simp only [χ]; rw [if_pos hb], ?_, ?_, ?_⟩
  ·intro b r hbr
   simp only [χ] at hbr
   split at hbr
   ·rename_i hh; cases hbr; exact ⟨fun e => absurd rfl e, hh.1⟩
   ·cases hbr
  ·intro i R hR
   simp [St.root, Qtm] at hR
  ·intro t
   rw [Qyk]
   cases ht : args[t]? with
   | none => exact Qc7 _
   | some x =>
    obtain ⟨v, hvt, hr⟩ := Quw _ _ _ _ hv ht
    have : (vals.toArray ++ Array.replicate (fn.ntmps - vals.toArray.size) undef).getD t undef = v := by
     have hlt : t < vals.length := (List.getElem?_eq_some_iff.1 hvt).1
     rw [Array.getD_eq_getD_getElem?, Array.getElem?_append_left (by simpa using hlt)]
     simp [hvt]
    simp only [Option.getD_some]
    rw [this]
    exact Qoi _ _ _ (Qb2 _ _ _ hr hfree (fun _ _ => rfl) (fun _ _ => rfl))
 refine wp_mono (Quj (h E rfl rfl (fun p hp => by cases hp)) _ w ⟨χ, _, hrel⟩) ?_
 rintro e a' w' ⟨s0, ⟨he, s', hent, xs, hxs, _, hpk⟩, hr0⟩
 obtain ⟨χ', hd', hr⟩ := hent a' w' hr0
 obtain ⟨v, hv1, hv2⟩ := Qog (E := E) hΘ hr hxs
 obtain ⟨g, hg1, hg2, hg3⟩ := hpk a' w' χ' hd' (fun _ => none) hr (fun i hi => by simp at hi) v hv2
 have hg1 := Qwo (fun i hi => by simp at hi) _ _ _ hg1
 have hR : ∃ v2 fp, Ending.returned v = .returned v2 ∧ Below w.heap.size w w' ∧ w.drawn ≤ w'.drawn ∧ rep w' (fun b => (S b ∨ w.heap.size ≤ b) ∧ b < w'.heap.size ∧ b ∉ fp) res v2 fp ∧ fp.Nodup ∧ ∀ b ∈ fp, w.heap.size ≤ b := by
  refine ⟨v, g, rfl, ⟨hr.os, hr.tape.1, hr.output, hr.hsz, fun k hk => hr.frame k hk (fun h => h)⟩, hr.tape.2, ?_, hg2, ?_⟩
  ·refine Qb2 _ _ _ hg1 (fun b hb => ⟨?_, hb.2.2, ?_⟩) (fun _ _ => rfl) (fun _ _ => rfl)
   ·by_cases hlt : b < w.heap.size
    ·left
     apply Classical.byContradiction
     intro hns
     have := hr.jk b ⟨hlt, hns⟩
     rw [hb.2.1] at this; cases this
    ·right; omega
   ·intro hm
    obtain ⟨i, hi, _⟩ := hg3 b hm
    rw [hb.2.1] at hi; cases hi
  ·intro b hb
   obtain ⟨i, hi, hij, _⟩ := hg3 b hb
   rcases (hr.col b i hi).1 hij with h1 | h1
   ·exact h1
   ·exact h1.elim
 rcases he with rfl | rfl
 ·exact ⟨hr.defers, v, hv1, hR⟩
 ·exact ⟨hr.defers, v, hv1, hR⟩
def Qm5 (args : List AV) (rs : List Qao) : St := ⟨(args.zipIdx).map (fun p => (p.2, p.1)), rs.zipIdx.map (fun p => (p.2, some p.1)), (List.range rs.length) ++ [JJ]⟩
theorem Qia : ∀ (rs : List Qao) (k i : Nat), ((rs.zipIdx k).map (fun p => (p.2, some p.1))).lookup (k + i) = (rs[i]?).map some
 | [], k, i => by simp
 | R :: rs, k, i => by
  rw [List.zipIdx_cons, List.map_cons]
  cases i with
  | zero => simp
  | succ i =>
   rw [Qa8 (by simp), show k + (i + 1) = (k + 1) + i by omega, Qia rs (k + 1) i]
   rfl
theorem Qjm (args : List AV) (rs : List Qao) (i : Nat) : (Qm5 args rs).root i = rs[i]? := by
 have := Qia rs 0 i
 rw [Nat.zero_add] at this
 simp only [St.root, Qm5, this]
 cases rs[i]? <;> rfl
theorem Qw3 (args : List AV) (rs : List Qao) (t : Nat) : (Qm5 args rs).get t = (args[t]?).getD .dead := by
 have := Qh9 args 0 t
 rw [Nat.zero_add] at this
 simp only [St.get, Qm5, this]
open Classical in
theorem Qgv {P : Program} {Θ : Tys} (hΘ : TOK P Θ) {f : FuncId} {fn : Func} {c : Code} (hf : P.funcs[f]? = some fn) (hname : (fn.name == "runtime.NumGoroutine") = false) (hb : fn.body = some c) {rs rs' : List Qao} {ks : List Bool} {args : List AV} {res : AV} (hn : args.length ≤ fn.ntmps) (hkl : ks.length = rs.length) (hrl : rs.length < JJ) (hne : ks.isEmpty = false) {fr : List Nat} (hfr : ∀ i, i < rs.length → ks[i]? = some true → i ∈ fr)
    (h : ∀ E : Env, E.P = P → E.n = fn.ntmps → (∀ p, p ∈ E.fx → p.1 ∈ fr) → WAt E c (FQ (Qe2 Θ fn.results.toList ks rs' res E)) [] (Qm5 args rs)) : Qd3 P f rs args ks rs' res := by
  refine ⟨enters_of hf hname hb, ?_⟩
  intro w S hd fp vals hrow hnil hdj hsep hS hargs
  have hvl := Qar _ _ _ hargs
  refine calls_of_wp hf hb ?_
  have hpos : ∀ i b, b ∈ fp i → i < rs.length := by
    intro i b hb
    apply Classical.byContradiction
    intro hne
    rw [hnil i (by rw [List.getElem?_eq_none_iff]; omega)] at hb; cases hb
  have hlt : ∀ i b, b ∈ fp i → b < w.heap.size := by
    intro i b hb
    have hi := hpos i b hb
    obtain ⟨_, ⟨vs, fp0, ho, hr, he⟩, _⟩ := hrow i (rs[i]) (by simp [hi])
    rw [he] at hb
    rcases List.mem_append.1 hb with hb | hb
    · exact Qgz ho b hb
    · exact Qmx _ _ _ _ hr b hb
  let fx : List (Nat × Value) := ((List.range rs.length).filter fun i => ks[i]? == some true).map fun i => (i, hd i)
  let E : Env := ⟨P, w, fn.ntmps, fun b => ∃ i, b ∈ fp i, fun b => b < w.heap.size ∧ ¬ S b ∧ ¬ ∃ i, b ∈ fp i, fx⟩
  have hfxm : ∀ p, p ∈ fx → p.1 < rs.length ∧ ks[p.1]? = some true ∧ p.2 = hd p.1 := by
    intro p hp
    simp only [fx, List.mem_map, List.mem_filter, List.mem_range] at hp
    obtain ⟨i, ⟨h1, h2⟩, rfl⟩ := hp
    exact ⟨h1, by simpa using h2, rfl⟩
  let χ : Nat → Option Nat := fun b => if hb : ∃ i, b ∈ fp i then some (Classical.choose hb) else if b < w.heap.size ∧ ¬ S b then some JJ else none
  have hχ : ∀ i b, b ∈ fp i → χ b = some i := by
    intro i b hb
    have hex : ∃ i, b ∈ fp i := ⟨i, hb⟩
    simp only [χ]
    rw [dif_pos hex, hdj _ _ b (Classical.choose_spec hex) hb]
  have hfree : ∀ b, S b → Qb3 χ w b := fun b hb => ⟨by
    simp only [χ]
    rw [dif_neg (fun ⟨i, hi⟩ => hsep i b hi hb), if_neg (fun h => h.2 hb)], hS b hb⟩
  let s0 := Qm5 args rs
  have htab : tab s0 hd = hdT rs hd := by
    funext i
    simp only [tab, s0, Qjm, hdT]
  have hus : ∀ i, i < rs.length → i ∈ s0.us := fun i hi => by simp [s0, Qm5, hi]
  have hrel : Qbg E s0 { tmps := vals.toArray ++ Array.replicate (fn.ntmps - vals.toArray.size) undef, defers := [] } w χ hd := by
    refine ⟨rfl, by simp [E]; omega, rfl, Tp.refl _, rfl, Nat.le_refl _, fun _ _ _ => rfl, fun p hp => ⟨hus _ (hfxm p hp).1, (hfxm p hp).2.2.symm⟩, by simp [s0, Qm5], ?_, ?_, ?_, ?_, ?_⟩
    · rw [Qjm, List.getElem?_eq_none_iff]; omega
    · intro b hb
      simp only [χ]
      rw [dif_neg hb.2.2, if_pos ⟨hb.1, hb.2.1⟩]
    · intro b r hbr
      simp only [χ] at hbr
      split at hbr
      · rename_i hh
        cases hbr
        exact ⟨fun _ => .inr hh, hlt _ b (Classical.choose_spec hh)⟩
      · split at hbr
        · rename_i hh; cases hbr; exact ⟨fun e => absurd rfl e, hh.1⟩
        · cases hbr
    · intro i R hR
      rw [Qjm] at hR
      obtain ⟨hz, ⟨vs, fp0, ho, hr, he⟩, hnd⟩ := hrow i R hR
      refine ⟨hus i (List.getElem?_eq_some_iff.1 hR).1, fp i, ⟨hz, vs, fp0, ho, Qez _ _ _ (Qdb _ _ _ _ hr (fun b hb => hb.elim) (fun b hb => hb.elim) (fun _ _ => rfl)), he⟩, hnd, fun b hb => hχ i b hb⟩
    · intro t
      rw [Qw3]
      cases ht : args[t]? with
      | none => exact Qc7 _
      | some x =>
        obtain ⟨v, hvt, hr⟩ := Qkn _ _ _ _ hargs ht
        have : (vals.toArray ++ Array.replicate (fn.ntmps - vals.toArray.size) undef).getD t undef = v := by
          have hlt : t < vals.length := (List.getElem?_eq_some_iff.1 hvt).1
          rw [Array.getD_eq_getD_getElem?, Array.getElem?_append_left (by simpa using hlt)]
          simp [hvt]
        simp only [Option.getD_some]
        rw [this]
        exact Qbc _ _ _ hr hfree (fun _ _ => rfl) (by simp) (fun i hi => hus i hi) (fun i _ y hy => by rw [htab] at hy; exact hy)
  refine wp_mono (Quj (h E rfl rfl (fun p hp => hfr _ (hfxm p hp).1 (hfxm p hp).2.1)) _ w ⟨χ, _, hrel⟩) ?_
  rintro e a' w' ⟨s1, ⟨he, s', hent, xs, hxs, hkept, hpk⟩, hr0⟩
  obtain ⟨χ', hd', hr⟩ := hent a' w' hr0
  obtain ⟨v, hv1, hv2⟩ := Qog (E := E) hΘ hr hxs
  have hhd : ∀ i, i < rs.length → ks[i]? = some true → hd' i = hd i := by
    intro i hi hk
    exact (hr.fx (i, hd i) (by
      simp only [E, fx, List.mem_map, List.mem_filter, List.mem_range]
      exact ⟨i, ⟨hi, by simp [hk]⟩, rfl⟩)).2
  have hkpos : ∀ i, ks[i]? = some true → i < rs.length := fun i hk => by have := (List.getElem?_eq_some_iff.1 hk).1; omega
  obtain ⟨g, hg1, hg2, hg3⟩ := hpk a' w' χ' hd' (tab s' hd') hr (fun i _ => rfl) v hv2
  have hcolE : ∀ b i, χ' b = some i → i ≠ JJ → ((∃ j, b ∈ fp j) ∨ w.heap.size ≤ b) ∧ b < w'.heap.size := by
    intro b i hb hi
    have := hr.col b i hb
    refine ⟨?_, this.2⟩
    rcases this.1 hi with h1 | h1
    · exact .inr h1
    · exact .inl h1
  let fp' : Nat → List Nat := fun i => if hk : ks[i]? = some true ∧ ∃ R, rs'[i]? = some R ∧ s'.root i = some R then Classical.choose (hr.rts i (Classical.choose hk.2) (Classical.choose_spec hk.2).2).2 else []
  have hfp' : ∀ i R, rs'[i]? = some R → ks[i]? = some true → Qgd w' (Qb3 χ' w') (· ∈ s'.us) (tab s' hd') R (hd' i) (fp' i) ∧ (fp' i).Nodup ∧ ∀ b ∈ fp' i, χ' b = some i := by
    intro i R hR hk
    have hk2 : ks[i]? = some true ∧ ∃ R, rs'[i]? = some R ∧ s'.root i = some R := ⟨hk, R, hR, (hkept i R hR hk).1⟩
    have e : fp' i = Classical.choose (hr.rts i (Classical.choose hk2.2) (Classical.choose_spec hk2.2).2).2 := by simp only [fp']; rw [dif_pos hk2]
    have := Classical.choose_spec (hr.rts i (Classical.choose hk2.2) (Classical.choose_spec hk2.2).2).2
    have eR : Classical.choose hk2.2 = R := by
      exact Option.some.inj ((Classical.choose_spec hk2.2).1.symm.trans hR)
    rw [← e] at this
    rw [eR] at this
    exact this
  have hfpm : ∀ i b, b ∈ fp' i → ks[i]? = some true ∧ χ' b = some i := by
    intro i b hb
    by_cases hk2 : ks[i]? = some true ∧ ∃ R, rs'[i]? = some R ∧ s'.root i = some R
    · obtain ⟨hk, R, hR, _⟩ := hk2
      exact ⟨hk, (hfp' i R hR hk).2.2 b hb⟩
    · simp only [fp'] at hb
      rw [dif_neg hk2] at hb; cases hb
  have hR : ∃ (v2 : Value) (fp2 : Nat → List Nat) (g : List Nat), Ending.returned v = .returned v2 ∧ w'.os = w.os ∧ Tp w w' ∧ w'.output = w.output ∧ w.heap.size ≤ w'.heap.size ∧
      (∀ k, k < w.heap.size → (∀ i, k ∉ fp i) → w'.heap[k]? = w.heap[k]?) ∧
      (∀ (i : Nat) (R' : Qao), rs'[i]? = some R' → ks[i]? = some true → Row w' R'.T R'.sz (hd i) R'.xs (fp2 i) ∧ (fp2 i).Nodup) ∧
      (∀ i : Nat, ks[i]? ≠ some true → fp2 i = []) ∧ (∀ i b, b ∈ fp2 i → (∃ j, b ∈ fp j) ∨ w.heap.size ≤ b) ∧
      repR w' NS (fun i => ks[i]? = some true) (hdT rs' hd) res v2 g ∧ g.Nodup ∧ (∀ b ∈ g, ((∃ j, b ∈ fp j) ∨ w.heap.size ≤ b) ∧ b < w'.heap.size) ∧
      (∀ i j b, b ∈ fp2 i → b ∈ fp2 j → i = j) ∧ (∀ i b, b ∈ fp2 i → b ∉ g ∧ b < w'.heap.size) := by
    refine ⟨v, fp', g, rfl, hr.os, hr.tape, hr.output, hr.hsz, fun k hk1 hk2 => hr.frame k hk1 (fun ⟨i, hi⟩ => hk2 i hi), ?_, ?_, ?_, ?_, hg2, ?_, ?_, ?_⟩
    · intro i R' hR' hk
      obtain ⟨⟨_, vs, fp0, ho, hrr, he⟩, h2, _⟩ := hfp' i R' hR' hk
      obtain ⟨_, t1, t2⟩ := hkept i R' hR' hk
      rw [hhd i (hkpos i hk) hk] at ho he
      exact ⟨⟨vs, fp0, ho, Qii _ _ _ _ (Qd9 _ _ _ hrr t1) t2, he⟩, h2⟩
    · intro i hk
      simp only [fp']
      rw [dif_neg (fun h => hk h.1)]
    · intro i b hb
      obtain ⟨hk, hc⟩ := hfpm i b hb
      exact (hcolE b i hc (fun e => by have := hkpos i hk; omega)).1
    · refine Qbc _ _ _ hg1 (fun b hb => by have := hb.1; rw [hne] at this; cases this) (fun _ _ => rfl) (fun _ _ => rfl) (fun i hi => hi) (fun i hi y hy => ?_)
      have hi2 := hkpos i hi
      simp only [hdT, Option.map_eq_some_iff] at hy
      obtain ⟨R, hR, rfl⟩ := hy
      simp only [tab, (hkept i R hR hi).1, Option.map_some, hhd i hi2 hi]
    · intro b hb
      obtain ⟨i, hi, hij, _⟩ := hg3 b hb
      exact hcolE b i hi hij
    · intro i j b hi hj
      have h1 := (hfpm i b hi).2
      rw [(hfpm j b hj).2] at h1
      cases h1; rfl
    · intro i b hb
      obtain ⟨hk, hc⟩ := hfpm i b hb
      refine ⟨fun hg => ?_, (hcolE b i hc (fun e => by have := hkpos i hk; omega)).2⟩
      obtain ⟨j, hj, _, hnk⟩ := hg3 b hg
      rw [hc] at hj; cases hj
      exact hnk hk
  rcases he with rfl | rfl
  · exact ⟨hr.defers, v, hv1, hR⟩
  · exact ⟨hr.defers, v, hv1, hR⟩
end Go.T
