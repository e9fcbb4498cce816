/- Lemmas for FnExactAddPairs; no condition. -/

import Derived.Test.YtihgcgccajikpaaTK
set_option linter.unusedVariables false
namespace Go.T
open Go Go.RowKit Go.Proofs

def Ent (E : Env) (s s' : St) : Prop := ∀ a w, Rel E s a w → Rel E s' a w
theorem Ent.refl (E : Env) (s : St) : Ent E s s := fun _ _ h => h
theorem Ent.trans {E : Env} {s t u : St} (h : Ent E s t) (k : Ent E t u) : Ent E s u := fun a w x => k a w (h a w x)

/- ------------------------------------------------ a statement's operations -/
inductive RegTo (E : Env) (ops : Array Oper) : List Oper → St → St → Prop
  | nil (s : St) : RegTo E ops [] s s
  | op {o : Oper} {rest : List Oper} {s s1 s2 : St} : o.guard = none → OpTo E o s s1 → RegTo E ops rest s1 s2 → RegTo E ops (o :: rest) s s2
  | yes {o : Oper} {rest : List Oper} {s s1 s2 : St} {j d : Nat} {b : Bool} : o.guard = some (j, b) → ((ops[j]?).bind (·.dst)) = some d → d < E.n → s.get d = .lit (.bool b) → OpTo E o s s1 → RegTo E ops rest s1 s2 → RegTo E ops (o :: rest) s s2
  | no {o : Oper} {rest : List Oper} {s s2 : St} {j d : Nat} {b c : Bool} : o.guard = some (j, b) → ((ops[j]?).bind (·.dst)) = some d → d < E.n → s.get d = .lit (.bool c) → c ≠ b → okD E.n o.dst = true → RegTo E ops rest (s.putO o.dst .dead) s2 → RegTo E ops (o :: rest) s s2
  | ent {rest : List Oper} {s s1 s2 : St} : Ent E s s1 → RegTo E ops rest s1 s2 → RegTo E ops rest s s2

theorem yielded_lit {E : Env} {s : St} {a : Act} {w : World} (h : Rel E s a w) {ops : Array Oper} {j d : Nat} {b : Bool} (hj : ((ops[j]?).bind (·.dst)) = some d) (hd : d < E.n) (hg : s.get d = .lit (.bool b)) : yielded ops a.tmps j = some b := by
  obtain ⟨χ, hd', h⟩ := h
  have := h.slots d
  rw [hg] at this
  have := lit_inv this
  unfold yielded
  rw [hj, Option.bind_some]
  have hs : d < a.tmps.size := by rw [h.size]; exact hd
  rw [Array.getD_eq_getD_getElem?, Array.getElem?_eq_getElem hs, Option.getD_some] at this
  rw [Array.getElem?_eq_getElem hs, this]

theorem regTo_wp {E : Env} {ops : Array Oper} {l : List Oper} {s s' : St} (h : RegTo E ops l s s') {Q : Exit → Act → World → Prop} : ∀ a w, Rel E s a w → (∀ a' w', Rel E s' a' w' → Q .normal a' w') → wpList E.P ops Q l a w := by
  induction h with
  | nil s => intro a w hr hq; exact wpList_nil (hq a w hr)
  | op hg ho _ ih =>
    intro a w hr hq
    refine wpList_plain hg (fun K hK => ?_)
    exact ho a w hr K Q (fun a' w' hr' => hK _ _ (ih a' w' hr' hq))
  | yes hg hj hd hs ho _ ih =>
    intro a w hr hq
    unfold wpList
    have hy := yielded_lit hr hj hd hs
    rw [if_pos (by simp [Region.wanted, hg, hy])]
    exact .inl (ho a w hr _ Q (fun a' w' hr' => ih a' w' hr' hq))
  | no hg hj hd hs hne hok _ ih =>
    intro a w hr hq
    unfold wpList
    have hy := yielded_lit hr hj hd hs
    rw [if_neg (by simp [Region.wanted, hg, hy, hne])]
    obtain ⟨χ, hd', h0⟩ := hr
    exact ih _ w ⟨χ, hd', h0.putO hok (repR_dead _)⟩ hq
  | ent he _ ih => intro a w hr hq; exact ih a w (he a w hr) hq

/- ------------------------------------------------ code -/
def TWp (E : Env) (c : Code) (Q : Exit → St → Prop) (s : St) : Prop := ∀ a w, Rel E s a w → c.wp E.P (fun e a' w' => ∃ s', Q e s' ∧ Rel E s' a' w') a w

theorem twp_mono {E : Env} {c : Code} {Q Q' : Exit → St → Prop} {s : St} (h : TWp E c Q s) (hq : ∀ e s, Q e s → Q' e s) : TWp E c Q' s :=
  fun a w hr => wp_mono (h a w hr) fun e a' w' ⟨s', h1, h2⟩ => ⟨s', hq e s' h1, h2⟩
theorem twp_ent {E : Env} {c : Code} {Q : Exit → St → Prop} {s s' : St} (he : Ent E s s') (h : TWp E c Q s') : TWp E c Q s := fun a w hr => h a w (he a w hr)
theorem twp_skip {E : Env} {Q : Exit → St → Prop} {s : St} (h : Q .normal s) : TWp E .skip Q s := fun a w hr => wp_skip ⟨s, h, hr⟩
theorem twp_exit {E : Env} {Q : Exit → St → Prop} {s : St} {id : Nat} (h : Q (.exit id) s) : TWp E (.exit id) Q s := fun a w hr => wp_exit ⟨s, h, hr⟩
theorem twp_ret {E : Env} {Q : Exit → St → Prop} {s : St} (h : Q .ret s) : TWp E .ret Q s := fun a w hr => wp_ret ⟨s, h, hr⟩

def thn (k : St → Prop) (Q : Exit → St → Prop) : Exit → St → Prop
  | .normal, s => k s
  | e, s => Q e s
theorem twp_seq {E : Env} {x y : Code} {Q : Exit → St → Prop} {s : St} (h : TWp E x (thn (TWp E y Q) Q) s) : TWp E (.seq x y) Q s := by
  intro a w hr
  refine wp_seq (wp_mono (h a w hr) ?_)
  rintro e a' w' ⟨s', h1, h2⟩
  cases e with
  | normal => exact h1 a' w' h2
  | _ => exact ⟨s', h1, h2⟩
theorem twp_region {E : Env} {id : Nat} {ops : Array Oper} {Q : Exit → St → Prop} {s s' : St} (h : RegTo E ops ops.toList s s') (hq : Q .normal s') : TWp E (.region id ops false) Q s :=
  fun a w hr => wp_region_list (regTo_wp h a w hr fun a' w' hr' => ⟨s', hq, hr'⟩)
/-- a statement, then the rest -/
theorem twp_reg {E : Env} {id : Nat} {ops : Array Oper} {y : Code} {Q : Exit → St → Prop} {s s' : St} (h : RegTo E ops ops.toList s s') (hq : TWp E y Q s') : TWp E (.seq (.region id ops false) y) Q s := twp_seq (twp_region h hq)
theorem twp_cond {E : Env} {c : Operand} {x y : Code} {Q : Exit → St → Prop} {s : St} {b : Bool} (hc : opnd s c = .lit (.bool b)) (ht : b = true → TWp E x Q s) (hf : b = false → TWp E y Q s) : TWp E (.cond c x y) Q s := by
  rintro a w ⟨χ, hd, h⟩
  have := lit_inv (hc ▸ opnd_rep h c)
  exact wp_cond_split this (fun hb => ht hb a w ⟨χ, hd, h⟩) (fun hb => hf hb a w ⟨χ, hd, h⟩)
def inB (id : Nat) (Q : Exit → St → Prop) : Exit → St → Prop
  | .exit i, s => if i = id then Q .normal s else Q (.exit i) s
  | e, s => Q e s
theorem twp_block {E : Env} {id : Nat} {c : Code} {Q : Exit → St → Prop} {s : St} (h : TWp E c (inB id Q) s) : TWp E (.block id c) Q s := by
  intro a w hr
  refine wp_block (wp_mono (h a w hr) ?_)
  rintro e a' w' ⟨s', h1, h2⟩
  cases e with
  | exit i =>
    simp only [inB] at h1
    simp only [Exit.inBlock]
    split
    · rename_i hi; rw [if_pos hi] at h1; exact ⟨s', h1, h2⟩
    · rename_i hi; rw [if_neg hi] at h1; exact ⟨s', h1, h2⟩
  | _ => exact ⟨s', h1, h2⟩
/-- a loop: its states by what changes, and a number that every round lowers -/
theorem twp_loop {E : Env} {c : Code} {Q : Exit → St → Prop} {s : St} {σ : Type} (I : σ → St → Prop) (μ : σ → Nat) (x0 : σ) (h0 : I x0 s)
    (round : ∀ x s, I x s → TWp E c (thn (fun s' => ∃ y, μ y < μ x ∧ I y s') Q) s) : TWp E (.loop c) Q s := by
  intro a w hr
  refine wp_loop_ghost (fun n a w => ∃ x s, μ x = n ∧ I x s ∧ Rel E s a w) (μ x0) ⟨x0, s, rfl, h0, hr⟩ ?_
  rintro n a w ⟨x, s, rfl, hI, hr⟩
  refine wp_mono (round x s hI a w hr) ?_
  rintro e a' w' ⟨s', h1, h2⟩
  cases e with
  | normal =>
    obtain ⟨y, hy, hI'⟩ := h1
    exact ⟨μ y, hy, y, s', rfl, hI', h2⟩
  | _ => exact ⟨s', h1, h2⟩

/- ------------------------------------------------ a function -/
def resV (Θ : Tys) (s : St) : ResultVar → Option AV
  | .tmp t => some (s.get t)
  | .cell p t => evLoad Θ s t (s.get p)
def resVs (Θ : Tys) (s : St) : List ResultVar → Option (List AV)
  | [] => some []
  | r :: rs => match resV Θ s r, resVs Θ s rs with
    | some x, some xs => some (x :: xs)
    | _, _ => none
def one : List AV → AV
  | [x] => x
  | xs => .tup xs
def Res (Θ : Tys) (rs : List ResultVar) (res : AV) (s : St) : Prop := ∃ xs, resVs Θ s rs = some xs ∧ pk s (one xs) = some res ∧ (pkI (one xs)).Nodup

def resOf (tmps : Array Value) (r : ResultVar) : Sem Value :=
  match r with
  | .tmp t => pure (tmps.getD t undef)
  | .cell p t => do loadVar t (← asAddr (tmps.getD p undef))
theorem results_eq (fn : Func) (tmps : Array Value) : results fn tmps = (do let vs ← fn.results.mapM (resOf tmps); pure (if h : vs.size = 1 then vs[0] else .tuple vs)) := rfl
theorem resVs_sound {E : Env} {s : St} {a : Act} {w : World} {χ : Nat → Option Nat} {hd : Nat → Value} {Θ : Tys} (hΘ : TOK E.P Θ) (h : Rel0 E s a w χ hd) : ∀ (rs : List ResultVar) (xs : List AV), resVs Θ s rs = some xs →
    ∃ vs, (rs.mapM (resOf a.tmps) : Sem (List Value)).run E.P w = .ok vs w ∧ repRL w (free χ w) (· ∈ s.us) (tab s hd) xs vs []
  | [], xs, he => by simp only [resVs] at he; cases he; exact ⟨[], by simp, by simp [repRL]⟩
  | r :: rs, xs, he => by
    simp only [resVs] at he
    split at he
    case h_2 => cases he
    rename_i x xs' h1 h2
    cases he
    obtain ⟨vs, hvs, hr⟩ := resVs_sound hΘ h rs xs' h2
    have hx : ∃ v, (resOf a.tmps r).run E.P w = .ok v w ∧ repR w (free χ w) (· ∈ s.us) (tab s hd) x v [] := by
      cases r with
      | tmp t => simp only [resV] at h1; cases h1; exact ⟨_, rfl, h.slots t⟩
      | cell p t =>
        simp only [resV] at h1
        obtain ⟨v, hv, hvr⟩ := evLoad_sound hΘ h (h.slots p) h1
        refine ⟨v, ?_, hvr⟩
        obtain ⟨y, o, hpl⟩ : ∃ y o, place s (s.get p) = some (y, o) := by
          unfold evLoad at h1
          split at h1
          · cases h1
          · split at h1
            · cases h1
            · exact ⟨_, _, by assumption⟩
        obtain ⟨b, k, us, f, hu, _⟩ := place_at h (h.slots p) hpl
        simp only [Instr.loadAt, Sem.run_bind] at hv
        show (do loadVar t (← asAddr (a.tmps.getD p undef)) : Sem Value).run E.P w = _
        rw [hu] at hv ⊢
        simpa [Instr.sureAddr, asAddr] using hv
    obtain ⟨v, hv, hvr⟩ := hx
    refine ⟨v :: vs, ?_, ?_⟩
    · rw [List.mapM_cons]
      simp only [Sem.run_bind, hv, Result.andThen_ok, hvs, Sem.run_pure]
    · simp only [repRL]
      exact ⟨v, vs, [], [], rfl, rfl, hvr, hr⟩
def entry (args : List AV) : St := ⟨(args.zipIdx).map (fun p => (p.2, p.1)), [], [JJ]⟩
theorem entry_get_aux : ∀ (args : List AV) (k t : Nat), ((args.zipIdx k).map (fun p => (p.2, p.1))).lookup (k + t) = args[t]?
  | [], k, t => by simp
  | x :: args, k, t => by
    rw [List.zipIdx_cons, List.map_cons]
    cases t with
    | zero => simp
    | succ t =>
      rw [lookup_cons_ne (by simp), show k + (t + 1) = (k + 1) + t by omega, entry_get_aux args (k + 1) t]
      rfl
theorem entry_get (args : List AV) (t : Nat) : (entry args).get t = (args[t]?).getD .dead := by
  have := entry_get_aux args 0 t
  rw [Nat.zero_add] at this
  simp only [St.get, entry, this]

theorem repL_get {w : World} {S : Nat → Prop} : ∀ (cs : List AV) (vs : List Value) (i : Nat) (c : AV), repL w S cs vs [] → cs[i]? = some c → ∃ v, vs[i]? = some v ∧ rep w S c v []
  | [], _, i, c, _, h => by simp at h
  | d :: cs, vs, i, c, h, he => by
    simp only [repL] at h
    obtain ⟨u, us, f1, f2, rfl, hf, h1, h2⟩ := h
    obtain ⟨rfl, rfl⟩ := List.append_eq_nil_iff.1 hf.symm
    cases i with
    | zero => simp at he; subst he; exact ⟨u, rfl, h1⟩
    | succ i => simp at he; simpa using repL_get cs us i c h2 he
theorem repL_length {w : World} {S : Nat → Prop} : ∀ (cs : List AV) (vs : List Value) (f : List Nat), repL w S cs vs f → vs.length = cs.length
  | [], _, _, h => by simp only [repL] at h; simp [h.1]
  | c :: cs, _, _, h => by
    simp only [repL] at h
    obtain ⟨u, us, f1, f2, rfl, _, _, h2⟩ := h
    simp [repL_length cs us f2 h2]

open Classical in
theorem meets_of {P : Program} {Θ : Tys} (hΘ : TOK P Θ) {f : FuncId} {fn : Func} {c : Code} (hf : P.funcs[f]? = some fn) (hname : (fn.name == "runtime.NumGoroutine") = false) (hb : fn.body = some c) {args : List AV} {res : AV} (hn : args.length ≤ fn.ntmps)
    (h : ∀ E : Env, E.P = P → E.n = fn.ntmps → E.fx = [] → TWp E c (fun e s => (e = .normal ∨ e = .ret) ∧ Res Θ fn.results.toList res s) (entry args)) : Meets P f args res := by
  refine ⟨enters_of hf hname hb, ?_⟩
  intro w S vals hv hS
  have hvl := repL_length _ _ _ hv
  refine calls_of_wp hf hb ?_
  let E : Env := ⟨P, w, fn.ntmps, fun _ => False, fun b => b < w.heap.size ∧ ¬ S b, []⟩
  let χ : Nat → Option Nat := fun b => if b < w.heap.size ∧ ¬ S b then some JJ else none
  have hfree : ∀ b, S b → free χ w b := fun b hb => ⟨by simp [χ, hb], hS b hb⟩
  have hrel : Rel0 E (entry args) { tmps := vals.toArray ++ Array.replicate (fn.ntmps - vals.toArray.size) undef, defers := [] } w χ (fun _ => undef) := by
    refine ⟨rfl, by simp [E]; omega, rfl, Tp.refl _, rfl, Nat.le_refl _, fun _ _ _ => rfl, (fun _ h => by cases h), by simp [entry], rfl, fun b hb => by simp only [χ]; rw [if_pos hb], ?_, ?_, ?_⟩
    · intro b r hbr
      simp only [χ] at hbr
      split at hbr
      · rename_i hh; cases hbr; exact ⟨fun e => absurd rfl e, hh.1⟩
      · cases hbr
    · intro i R hR
      simp [St.root, entry] at hR
    · intro t
      rw [entry_get]
      cases ht : args[t]? with
      | none => exact repR_dead _
      | some x =>
        obtain ⟨v, hvt, hr⟩ := repL_get _ _ _ _ hv ht
        have : (vals.toArray ++ Array.replicate (fn.ntmps - vals.toArray.size) undef).getD t undef = v := by
          have hlt : t < vals.length := (List.getElem?_eq_some_iff.1 hvt).1
          rw [Array.getD_eq_getD_getElem?, Array.getElem?_append_left (by simpa using hlt)]
          simp [hvt]
        simp only [Option.getD_some]
        rw [this]
        exact repR_of _ _ _ (rep_frame _ _ _ hr hfree (fun _ _ => rfl) (fun _ _ => rfl))
  refine wp_mono (h E rfl rfl rfl _ w ⟨χ, _, hrel⟩) ?_
  rintro e a' w' ⟨s', ⟨he, xs, hxs, hp, hnd⟩, χ', hd', hr⟩
  obtain ⟨vs, hrun, hrep⟩ := resVs_sound (E := E) hΘ hr _ _ hxs
  have hlen := repRL_length _ _ _ hrep
  have hone : ∃ v, (results fn a'.tmps).run P w' = .ok v w' ∧ repR w' (free χ' w') (· ∈ s'.us) (tab s' hd') (one xs) v [] := by
    have hm : (fn.results.mapM (resOf a'.tmps) : Sem (Array Value)).run P w' = .ok vs.toArray w' := by
      rw [← Array.toArray_toList (xs := fn.results), List.mapM_toArray]
      simp only [Sem.run_map]
      rw [hrun]
      rfl
    rw [results_eq]
    simp only [Sem.run_bind]
    rw [hm]
    simp only [Result.andThen_ok, Sem.run_pure]
    match xs, vs, hlen, hrep with
    | [x], [v], _, hrep =>
      refine ⟨v, by simp, ?_⟩
      simp only [repRL] at hrep
      obtain ⟨u, us, f1, f2, h1, h2, h3, h4, h5⟩ := hrep
      cases h1
      obtain ⟨rfl, rfl⟩ := List.append_eq_nil_iff.1 h2.symm
      exact h3
    | [], [], _, hrep => exact ⟨.tuple #[], by simp, by simp only [one, repR]; exact ⟨[], rfl, hrep⟩⟩
    | x :: y :: xs, v :: u :: vs, _, hrep =>
      refine ⟨.tuple (v :: u :: vs).toArray, by simp, ?_⟩
      simp only [one, repR]
      exact ⟨_, rfl, hrep⟩
  obtain ⟨v, hv1, hv2⟩ := hone
  obtain ⟨g, hg1, hg2, hg3⟩ := pk_sound hr _ _ _ _ hv2 rfl hp hnd
  have hR : ∃ v2 fp, Ending.returned v = .returned v2 ∧ Below w.heap.size w w' ∧ w.drawn ≤ w'.drawn ∧ rep w' (fun b => (S b ∨ w.heap.size ≤ b) ∧ b < w'.heap.size ∧ b ∉ fp) res v2 fp ∧ fp.Nodup ∧ ∀ b ∈ fp, w.heap.size ≤ b := by
    refine ⟨v, g, rfl, ⟨hr.os, hr.tape.1, hr.output, hr.hsz, fun k hk => hr.frame k hk (fun h => h)⟩, hr.tape.2, ?_, hg2, ?_⟩
    · refine rep_frame _ _ _ hg1 (fun b hb => ⟨?_, hb.2, ?_⟩) (fun _ _ => rfl) (fun _ _ => rfl)
      · by_cases hlt : b < w.heap.size
        · left
          apply Classical.byContradiction
          intro hns
          have := hr.jk b ⟨hlt, hns⟩
          rw [hb.1] at this; cases this
        · right; omega
      · intro hm
        obtain ⟨i, _, hi, _⟩ := hg3 b hm
        rw [hb.1] at hi; cases hi
    · intro b hb
      obtain ⟨i, _, hi, hij⟩ := hg3 b hb
      rcases (hr.col b i hi).1 hij with h1 | h1
      · exact h1
      · exact h1.elim
  rcases he with rfl | rfl
  · exact ⟨hr.defers, v, hv1, hR⟩
  · exact ⟨hr.defers, v, hv1, hR⟩
end Go.T
