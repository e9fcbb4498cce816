/- Lemmas for FnExactAddPairs; no condition. -/

import Derived.Test.YtihgcgccajikpaaBD
set_option linter.unusedVariables false
namespace Go.T
open Go Go.RowKit Go.Proofs

def FQ (R : St → Prop) : Exit → St → Prop := fun e s => (e = .normal ∨ e = .ret) ∧ R s

theorem kAt_nil {E : Env} {c : Code} {Q : Exit → St → Prop} : kAt E c [] Q = Q := by cases c <;> rfl
theorem cAt_nil {c : Code} : cAt c [] = some c := by cases c <;> rfl
theorem down_seq {E : Env} {c a b : Code} {Q : Exit → St → Prop} {p : List Bool} {s : St} (hc : cAt c p = some (.seq a b)) (h : WAt E c Q (p ++ [false]) s) : WAt E c Q p s := by
  refine wAt_of hc (by simp) (twp_seq ?_)
  have h1 : cAt c (p ++ [false]) = some a := by rw [cAt_app hc]; simp only [cAt, cAt_nil]
  have := wAt_twp h1 h
  rw [kAt_app hc] at this
  simpa only [kAt, kAt_nil] using this
theorem down_block {E : Env} {c b : Code} {id : Nat} {Q : Exit → St → Prop} {p : List Bool} {s : St} (hc : cAt c p = some (.block id b)) (h : WAt E c Q (p ++ [false]) s) : WAt E c Q p s := by
  refine wAt_of hc (by simp) (twp_block ?_)
  have h1 : cAt c (p ++ [false]) = some b := by rw [cAt_app hc]; simp only [cAt, cAt_nil]
  have := wAt_twp h1 h
  rw [kAt_app hc] at this
  simpa only [kAt, kAt_nil] using this
theorem down_loop {E : Env} {c b : Code} {Q : Exit → St → Prop} {p : List Bool} {s : St} (hc : cAt c p = some (.loop b)) (h : WAt E c Q (p ++ [false]) s) : WAt E c Q p s := by
  have h1 : cAt c (p ++ [false]) = some b := by rw [cAt_app hc]; simp only [cAt, cAt_nil]
  have := wAt_twp h1 h
  rw [kAt_app hc] at this
  simp only [kAt, kAt_nil] at this
  unfold WAt
  rw [hc]
  exact lw_round this
theorem down_cond {E : Env} {c x y : Code} {o : Operand} {Q : Exit → St → Prop} {p : List Bool} {s : St} {v : Bool} (hc : cAt c p = some (.cond o x y)) (hv : opnd s o = .lit (.bool v)) (h : WAt E c Q (p ++ [!v]) s) : WAt E c Q p s := by
  refine wAt_of hc (by simp) (twp_cond hv (fun hb => ?_) (fun hb => ?_))
  · subst hb
    have h1 : cAt c (p ++ [false]) = some x := by rw [cAt_app hc]; simp only [cAt, cAt_nil]
    have := wAt_twp h1 h
    rw [kAt_app hc] at this
    simpa only [kAt, kAt_nil] using this
  · subst hb
    have h1 : cAt c (p ++ [true]) = some y := by rw [cAt_app hc]; simp only [cAt, cAt_nil]
    have := wAt_twp h1 h
    rw [kAt_app hc] at this
    simpa only [kAt, kAt_nil] using this

def lB : List Bool → List Bool → Bool
  | [], [] => true
  | true :: p, true :: q => lB p q
  | false :: p, false :: q => lB p q
  | _, _ => false
theorem lB_eq : ∀ {p q : List Bool}, lB p q = true → p = q
  | [], [], _ => rfl
  | true :: p, true :: q, h => by rw [lB_eq (p := p) (q := q) h]
  | false :: p, false :: q, h => by rw [lB_eq (p := p) (q := q) h]
  | [], _ :: _, h => by simp [lB] at h
  | _ :: _, [], h => by simp [lB] at h
  | true :: _, false :: _, h => by simp [lB] at h
  | false :: _, true :: _, h => by simp [lB] at h
def oB : Option (List Bool) → Option (List Bool) → Bool
  | none, none => true
  | some p, some q => lB p q
  | _, _ => false
theorem oB_eq {p q : Option (List Bool)} (h : oB p q = true) : p = q := by
  cases p <;> cases q <;> simp only [oB] at h
  · rfl
  · cases h
  · cases h
  · rw [lB_eq h]

def exec (Θ : Tys) (P : Program) (n : Nat) (body : Code) (tgt : Option (List Bool)) : Nat → Bool → Option (List Bool) → Nat → St → List Hn → Option (Nat × St × List Hn × List Prop)
  | 0, _, _, _, _, _ => none
  | f + 1, st, pt, k, s, hs =>
    if st && oB pt tgt then some (k, s, hs, []) else
    match pt with
    | none => none
    | some p => match cAt body p with
      | some (.seq _ _) => exec Θ P n body tgt f true (some (p ++ [false])) k s hs
      | some (.block _ _) => exec Θ P n body tgt f true (some (p ++ [false])) k s hs
      | some (.loop _) => exec Θ P n body tgt f true (some (p ++ [false])) k s hs
      | some .skip => exec Θ P n body tgt f true (nxt body p) k s hs
      | some (.region _ ops draw) => match exReg Θ P n ops draw k s hs with
        | some (k1, s1, hs1, ps) => match exec Θ P n body tgt f true (nxt body p) k1 s1 hs1 with
          | some (k2, s2, hs2, qs) => some (k2, s2, hs2, ps ++ qs)
          | none => none
        | none => none
      | some (.cond c _ _) => match opnd s c with
        | .lit (.bool v) => match (pop k hs).1.h with
          | .br b => match exec Θ P n body tgt f true (some (p ++ [!b])) (k + 1) s (pop k hs).2 with
            | some (k2, s2, hs2, qs) => some (k2, s2, hs2, (v = b) :: qs)
            | none => none
          | .no => exec Θ P n body tgt f true (some (p ++ [!v])) (k + 1) s hs
          | _ => none
        | _ => none
      | some (.exit id) => match ext id body p with
        | some q => exec Θ P n body tgt f true q k s hs
        | none => none
      | some .ret => match tgt with
        | none => some (k, s, hs, [])
        | some _ => none
      | _ => none
theorem exec_sound {E : Env} {Θ : Tys} (hΘ : TOK E.P Θ) (hm : E.P.follows .mixedOrders = true) {body : Code} {tgt : Option (List Bool)} {R : St → Prop} : ∀ {f : Nat} {st : Bool} {pt : Option (List Bool)} {k k' : Nat} {s s' : St} {hs hs' : List Hn} {ps : List Prop},
    exec Θ E.P E.n body tgt f st pt k s hs = some (k', s', hs', ps) → AllP ps → WN E body (FQ R) tgt s' → WN E body (FQ R) pt s
  | 0, st, pt, k, k', s, s', hs, hs', ps, h, _, _ => by simp [exec] at h
  | f + 1, st, pt, k, k', s, s', hs, hs', ps, h, hp, hw => by
    simp only [exec] at h
    split at h
    · rename_i hst
      simp only [Bool.and_eq_true] at hst
      rw [oB_eq hst.2]
      cases h
      exact hw
    · split at h
      · cases h
      rename_i p
      split at h
      · rename_i hc; exact down_seq hc (exec_sound hΘ hm h hp hw)
      · rename_i hc; exact down_block hc (exec_sound hΘ hm h hp hw)
      · rename_i hc; exact down_loop hc (exec_sound hΘ hm h hp hw)
      · rename_i hc
        refine wAt_of hc (by simp) (twp_skip (nxt_sound ?_))
        exact exec_sound hΘ hm h hp hw
      · rename_i hc
        split at h
        case h_2 => cases h
        rename_i hr
        split at h
        case h_2 => cases h
        rename_i he
        cases h
        obtain ⟨h1, h2⟩ := allP_app hp
        exact wAt_of hc (by simp) (exReg_sound hΘ hm hr h1 (nxt_sound (exec_sound hΘ hm he h2 hw)))
      · rename_i hc
        split at h
        case h_2 => cases h
        rename_i v hv
        split at h
        · rename_i b hb
          split at h
          case h_2 => cases h
          rename_i he
          cases h
          obtain ⟨h1, h2⟩ := hp
          subst h1
          exact down_cond hc hv (exec_sound hΘ hm he h2 hw)
        · exact down_cond hc hv (exec_sound hΘ hm h hp hw)
        · cases h
      · rename_i hc
        split at h
        case h_2 => cases h
        rename_i q hq
        exact wAt_of hc (by simp) (twp_exit (ext_sound hq (exec_sound hΘ hm h hp hw)))
      · rename_i hc
        split at h
        case h_2 => cases h
        cases h
        exact wAt_of hc (by simp) (twp_ret (ret_sound ⟨.inr rfl, hw.2⟩))
      · cases h

/- ------------------------------------------------ on to another place -/
def rtsC (s : St) (π0 : List (Nat × Nat)) : List (Nat × Nat) → Option (List (Nat × Nat × Root) × List Prop)
  | [] => some ([], [])
  | (i, j) :: r => match s.root i, rtsC s π0 r with
    | some R, some (l, ps) => some ((i, j, R) :: l, (RenOK π0 R.xs) :: ps)
    | _, _ => none
theorem rtsC_sound {s : St} {π0 : List (Nat × Nat)} : ∀ {π : List (Nat × Nat)} {l : List (Nat × Nat × Root)} {ps : List Prop}, rtsC s π0 π = some (l, ps) → AllP ps → okRt s π0 l ∧ piR l = π
  | [], l, ps, h, hp => by simp only [rtsC] at h; cases h; exact ⟨trivial, rfl⟩
  | (i, j) :: r, l, ps, h, hp => by
    simp only [rtsC] at h
    split at h
    case h_2 => cases h
    rename_i R l' qs hR hr
    cases h
    obtain ⟨h1, h2⟩ := rtsC_sound hr hp.2
    exact ⟨⟨⟨hR, hp.1⟩, h1⟩, by simp only [piR] at h2; simp only [piR, List.map_cons, h2]⟩
def kpC (s : St) (π : List (Nat × Nat)) (kp : List Nat) (t : Nat) : AV := if kp.contains t then s.get t else renA π (s.get t)
def kpP (s : St) (kp : List Nat) : List Nat → List Prop
  | [] => []
  | t :: ts => if kp.contains t then (tree (s.get t) = true) :: kpP s kp ts else kpP s kp ts
theorem kp_ok {s : St} {π : List (Nat × Nat)} {kp : List Nat} : ∀ {ts : List Nat}, AllP (kpP s kp ts) → okSlR s π (ts.map fun t => (t, kpC s π kp t))
  | [], _ => trivial
  | t :: ts, h => by
    simp only [kpP] at h
    split at h
    · rename_i hk
      exact ⟨by simp only [kpC, hk, if_true]; exact renA_tree π _ h.1, kp_ok h.2⟩
    · rename_i hk
      exact ⟨by simp only [kpC, hk]; rfl, kp_ok h⟩
def toC (fr : List Nat) (s : St) (π : List (Nat × Nat)) (ts kp : List Nat) : Option (St × List Prop) :=
  if okPi π && (fr.all fun i => π.lookup i == some i) then match rtsC s π π with
    | some (l, ps) => some (⟨ts.map fun t => (t, kpC s π kp t), l.map fun x => (x.2.1, some x.2.2), π.map (·.2) ++ [JJ]⟩, ps ++ kpP s kp ts)
    | none => none
  else none
theorem toC_sound {E : Env} {fr : List Nat} (hfx : ∀ p, p ∈ E.fx → p.1 ∈ fr) {s s' : St} {π : List (Nat × Nat)} {ts kp : List Nat} {ps : List Prop} (h : toC fr s π ts kp = some (s', ps)) (hp : AllP ps) : Ent E s s' := by
  unfold toC at h
  split at h
  case isFalse => cases h
  rename_i hc
  simp only [Bool.and_eq_true] at hc
  split at h
  case h_2 => cases h
  rename_i l qs hr
  cases h
  obtain ⟨hp1, hp2⟩ := allP_app hp
  obtain ⟨h1, h2⟩ := rtsC_sound hr hp1
  have := ent_to E (ts.map fun t => (t, kpC s π kp t)) l (by rw [h2]; exact hc.1) (by
    rw [h2]
    simp only [fxB, List.all_eq_true]
    intro p hpm
    have := hc.2
    rw [List.all_eq_true] at this
    exact this _ (hfx p hpm)) (by rw [h2]; exact kp_ok hp2) (by rw [h2]; exact h1)
  rw [h2] at this
  exact this
def runTo (Θ : Tys) (P : Program) (n : Nat) (body : Code) (fr : List Nat) (pt tgt : List Bool) (s : St) (hs : List Hn) (π : List (Nat × Nat)) (ts kp : List Nat) : Option (St × List Prop) :=
  match exec Θ P n body (some tgt) 10000 false (some pt) 0 s hs with
  | some (k, s1, hs1, ps) => match ghs k hs1 s1 with
    | some (s2, [], qs) => match toC fr s2 π ts kp with
      | some (s3, rs) => some (s3, ps ++ (qs ++ rs))
      | none => none
    | _ => none
  | none => none
theorem go_to {E : Env} {Θ : Tys} (hΘ : TOK E.P Θ) (hm : E.P.follows .mixedOrders = true) {body : Code} {fr : List Nat} (hfx : ∀ p, p ∈ E.fx → p.1 ∈ fr) {R : St → Prop} {P : Program} (hP : E.P = P) {n : Nat} (hn : E.n = n) {pt tgt : List Bool} {s s' : St} {hs : List Hn} {π : List (Nat × Nat)} {ts kp : List Nat} {ps : List Prop}
    (h : runTo Θ P n body fr pt tgt s hs π ts kp = some (s', ps)) (hp : AllP ps) (hk : WAt E body (FQ R) tgt s') : WAt E body (FQ R) pt s := by
  subst hP; subst hn
  unfold runTo at h
  split at h
  case h_2 => cases h
  rename_i k s1 hs1 qs he
  split at h
  case h_2 => cases h
  rename_i s2 rs hg
  split at h
  case h_2 => cases h
  rename_i s3 us ht
  cases h
  obtain ⟨h1, h2⟩ := allP_app hp
  obtain ⟨h3, h4⟩ := allP_app h2
  refine exec_sound hΘ hm he h1 ?_
  have hent := (ghs_sound hg h3).trans (toC_sound hfx ht h4)
  show WAt E body (FQ R) tgt s1
  unfold WAt at hk ⊢
  split at hk
  · exact fun a w hr => hk a w (hent a w hr)
  · exact twp_ent hent hk
  · exact hk

/- ------------------------------------------------ the end -/
/-- how a result is to be read -/
inductive PH where
  | raw
  | own
  | ro
  | ref
  | agg (l : List PH)
/-- a result's variables, with hints -/
def resVC (Θ : Tys) (s : St) (h : H) : ResultVar → Option (AV × List Prop)
  | .tmp t => some (s.get t, [])
  | .cell p t => loadC Θ s t h (s.get p)
def resVsC (Θ : Tys) (s : St) : List H → List ResultVar → Option (List AV × List Prop)
  | _, [] => some ([], [])
  | h :: hs, r :: rs => match resVC Θ s h r, resVsC Θ s hs rs with
    | some (x, ps), some (xs, qs) => some (x :: xs, ps ++ qs)
    | _, _ => none
  | [], r :: rs => match resVC Θ s .no r, resVsC Θ s [] rs with
    | some (x, ps), some (xs, qs) => some (x :: xs, ps ++ qs)
    | _, _ => none
theorem resVC_sound {Θ : Tys} {s : St} {h : H} {r : ResultVar} {x : AV} {ps : List Prop} (he : resVC Θ s h r = some (x, ps)) (hp : AllP ps) : resV Θ s r = some x := by
  cases r with
  | tmp t => simp only [resVC] at he; cases he; rfl
  | cell p t => simp only [resVC] at he; exact loadC_sound he hp
theorem resVsC_sound {Θ : Tys} {s : St} : ∀ {hs : List H} {rs : List ResultVar} {xs : List AV} {ps : List Prop}, resVsC Θ s hs rs = some (xs, ps) → AllP ps → resVs Θ s rs = some xs
  | hs, [], xs, ps, he, hp => by cases hs <;> (simp only [resVsC] at he; cases he; rfl)
  | h :: hs, r :: rs, xs, ps, he, hp => by
    simp only [resVsC] at he
    split at he
    case h_2 => cases he
    rename_i h1 h2
    cases he
    obtain ⟨p1, p2⟩ := allP_app hp
    simp only [resVs, resVC_sound h1 p1, resVsC_sound h2 p2]
  | [], r :: rs, xs, ps, he, hp => by
    simp only [resVsC] at he
    split at he
    case h_2 => cases he
    rename_i h1 h2
    cases he
    obtain ⟨p1, p2⟩ := allP_app hp
    simp only [resVs, resVC_sound h1 p1, resVsC_sound h2 p2]

mutual
def pkC (s : St) (ks : List Bool) : PH → AV → AV → Option (List Prop × List Nat)
  | .raw, x, y => some ([x = y, litA y = true], [])
  | .own, x, y => match y with
    | .own T sz zs => match x with
      | .lit (.slice none 0 0) => match zs with
        | [] => some ([], [])
        | _ => none
      | .sl i 0 len => match s.root i with
        | some R => if R.T = T then (if R.sz = sz then (if ks[i]? == some true then none else some ([treeLL (R.xs.take len) = true, R.xs.take len = zs, noRoLL zs = true], [i])) else none) else none
        | none => none
      | _ => none
    | _ => none
  | .ro, x, y => match x, y with
    | .ro sz xs, .ro sz' xs' => if sz = sz' then (if ks.isEmpty then some ([xs = xs'], []) else none) else none
    | _, _ => none
  | .ref, x, y => match x, y with
    | .sl i off len, .sl i' off' len' => if i = i' then (if ks[i]? == some true then some ([off = off', len = len'], []) else none) else none
    | _, _ => none
  | .agg l, x, y => match x, y with
    | .agg cs, .agg ds => pkCL s ks l cs ds
    | .tup cs, .tup ds => pkCL s ks l cs ds
    | _, _ => none
def pkCL (s : St) (ks : List Bool) : List PH → List AV → List AV → Option (List Prop × List Nat)
  | [], [], [] => some ([], [])
  | h :: hs, c :: cs, d :: ds => match pkC s ks h c d, pkCL s ks hs cs ds with
    | some (ps, is), some (qs, js) => some (ps ++ qs, is ++ js)
    | _, _ => none
  | _, _, _ => none
end
mutual
theorem litA_rep {w : World} {S U S2 U2 : Nat → Prop} {ρ ρ2 : Tab} : ∀ (x : AV) (u : Value) (f : List Nat), litA x = true → repR w S U ρ x u f → repR w S2 U2 ρ2 x u []
  | .lit v, u, f, _, hr => by simp only [repR, rep] at hr ⊢; exact ⟨trivial, hr.2⟩
  | .agg cs, u, f, h, hr => by
    simp only [litA] at h
    simp only [repR] at hr ⊢
    obtain ⟨vs, rfl, hr⟩ := hr
    exact ⟨vs, rfl, litL2_rep cs vs f h hr⟩
  | .tup cs, u, f, h, hr => by
    simp only [litA] at h
    simp only [repR] at hr ⊢
    obtain ⟨vs, rfl, hr⟩ := hr
    exact ⟨vs, rfl, litL2_rep cs vs f h hr⟩
  | .dead, _, _, h, _ => by simp [litA] at h
  | .ro _ _, _, _, h, _ => by simp [litA] at h
  | .own _ _ _, _, _, h, _ => by simp [litA] at h
  | .sl _ _ _, _, _, h, _ => by simp [litA] at h
  | .ptr _ _ _, _, _, h, _ => by simp [litA] at h
  | .rop _ _, _, _, h, _ => by simp [litA] at h
  | .fn _ _, _, _, h, _ => by simp [litA] at h
theorem litL2_rep {w : World} {S U S2 U2 : Nat → Prop} {ρ ρ2 : Tab} : ∀ (xs : List AV) (us : List Value) (f : List Nat), litL2 xs = true → repRL w S U ρ xs us f → repRL w S2 U2 ρ2 xs us []
  | [], us, f, _, hr => by simp only [repRL] at hr ⊢; exact ⟨hr.1, trivial⟩
  | c :: cs, us, f, h, hr => by
    simp only [litL2, Bool.and_eq_true] at h
    simp only [repRL] at hr ⊢
    obtain ⟨u, us', f1, f2, rfl, rfl, h1, h2⟩ := hr
    exact ⟨u, us', [], [], rfl, rfl, litA_rep c u f1 h.1 h1, litL2_rep cs us' f2 h.2 h2⟩
end
/-- what a call that is given nothing for good hands back: read-only parts may stand in it -/
def roS (ks : List Bool) (χ : Nat → Option Nat) (w : World) : Nat → Prop := fun b => ks.isEmpty = true ∧ free χ w b
mutual
theorem pkC_sound {E : Env} {s : St} {ks : List Bool} {a : Act} {w : World} {χ : Nat → Option Nat} {hd : Nat → Value} {ρ : Tab} (h : Rel0 E s a w χ hd) (hρ : ∀ i, ks[i]? = some true → ρ i = tab s hd i) :
    ∀ (p : PH) (x y : AV) (ps : List Prop) (is : List Nat) (u : Value), repR w (free χ w) (· ∈ s.us) (tab s hd) x u [] → pkC s ks p x y = some (ps, is) → AllP ps → is.Nodup → ∃ g, repR w (roS ks χ w) (fun i => ks[i]? = some true) ρ y u g ∧ g.Nodup ∧ (∀ b ∈ g, ∃ i ∈ is, χ b = some i ∧ i ≠ JJ ∧ ks[i]? ≠ some true)
  | .raw, x, y, ps, is, u, hr, he, hp, hn => by
    simp only [pkC] at he
    cases he
    obtain ⟨rfl, h2, _⟩ := hp
    exact ⟨[], litA_rep _ _ _ h2 hr, by simp, by simp⟩
  | .own, x, y, ps, is, u, hr, he, hp, hn => by
    simp only [pkC] at he
    split at he
    case h_2 => cases he
    rename_i T sz zs
    split at he
    · split at he
      case h_2 => cases he
      cases he
      have := lit_inv hr
      subst this
      exact ⟨[], by simp only [repR, rep]; exact ⟨[], [], World.ownsRow_nil w 0 _ _, by simp [repLL], by simp [Value.ownBlock]⟩, by simp, by simp⟩
    · rename_i i len
      split at he
      case h_2 => cases he
      rename_i R hR
      split at he
      case isFalse => cases he
      rename_i hT
      split at he
      case isFalse => cases he
      rename_i hS
      split at he
      case isTrue => cases he
      rename_i hk
      cases he
      obtain ⟨h1, h2, h3, _⟩ := hp
      obtain ⟨g, g1, g2, g3⟩ := pk_sound h (.sl i 0 len) (.own T sz zs) u [] hr rfl (by simp only [pk, hR]; rw [if_pos h1, h2, hT, hS]) (by simp [pkI])
      refine ⟨g, ?_, g2, fun b hb => ?_⟩
      · simp only [repR]
        exact rep_noRo _ _ _ g1 h3
      · obtain ⟨j, hj, h4, h5⟩ := g3 b hb
        have : j = i := by simpa [pkI] using hj
        subst this
        exact ⟨j, by simp, h4, h5, by simpa using hk⟩
    · cases he
  | .ro, x, y, ps, is, u, hr, he, hp, hn => by
    simp only [pkC] at he
    split at he
    case h_2 => cases he
    split at he
    case isFalse => cases he
    rename_i hs
    split at he
    case isFalse => cases he
    rename_i hk
    cases he
    obtain ⟨h1, _⟩ := hp
    subst h1; subst hs
    simp only [repR] at hr ⊢
    exact ⟨[], rep_frame _ _ _ hr (fun b hb => ⟨hk, hb⟩) (fun _ _ => rfl) (by simp), by simp, by simp⟩
  | .ref, x, y, ps, is, u, hr, he, hp, hn => by
    simp only [pkC] at he
    split at he
    case h_2 => cases he
    rename_i i off len i' off' len'
    split at he
    case isFalse => cases he
    rename_i hi
    split at he
    case isFalse => cases he
    rename_i hk
    cases he
    obtain ⟨h1, h2, _⟩ := hp
    subst h1; subst h2; subst hi
    have hk : ks[i]? = some true := by simpa using hk
    simp only [repR] at hr ⊢
    exact ⟨[], ⟨rfl, hk, by rw [hρ i hk]; exact hr.2.2⟩, by simp, by simp⟩
  | .agg l, x, y, ps, is, u, hr, he, hp, hn => by
    simp only [pkC] at he
    split at he
    · rename_i cs ds
      simp only [repR] at hr ⊢
      obtain ⟨vs, rfl, hr⟩ := hr
      obtain ⟨g, g1, g2, g3⟩ := pkCL_sound h hρ l cs ds ps is vs hr he hp hn
      exact ⟨g, ⟨vs, rfl, g1⟩, g2, g3⟩
    · rename_i cs ds
      simp only [repR] at hr ⊢
      obtain ⟨vs, rfl, hr⟩ := hr
      obtain ⟨g, g1, g2, g3⟩ := pkCL_sound h hρ l cs ds ps is vs hr he hp hn
      exact ⟨g, ⟨vs, rfl, g1⟩, g2, g3⟩
    · cases he
theorem pkCL_sound {E : Env} {s : St} {ks : List Bool} {a : Act} {w : World} {χ : Nat → Option Nat} {hd : Nat → Value} {ρ : Tab} (h : Rel0 E s a w χ hd) (hρ : ∀ i, ks[i]? = some true → ρ i = tab s hd i) :
    ∀ (l : List PH) (xs ys : List AV) (ps : List Prop) (is : List Nat) (us : List Value), repRL w (free χ w) (· ∈ s.us) (tab s hd) xs us [] → pkCL s ks l xs ys = some (ps, is) → AllP ps → is.Nodup → ∃ g, repRL w (roS ks χ w) (fun i => ks[i]? = some true) ρ ys us g ∧ g.Nodup ∧ (∀ b ∈ g, ∃ i ∈ is, χ b = some i ∧ i ≠ JJ ∧ ks[i]? ≠ some true)
  | [], [], [], ps, is, us, hr, he, hp, hn => by
    simp only [repRL] at hr ⊢
    exact ⟨[], ⟨hr.1, rfl⟩, by simp, by simp⟩
  | p :: l, c :: cs, d :: ds, ps, is, us, hr, he, hp, hn => by
    simp only [pkCL] at he
    split at he
    case h_2 => cases he
    rename_i qs js rs ks' h1 h2
    cases he
    simp only [repRL] at hr ⊢
    obtain ⟨u, us', f1, f2, rfl, hf', k1, k2⟩ := hr
    obtain ⟨rfl, rfl⟩ := List.append_eq_nil_iff.1 hf'.symm
    obtain ⟨p1, p2⟩ := allP_app hp
    rw [List.nodup_append] at hn
    obtain ⟨g1, a1, a2, a3⟩ := pkC_sound h hρ p c d qs js u k1 h1 p1 hn.1
    obtain ⟨g2, b1, b2, b3⟩ := pkCL_sound h hρ l cs ds rs ks' us' k2 h2 p2 hn.2.1
    refine ⟨g1 ++ g2, ⟨u, us', g1, g2, rfl, rfl, a1, b1⟩, ?_, ?_⟩
    · rw [List.nodup_append]
      refine ⟨a2, b2, ?_⟩
      intro b hb b' hb' e
      subst e
      obtain ⟨i, hi, hi2, _⟩ := a3 b hb
      obtain ⟨j, hj, hj2, _⟩ := b3 b hb'
      rw [hi2] at hj2; cases hj2
      exact hn.2.2 i hi i hj rfl
    · intro b hb
      rcases List.mem_append.1 hb with hb | hb
      · obtain ⟨i, hi, hx⟩ := a3 b hb; exact ⟨i, List.mem_append_left _ hi, hx⟩
      · obtain ⟨i, hi, hx⟩ := b3 b hb; exact ⟨i, List.mem_append_right _ hi, hx⟩
  | [], [], _ :: _, _, _, _, _, he, _, _ => by simp [pkCL] at he
  | [], _ :: _, _, _, _, _, _, he, _, _ => by simp [pkCL] at he
  | _ :: _, [], _, _, _, _, _, he, _, _ => by simp [pkCL] at he
  | _ :: _, _ :: _, [], _, _, _, _, he, _, _ => by simp [pkCL] at he
end

/-- the roots that are kept hold what is said -/
def keptC (s : St) (ks : List Bool) : Nat → List Root → Option (List Prop)
  | _, [] => some []
  | i, R :: rs => match keptC s ks (i + 1) rs with
    | some ps => if ks[i]? == some true then match s.root i with
        | some Q => if Q.T = R.T then (if Q.sz = R.sz then some ((Q.xs = R.xs) :: (treeLL R.xs = true) :: (noRoLL R.xs = true) :: ps) else none) else none
        | none => none
      else some ps
    | none => none
def Kept (s : St) (ks : List Bool) (rs : List Root) : Prop := ∀ (i : Nat) (R : Root), rs[i]? = some R → ks[i]? = some true → s.root i = some R ∧ treeLL R.xs = true ∧ noRoLL R.xs = true
theorem keptC_at {s : St} {ks : List Bool} : ∀ {rs : List Root} {k : Nat} {ps : List Prop}, keptC s ks k rs = some ps → AllP ps → ∀ (i : Nat) (R : Root), rs[i]? = some R → ks[k + i]? = some true → s.root (k + i) = some R ∧ treeLL R.xs = true ∧ noRoLL R.xs = true
  | [], k, ps, h, hp, i, R, hR, _ => by simp at hR
  | X :: rs, k, ps, h, hp, i, R, hR, hk => by
    simp only [keptC] at h
    split at h
    case h_2 => cases h
    rename_i qs hq
    cases i with
    | zero =>
      simp at hR
      subst hR
      rw [Nat.add_zero] at hk ⊢
      rw [hk] at h
      simp only [beq_self_eq_true, if_true] at h
      split at h
      case h_2 => cases h
      rename_i Q hQ
      split at h
      case isFalse => cases h
      rename_i hT
      split at h
      case isFalse => cases h
      rename_i hS
      cases h
      obtain ⟨h1, h2, h3, _⟩ := hp
      refine ⟨?_, h2, h3⟩
      rw [hQ]
      obtain ⟨qT, qS, qx⟩ := Q
      obtain ⟨rT, rS, rx⟩ := X
      simp only at hT hS h1
      rw [hT, hS, h1]
    | succ i =>
      have hp' : AllP qs := by
        split at h
        · split at h
          case h_2 => cases h
          split at h
          case isFalse => cases h
          split at h
          case isFalse => cases h
          cases h
          exact hp.2.2.2
        · cases h; exact hp
      have := keptC_at hq hp' i R (by simpa using hR) (by rw [show k + 1 + i = k + (i + 1) by omega]; exact hk)
      rw [show k + 1 + i = k + (i + 1) by omega] at this
      exact this
/-- what a function's end is to show -/
def RetE (Θ : Tys) (rv : List ResultVar) (ks : List Bool) (rs : List Root) (res : AV) (E : Env) (s : St) : Prop :=
  ∃ s', Ent E s s' ∧ ∃ xs, resVs Θ s' rv = some xs ∧ Kept s' ks rs ∧
    ∀ a w χ hd ρ, Rel0 E s' a w χ hd → (∀ i, ks[i]? = some true → ρ i = tab s' hd i) → ∀ u, repR w (free χ w) (· ∈ s'.us) (tab s' hd) (one xs) u [] →
      ∃ g, repR w (roS ks χ w) (fun i => ks[i]? = some true) ρ res u g ∧ g.Nodup ∧ ∀ b ∈ g, ∃ i, χ b = some i ∧ i ≠ JJ ∧ ks[i]? ≠ some true
def runRet (Θ : Tys) (P : Program) (n : Nat) (body : Code) (rv : List ResultVar) (ks : List Bool) (rs : List Root) (pt : List Bool) (s : St) (hs : List Hn) (rh : List H) (ph : PH) (res : AV) : Option (List Prop) :=
  match exec Θ P n body none 10000 false (some pt) 0 s hs with
  | some (k, s1, hs1, ps) => match ghs k hs1 s1 with
    | some (s2, [], qs) => match resVsC Θ s2 rh rv with
      | some (xs, rs') => match keptC s2 ks 0 rs, pkC s2 ks ph (one xs) res with
        | some ks', some (ts, is) => if ndB is then some (ps ++ (qs ++ (rs' ++ (ks' ++ ts)))) else none
        | _, _ => none
      | none => none
    | _ => none
  | none => none
theorem go_ret {E : Env} {Θ : Tys} (hΘ : TOK E.P Θ) (hm : E.P.follows .mixedOrders = true) {body : Code} {P : Program} (hP : E.P = P) {n : Nat} (hn : E.n = n) {rv : List ResultVar} {ks : List Bool} {rs : List Root} {pt : List Bool} {s : St} {hs : List Hn} {rh : List H} {ph : PH} {res : AV} {ps : List Prop}
    (h : runRet Θ P n body rv ks rs pt s hs rh ph res = some ps) (hp : AllP ps) : WAt E body (FQ (RetE Θ rv ks rs res E)) pt s := by
  subst hP; subst hn
  unfold runRet at h
  split at h
  case h_2 => cases h
  rename_i k s1 hs1 qs he
  split at h
  case h_2 => cases h
  rename_i s2 rs' hg
  split at h
  case h_2 => cases h
  rename_i xs vs hx
  split at h
  case h_2 => cases h
  rename_i kps ts is hkp hpk
  split at h
  case isFalse => cases h
  rename_i hnd
  cases h
  obtain ⟨h1, h2⟩ := allP_app hp
  obtain ⟨h3, h4⟩ := allP_app h2
  obtain ⟨h5, h6⟩ := allP_app h4
  obtain ⟨h7, h8⟩ := allP_app h6
  refine exec_sound (tgt := none) hΘ hm he h1 ?_
  refine ⟨.inl rfl, s2, ghs_sound hg h3, xs, resVsC_sound hx h5, fun i R hR hk => ?_, ?_⟩
  · have := keptC_at hkp h7 i R hR (by rw [Nat.zero_add]; exact hk)
    rw [Nat.zero_add] at this
    exact this
  · intro a w χ hd ρ hr hρ u hu
    obtain ⟨g, g1, g2, g3⟩ := pkC_sound hr hρ _ _ _ _ _ u hu hpk h8 (ndB_iff hnd)
    exact ⟨g, g1, g2, fun b hb => by obtain ⟨i, _, hi⟩ := g3 b hb; exact ⟨i, hi⟩⟩
end Go.T
