/- Lemmas for FnExactAddPairs; no condition. -/

import Derived.Test.YtihgcgccajikpaaBF
import Derived.Laws.Cover3
set_option linter.unusedVariables false
namespace Go.T
open Go Go.RowKit Go.Proofs

/- ------------------------------------------------ a row that is held against nil -/
theorem nil_run {P : Program} {w : World} {t el : Nat} {A : Option Addr} {len cap : Nat} {X Y : Operand} (ht : P.underlying t = some (.slice el)) :
    (do eqGuard .eql t X Y (.slice A len cap) (.slice none 0 0); binOp .eql t (.slice A len cap) (.slice none 0 0) : Sem Value).run P w = .ok (.bool A.isNone) w := by
  have h1 : (eqGuard .eql t X Y (.slice A len cap) (.slice none 0 0) : Sem Unit).run P w = .ok () w := by simp [eqGuard]
  have h2 := run_equal_slice_nil w t el A len cap ht
  simp only [binOp]
  simp [h1, h2]
/-- a statement whose last operation holds a row that is read against nil -/
def exOpsNil (Θ : Tys) (P : Program) (n : Nat) (ops : Array Oper) : List Oper → Nat → St → List Hn → Option (Nat × St × Nat × List (List AV) × List Hn × List Prop)
  | [], _, _, _ => none
  | [o], k, s, hs => match o.guard, o.dst, o.op with
    | none, some d, .binOp .eql t x y _ => if d < n then match Θ.lookup t, opnd s x, opnd s y with
      | some ⟨_, _, .slice _, _⟩, .ro _ xs, .lit (.slice none 0 0) => some (k + 1, s, d, xs, hs, [])
      | _, _, _ => none
      else none
    | _, _, _ => none
  | o :: rest, k, s, hs => match o.guard with
    | none => match ex1 Θ P n s o (pop k hs).1 with
      | some (s2, qs) => match exOpsNil Θ P n ops rest (k + 1) s2 (pop k hs).2 with
        | some (k', s3, d, xs, hs3, rs) => some (k', s3, d, xs, hs3, qs ++ rs)
        | none => none
      | none => none
    | some _ => none
theorem exOpsNil_sound {E : Env} {Θ : Tys} (hΘ : TOK E.P Θ) {ops : Array Oper} {K : St → Prop} : ∀ {l : List Oper} {k k' d : Nat} {s s' : St} {xs : List (List AV)} {hs hs' : List Hn} {ps : List Prop}, exOpsNil Θ E.P E.n ops l k s hs = some (k', s', d, xs, hs', ps) → AllP ps → (∀ c : Bool, (c = true → xs = []) → K (s'.put d (.lit (.bool c)))) → RW E ops l s K
  | [], k, k', d, s, s', xs, hs, hs', ps, h, hp, hk => by simp [exOpsNil] at h
  | [o], k, k', d, s, s', xs, hs, hs', ps, h, hp, hk => by
    simp only [exOpsNil] at h
    split at h
    case h_2 => cases h
    rename_i d0 t x y sg hg hdst hop
    split at h
    case isFalse => cases h
    rename_i hd
    split at h
    case h_2 => cases h
    rename_i ti hti hx hy
    cases h
    intro a w Q hrel hq
    refine wpList_plain hg (fun K' hK' => ?_)
    obtain ⟨χ, hdd, h0⟩ := hrel
    have rx := opnd_rep h0 x
    have ry := opnd_rep h0 y
    rw [hx] at rx
    rw [hy] at ry
    have ry := lit_inv ry
    simp only [repR, rep] at rx
    obtain ⟨_, A, cap, hu, hc, hxs⟩ := rx
    refine upon_val (w' := w) (v := .bool A.isNone) ?_ (hK' _ _ (wpList_nil (hq (s.put d (.lit (.bool A.isNone))) _ _ (hk A.isNone fun hn => ?_) ?_)))
    · obtain ⟨dst, op', type, pos, after, guard⟩ := o
      simp only at hop
      subst hop
      simp only [execOp, hu, ry]
      rw [Sem.run_bind, nil_run (tiOf_und (hΘ.get hti))]
      rfl
    · rcases hxs with h | ⟨b, o, vs, h, _⟩
      · exact h
      · subst h; cases hn
    · rw [hdst]
      exact ⟨χ, hdd, h0.put hd (repR_lit _)⟩
  | o :: o2 :: rest, k, k', d, s, s', xs, hs, hs', ps, h, hp, hk => by
    simp only [exOpsNil] at h
    split at h
    case h_2 => cases h
    rename_i hg
    split at h
    case h_2 => cases h
    rename_i s2 qs he
    split at h
    case h_2 => cases h
    rename_i hr
    cases h
    obtain ⟨h1, h2⟩ := allP_app hp
    exact rw_op hg (ex1_sound hΘ he h1) (exOpsNil_sound hΘ hr h2 hk)
def runNil (Θ : Tys) (P : Program) (n : Nat) (body : Code) (pt p : List Bool) (s : St) (hs : List Hn) : Option (Option (List Bool) × St × Nat × List (List AV) × List Prop) :=
  match exec Θ P n body (some p) 10000 true (some pt) 0 s hs with
  | some (k, s1, hs1, ps) => match cAt body p with
    | some (.region _ ops false) => match ghs k hs1 s1 with
      | some (s2, hs2, qs) => match exOpsNil Θ P n ops ops.toList k s2 hs2 with
        | some (_, s3, d, xs, [], rs) => some (nxt body p, s3, d, xs, ps ++ (qs ++ rs))
        | _ => none
      | none => none
    | _ => none
  | none => none
theorem go_nil {E : Env} {Θ : Tys} (hΘ : TOK E.P Θ) (hm : E.P.follows .mixedOrders = true) {body : Code} {R : St → Prop} {P : Program} (hP : E.P = P) {n : Nat} (hn : E.n = n) {pt p q : List Bool} {s s' : St} {hs : List Hn} {d : Nat} {xs : List (List AV)} {ps : List Prop}
    (h : runNil Θ P n body pt p s hs = some (some q, s', d, xs, ps)) (hp : AllP ps) (hk : ∀ c : Bool, (c = true → xs = []) → WAt E body (FQ R) q (s'.put d (.lit (.bool c)))) : WAt E body (FQ R) pt s := by
  subst hP; subst hn
  unfold runNil at h
  split at h
  case h_2 => cases h
  rename_i k s1 hs1 qs he
  split at h
  case h_2 => cases h
  rename_i id ops hc
  split at h
  case h_2 => cases h
  rename_i s2 hs2 rs hg
  split at h
  case h_2 => cases h
  rename_i k3 s3 d3 xs3 us ho
  rw [Option.some.injEq, Prod.mk.injEq, Prod.mk.injEq, Prod.mk.injEq, Prod.mk.injEq] at h
  obtain ⟨hq, rfl, rfl, rfl, rfl⟩ := h
  obtain ⟨h1, h2⟩ := allP_app hp
  obtain ⟨h3, h4⟩ := allP_app h2
  refine exec_sound hΘ hm he h1 ?_
  show WAt E body (FQ R) p s1
  refine wAt_of hc (by simp) (twp_ent (ghs_sound hg h3) (twp_rwl (exOpsNil_sound hΘ ho h4 fun c hcc => nxt_sound ?_)))
  rw [hq]
  exact hk c hcc
end Go.T
