/- Lemmas for FnExactFastRace; no condition. -/

import Derived.Test.YthhcnmideecfpaaBM
import Derived.Laws.Cover3
import Derived.KernelRfl
import Derived.Laws.StructEq
import Derived.Laws.Externs
import Derived.ChangeKeysEq

set_option linter.unusedVariables false
namespace Go.T
open Go Go.RowKit Go.Proofs

/- ------------------------------------------------ a row that is held against nil -/
theorem nil_run {P : Program} {w : World} {t el : Nat} {A : Option Addr} {len cap : Nat} {X Y : Operand} (ht : P.underlying t = some (.slice el)) :
    (do eqGuard .eql t X Y (.slice A len cap) (.slice none 0 0); binOp .eql t (.slice A len cap) (.slice none 0 0) : Sem Value).run P w = .ok (.bool A.isNone) w := by
  have h1 : (eqGuard .eql t X Y (.slice A len cap) (.slice none 0 0) : Sem Unit).run P w = .ok () w := by simp [eqGuard]
  have h2 := run_equal_slice_nil w t el A len cap ht
  simp only [binOp]
  simp [h1, h2]
/-- a statement whose last operation holds a row that is read against nil -/
def exOpsNil (Θ : Tys) (P : Program) (n : Nat) (ops : Array Oper) : List Oper → Nat → St → List Hn → Option (Nat × St × Nat × List (List AV) × List Hn × List Prop)
  | [], _, _, _ => none
  | [o], k, s, hs => match o.guard, o.dst, o.op with
    | none, some d, .binOp .eql t x y _ => if d < n then match Θ.lookup t, opnd s x, opnd s y with
      | some ⟨_, _, .slice _, _⟩, .ro _ xs, .lit (.slice none 0 0) => some (k + 1, s, d, xs, hs, [])
      | _, _, _ => none
      else none
    | _, _, _ => none
  | o :: rest, k, s, hs => match o.guard with
    | none => match ex1 Θ P n s o (pop k hs).1 with
      | some (s2, qs) => match exOpsNil Θ P n ops rest (k + 1) s2 (pop k hs).2 with
        | some (k', s3, d, xs, hs3, rs) => some (k', s3, d, xs, hs3, qs ++ rs)
        | none => none
      | none => none
    | some _ => none
theorem exOpsNil_sound {E : Env} {Θ : Tys} (hΘ : TOK E.P Θ) {ops : Array Oper} {K : St → Prop} : ∀ {l : List Oper} {k k' d : Nat} {s s' : St} {xs : List (List AV)} {hs hs' : List Hn} {ps : List Prop}, exOpsNil Θ E.P E.n ops l k s hs = some (k', s', d, xs, hs', ps) → AllP ps → (∀ c : Bool, (c = true → xs = []) → K (s'.put d (.lit (.bool c)))) → RW E ops l s K
  | [], k, k', d, s, s', xs, hs, hs', ps, h, hp, hk => by simp [exOpsNil] at h
  | [o], k, k', d, s, s', xs, hs, hs', ps, h, hp, hk => by
    simp only [exOpsNil] at h
    split at h
    case h_2 => cases h
    rename_i d0 t x y sg hg hdst hop
    split at h
    case isFalse => cases h
    rename_i hd
    split at h
    case h_2 => cases h
    rename_i ti hti hx hy
    cases h
    intro a w Q hrel hq
    refine wpList_plain hg (fun K' hK' => ?_)
    obtain ⟨χ, hdd, h0⟩ := hrel
    have rx := opnd_rep h0 x
    have ry := opnd_rep h0 y
    rw [hx] at rx
    rw [hy] at ry
    have ry := lit_inv ry
    simp only [repR, rep] at rx
    obtain ⟨_, A, cap, hu, hc, hxs⟩ := rx
    refine upon_val (w' := w) (v := .bool A.isNone) ?_ (hK' _ _ (wpList_nil (hq (s.put d (.lit (.bool A.isNone))) _ _ (hk A.isNone fun hn => ?_) ?_)))
    · obtain ⟨dst, op', type, pos, after, guard⟩ := o
      simp only at hop
      subst hop
      simp only [execOp, hu, ry]
      rw [Sem.run_bind, nil_run (tiOf_und (hΘ.get hti))]
      rfl
    · rcases hxs with h | ⟨b, o, vs, h, _⟩
      · exact h
      · subst h; cases hn
    · rw [hdst]
      exact ⟨χ, hdd, h0.put hd (repR_lit _)⟩
  | o :: o2 :: rest, k, k', d, s, s', xs, hs, hs', ps, h, hp, hk => by
    simp only [exOpsNil] at h
    split at h
    case h_2 => cases h
    rename_i hg
    split at h
    case h_2 => cases h
    rename_i s2 qs he
    split at h
    case h_2 => cases h
    rename_i hr
    cases h
    obtain ⟨h1, h2⟩ := allP_app hp
    exact rw_op hg (ex1_sound hΘ he h1) (exOpsNil_sound hΘ hr h2 hk)
def runNil (Θ : Tys) (P : Program) (n : Nat) (body : Code) (pt p : List Bool) (s : St) (hs : List Hn) : Option (Option (List Bool) × St × Nat × List (List AV) × List Prop) :=
  match exec Θ P n body (some p) 10000 true (some pt) 0 s hs with
  | some (k, s1, hs1, ps) => match cAt body p with
    | some (.region _ ops false) => match ghs k hs1 s1 with
      | some (s2, hs2, qs) => match exOpsNil Θ P n ops ops.toList k s2 hs2 with
        | some (_, s3, d, xs, [], rs) => some (nxt body p, s3, d, xs, ps ++ (qs ++ rs))
        | _ => none
      | none => none
    | _ => none
  | none => none
theorem go_nil {E : Env} {Θ : Tys} (hΘ : TOK E.P Θ) (hm : E.P.follows .mixedOrders = true) {body : Code} {R : St → Prop} {P : Program} (hP : E.P = P) {n : Nat} (hn : E.n = n) {pt p q : List Bool} {s s' : St} {hs : List Hn} {d : Nat} {xs : List (List AV)} {ps : List Prop}
    (h : runNil Θ P n body pt p s hs = some (some q, s', d, xs, ps)) (hp : AllP ps) (hk : ∀ c : Bool, (c = true → xs = []) → WAt E body (FQ R) q (s'.put d (.lit (.bool c)))) : WAt E body (FQ R) pt s := by
  subst hP; subst hn
  unfold runNil at h
  split at h
  case h_2 => cases h
  rename_i k s1 hs1 qs he
  split at h
  case h_2 => cases h
  rename_i id ops hc
  split at h
  case h_2 => cases h
  rename_i s2 hs2 rs hg
  split at h
  case h_2 => cases h
  rename_i k3 s3 d3 xs3 us ho
  rw [Option.some.injEq, Prod.mk.injEq, Prod.mk.injEq, Prod.mk.injEq, Prod.mk.injEq] at h
  obtain ⟨hq, rfl, rfl, rfl, rfl⟩ := h
  obtain ⟨h1, h2⟩ := allP_app hp
  obtain ⟨h3, h4⟩ := allP_app h2
  refine exec_sound hΘ hm he h1 ?_
  show WAt E body (FQ R) p s1
  refine wAt_of hc (by simp) (twp_ent (ghs_sound hg h3) (twp_rwl (exOpsNil_sound hΘ ho h4 fun c hcc => nxt_sound ?_)))
  rw [hq]
  exact hk c hcc
end Go.T

set_option linter.unusedVariables false
namespace Go.T
open Go Go.RowKit Go.Proofs

abbrev I (n : Int) : AV := .lit (.int .i64 n)
abbrev IK (k : IntKind) (n : Int) : AV := .lit (.int k n)
abbrev B (b : Bool) : AV := .lit (.bool b)
abbrev w64 (n : Int) : Int := IntKind.i64.wrap n
/-- how many rounds a loop may have -/
theorem FU_ex : ∃ n : Nat, n = 4611686018427387904 := ⟨_, rfl⟩
noncomputable def FU : Nat := FU_ex.choose
theorem FU_eq : FU = 4611686018427387904 := FU_ex.choose_spec

theorem bnS {α β : Type} {o : Option α} {f : α → Option β} {r : β} (h : o.bind f = some r) : ∃ x, o = some x ∧ f x = some r := by
  cases o with
  | none => simp at h
  | some x => exact ⟨x, rfl, h⟩
theorem itS {β : Type} {b : Bool} {x y : Option β} {r : β} (h : (if b = true then x else y) = some r) : (b = true ∧ x = some r) ∨ (b = false ∧ y = some r) := by
  cases b
  · right; exact ⟨rfl, by simpa using h⟩
  · left; exact ⟨rfl, by simpa using h⟩

open Classical in
noncomputable def both {α : Type} (x y : Option α) : Option α := if x = y then x else none
theorem both_self {α : Type} (x : Option α) : both x x = x := if_pos rfl
theorem bothE {α : Type} {x y : Option α} {r : α} (h : both x y = some r) : x = some r ∧ y = some r := by
  unfold both at h
  split at h
  · rename_i e; subst e; exact ⟨h, h⟩
  · cases h
/-- a row is held against nil: where it is empty, both ways come to one -/
noncomputable def nilS {α β : Type} (xs : List α) (X Y : Option β) : Option β := if xs.isEmpty = true then both X Y else Y
theorem nilSE {α β : Type} {xs : List α} {X Y : Option β} {r : β} (h : nilS xs X Y = some r) : (xs = [] → X = some r) ∧ Y = some r := by
  unfold nilS at h
  split at h
  · obtain ⟨h1, h2⟩ := bothE h; exact ⟨fun _ => h1, h2⟩
  · rename_i hn; exact ⟨fun e => by subst e; exact absurd rfl hn, h⟩
abbrev Str := List UInt8
def sK (l : Str) : ByteArray := ⟨l.toArray⟩
abbrev SK (l : Str) : AV := .lit (.string (sK l))
abbrev FK (n : Nat) : AV := .lit (.float .f64 n)
def nz (b : Int) : Option Unit := if b = 0 then none else some ()
theorem nzE {b : Int} {u : Unit} (h : nz b = some u) : b ≠ 0 := by unfold nz at h; split at h; cases h; assumption
def ge0 (b : Int) : Option Unit := if b < 0 then none else some ()
theorem ge0E {b : Int} {u : Unit} (h : ge0 b = some u) : ¬ b < 0 := by unfold ge0 at h; split at h; cases h; assumption
def ixor (k : IntKind) (a b : Int) : Int := k.wrap (BitVec.ofInt k.bits a ^^^ BitVec.ofInt k.bits b).toNat
def iandn (k : IntKind) (a b : Int) : Int := k.wrap (BitVec.ofInt k.bits a &&& ~~~BitVec.ofInt k.bits b).toNat
def iand (k : IntKind) (a b : Int) : Int := k.wrap (BitVec.ofInt k.bits a &&& BitVec.ofInt k.bits b).toNat
def ior (k : IntKind) (a b : Int) : Int := k.wrap (BitVec.ofInt k.bits a ||| BitVec.ofInt k.bits b).toNat
def imax (a b : Int) : Int := if b > a then b else a
def imin (a b : Int) : Int := if b < a then b else a

/- reading -/
def rd {α : Type} (l : List α) (i : Int) : Option α := if 0 ≤ i then l[i.toNat]? else none
section
variable {α β : Type} {l : List α} {i : Int} {e : α}
theorem rd0 (h : rd l i = some e) : 0 ≤ i := by unfold rd at h; split at h; assumption; cases h
theorem rdE (h : rd l i = some e) : l[i.toNat]? = some e := by unfold rd at h; split at h; exact h; cases h
theorem rdM (f : α → β) (h : rd l i = some e) : (l.map f)[i.toNat]? = some (f e) := by rw [List.getElem?_map, rdE h]; rfl
theorem rdL (f : α → β) (h : rd l i = some e) : i < ((l.map f).length : Int) := by
  have h1 := rd0 h
  have h2 := (List.getElem?_eq_some_iff.1 (rdE h)).1
  rw [List.length_map]
  omega
theorem setM (f : α → β) {y : α} : (l.map f).set i.toNat (f y) = (l.set i.toNat y).map f := List.map_set.symm
theorem setMr (f : α → β) {y : α} {ys : β} (h : ys = f y) : (l.map f).set i.toNat ys = (l.set i.toNat y).map f := by rw [h]; exact List.map_set.symm
/-- reading a cut of a row: its start, its length, the place in it -/
def rdc (l : List α) (o n : Nat) (i : Int) : Option α := if 0 ≤ i ∧ i < (n : Int) then l[addO o i.toNat]? else none
theorem rdc0 {o n : Nat} (h : rdc l o n i = some e) : 0 ≤ i := by unfold rdc at h; split at h; rename_i h1; exact h1.1; cases h
theorem rdcL {o n : Nat} (h : rdc l o n i = some e) : i < (n : Int) := by unfold rdc at h; split at h; rename_i h1; exact h1.2; cases h
theorem rdcR {o n : Nat} (h : rdc l o n i = some e) : rd l ((addO o i.toNat : Nat) : Int) = some e := by
  unfold rdc at h; split at h
  · rw [rd, if_pos (Int.natCast_nonneg _), Int.toNat_natCast]; exact h
  · cases h
theorem rdcR0 {n : Nat} (h : rdc l 0 n i = some e) : rd l i = some e := by
  have h0 := rdc0 h
  unfold rdc at h; split at h
  · unfold rd; rw [if_pos h0]; simpa [addO] using h
  · cases h
theorem lnSet (f : α → β) {n : Nat} {y : α} : (l.map f).length = ((l.set n y).map f).length := by simp
theorem lnSet2 (f : α → β) {n m : Nat} {x y : α} : ((l.set n x).map f).length = ((l.set m y).map f).length := by simp
/- two rows of one root, open at once -/
theorem setN {xs : List β} {n m : Nat} {x y : β} (hne : n ≠ m) (h : xs[m]? = some x) : (xs.set n y)[m]? = some x := by rw [List.getElem?_set_ne hne]; exact h
theorem rdL1 (f : α → β) {n : Nat} {y : β} (h : rd l i = some e) : i < ((((l.map f).set n y).length : Nat) : Int) := by rw [List.length_set]; exact rdL f h
theorem rdL2 (f : α → β) {n m : Nat} {y z : β} (h : rd l i = some e) : i < (((((l.map f).set n y).set m z).length : Nat) : Int) := by rw [List.length_set, List.length_set]; exact rdL f h
theorem setP2 (f : α → β) {x1 x2 : β} {y : α} {n m : Nat} (hne : n ≠ m) : ((((l.map f).set n x1).set m x2).set m (f y)) = ((l.set m y).map f).set n x1 := by
  rw [List.set_set, List.set_comm _ _ hne, List.map_set]
theorem setP1 (f : α → β) {x1 x2 : β} {y : α} {n m : Nat} (hne : n ≠ m) : ((((l.map f).set n x1).set m x2).set n (f y)) = ((l.set n y).map f).set m x2 := by
  rw [List.set_comm _ _ (Ne.symm hne), List.set_set, List.map_set]
theorem set_id {n : Nat} {y : β} {l : List β} (h : l[n]? = some y) : l.set n y = l := by
  apply List.ext_getElem?
  intro k
  rw [List.getElem?_set]
  split
  · rename_i e; subst e
    split
    · exact h.symm
    · rename_i h2; rw [List.getElem?_eq_none (by omega)] at h; cases h
  · rfl
theorem setPi (f : α → β) {x : β} {y : α} (h : rd l i = some y) : ((l.map f).set i.toNat x).set i.toNat (f y) = l.map f := by
  rw [List.set_set, ← List.map_set, set_id (rdE h)]
theorem setP2i (f : α → β) {x1 x2 : β} {y : α} {n : Nat} (hne : n ≠ i.toNat) (h : rd l i = some y) : ((((l.map f).set n x1).set i.toNat x2).set i.toNat (f y)) = (l.map f).set n x1 := by
  rw [setP2 f hne, set_id (rdE h)]
theorem setP1i (f : α → β) {x1 x2 : β} {y : α} {m : Nat} (hne : i.toNat ≠ m) (h : rd l i = some y) : ((((l.map f).set i.toNat x1).set m x2).set i.toNat (f y)) = (l.map f).set m x2 := by
  rw [setP1 f hne, set_id (rdE h)]
/- a row whose first elements are gone -/
def gone (o : α → List AV) (l : List α) (n : Nat) : List (List AV) := List.replicate n [AV.dead] ++ (l.drop n).map o
theorem gn0 (o : α → List AV) : l.map o = gone o l (Int.toNat 0) := by simp [gone]
theorem gnR (o : α → List AV) (h : rd l i = some e) : (gone o l i.toNat)[i.toNat]? = some (o e) := by
  unfold gone
  rw [List.getElem?_append_right (by simp)]
  simp [List.getElem?_drop, rdE h]
theorem gnLen (o : α → List AV) (n : Nat) (h : n ≤ l.length) : (gone o l n).length = l.length := by
  unfold gone; simp; omega
theorem gnL (o : α → List AV) (h : rd l i = some e) : i < (((gone o l i.toNat).length : Nat) : Int) := by
  have h1 := rd0 h
  have h2 := (List.getElem?_eq_some_iff.1 (rdE h)).1
  rw [gnLen o _ (by omega)]
  omega
def nx1 (i : Int) : Option Unit := if w64 (i + 1) = i + 1 then some () else none
theorem nx1E {q : Unit} (h : nx1 i = some q) : w64 (i + 1) = i + 1 := by unfold nx1 at h; split at h; assumption; cases h
theorem gnS (o : α → List AV) {x : List AV} {q : Unit} (h : rd l i = some e) (hn : nx1 i = some q) : ((gone o l i.toNat).set i.toNat x).set i.toNat [AV.dead] = gone o l (w64 (i + 1)).toNat := by
  have h1 := rd0 h
  have h2 := (List.getElem?_eq_some_iff.1 (rdE h)).1
  rw [List.set_set, nx1E hn, show (i + 1).toNat = i.toNat + 1 by omega]
  unfold gone
  rw [List.set_append_right _ _ (by simp), List.drop_eq_getElem_cons h2, List.replicate_succ', List.length_replicate, Nat.sub_self, List.map_cons, List.set_cons_zero, List.append_assoc]
  rfl
theorem gnN (o : α → List AV) {x : List AV} {q : Unit} (h : rd l i = some e) (hn : nx1 i = some q) : (gone o l i.toNat).length = (gone o l (w64 (i + 1)).toNat).length := by
  rw [← gnS o (x := x) h hn]; simp
theorem gnN0 (o : α → List AV) : (l.map o).length = (gone o l (Int.toNat 0)).length := by rw [← gn0 o]
theorem gnT {o : α → List AV} (ht : ∀ x, treeL (o x) = true) {n : Nat} : treeLL (gone o l n) = true := by
  unfold gone treeLL
  rw [List.all_append, Bool.and_eq_true]
  constructor
  · rw [List.all_eq_true]; intro y hy; rw [List.eq_of_mem_replicate hy]; rfl
  · rw [List.all_eq_true]; intro y hy
    obtain ⟨x, _, rfl⟩ := List.mem_map.1 hy
    exact ht x
def neI (i j : Int) : Option Unit := if i = j then none else some ()
theorem neN {a b : Int} {u : Unit} (h : neI a b = some u) (ha : 0 ≤ a) (hb : 0 ≤ b) : a.toNat ≠ b.toNat := by
  unfold neI at h
  split at h
  · cases h
  · omega
theorem rdSN {j : Int} {x : α} {y : α} (hne : i.toNat ≠ j.toNat) (h : rd l j = some x) : rd (l.set i.toNat y) j = some x := by
  unfold rd at h ⊢
  split at h
  · rename_i h0; rw [if_pos h0, List.getElem?_set_ne hne]; exact h
  · cases h
theorem rok {π : List (Nat × Nat)} {xs : List (List AV)} (h : treeLL xs = true) : RenOK π xs := .inl h
theorem renSet {π : List (Nat × Nat)} {xs : List (List AV)} {n : Nat} {x : List AV} (h : RenOK π xs) (hx : renL π x = x) : RenOK π (xs.set n x) := .inr (by
  have h1 := h.eq
  unfold renLL at h1 ⊢
  rw [List.map_set, h1, hx])
theorem setSS (f : α → β) {x y : α} {ys : β} (h : ys = f y) : ((l.set i.toNat x).map f).set i.toNat ys = (l.set i.toNat y).map f := by rw [h, ← List.map_set, List.set_set]
theorem rdS {x y : α} (h : rd l i = some x) : rd (l.set i.toNat y) i = some y := by
  unfold rd at h ⊢
  split at h
  · rename_i h0
    rw [if_pos h0, List.getElem?_set_self (List.getElem?_eq_some_iff.1 h).1]
  · cases h
theorem pkS {j a b : Nat} (h : a = b) : some (AV.sl j 0 a) = some (AV.sl j 0 b) := by rw [h]
theorem setE {y : β} {xs : List β} {n : Nat} {x : β} (h : xs[n]? = some x) : (xs.set n y)[n]? = some y := by
  have := (List.getElem?_eq_some_iff.1 h).1
  rw [List.getElem?_set_self this]
theorem lenM (f : α → β) : AV.lit (.int .i64 ((l.map f).length : Nat)) = AV.lit (.int .i64 (l.length : Nat)) := by rw [List.length_map]
/- appending -/
def app (l1 l2 : List α) : Option (List α) := if l1.length + l2.length < 1099511627776 then some (l1 ++ l2) else none
variable {l1 l2 : List α}
theorem appE (h : app l1 l2 = some l) : l1 ++ l2 = l := by unfold app at h; split at h; cases h; rfl; cases h
theorem appLt (h : app l1 l2 = some l) : l.length < 1099511627776 := by
  unfold app at h; split at h
  · cases h; rw [List.length_append]; assumption
  · cases h
theorem appT (f : α → β) (h : app l1 l2 = some l) : (l1.map f).take (l1.map f).length ++ l2.map f = l.map f := by
  rw [List.take_length, ← appE h, List.map_append]
theorem appN (f : α → β) (h : app [] l2 = some l) : [] ++ l2.map f = l.map f := by
  rw [← appE h, List.map_append]; rfl
theorem appB (f : α → β) (h : app l1 l2 = some l) {b : Nat} (hb : b ≤ 128) : (l.map f).length * b ≤ 140737488355328 := by
  have := appLt h
  rw [List.length_map]
  calc l.length * b ≤ 1099511627776 * 128 := Nat.mul_le_mul (by omega) hb
    _ = 140737488355328 := rfl
theorem appC (f : α → β) (h : app l1 l2 = some l) : (l.map f).length ≤ 140737488355328 := by
  have := appLt h
  rw [List.length_map]; omega
theorem plM {f : α → List AV} (h : ∀ x, (f x).all AV.plain = true) : (l.map f).all (fun r => r.all AV.plain) = true := by
  rw [List.all_eq_true]
  intro y hy
  obtain ⟨x, _, rfl⟩ := List.mem_map.1 hy
  exact h x
theorem appTD (f : α → β) (h : app l1 l2 = some l) : (l1.map f).take (List.length (l1.map f)) ++ (((l2.map f).drop 0).take (List.length (l2.map f))) = l.map f := by
  rw [List.drop_zero, List.take_length, List.take_length, ← appE h, List.map_append]
theorem appND (f : α → β) (h : app [] l2 = some l) : [] ++ (((l2.map f).drop 0).take (List.length (l2.map f))) = l.map f := by
  rw [List.drop_zero, List.take_length, ← appE h, List.map_append]; rfl
theorem plD {f : α → List AV} (h : ∀ x, (f x).all AV.plain = true) {a n : Nat} : (((l.map f).drop a).take n).all (fun r => r.all AV.plain) = true := by
  rw [← List.map_drop, ← List.map_take]; exact plM h
/- an own row that comes to the end of another one -/
theorem apT (f : α → β) {x : β} : (l.map f).take (l.map f).length ++ [x] = l.map f ++ [x] := by rw [List.take_length]
theorem apB (f : α → β) {x : β} {y : α} {l' : List α} (h : app l [y] = some l') {b : Nat} (hb : b ≤ 128) : (l.map f ++ [x]).length * b ≤ 140737488355328 := by
  have := appB f h hb
  rw [← appE h, List.length_map, List.length_append] at this
  rw [List.length_append, List.length_map]; exact this
theorem apC (f : α → β) {x : β} {y : α} {l' : List α} (h : app l [y] = some l') : (l.map f ++ [x]).length ≤ 140737488355328 := by
  have := appC f h
  rw [← appE h, List.length_map, List.length_append] at this
  rw [List.length_append, List.length_map]; exact this
theorem apG (f : α → β) {x : β} : (l.map f ++ [x])[l.length]? = some x := by
  rw [List.getElem?_append_right (by simp)]; simp
theorem apS (f : α → β) {x : β} {y : α} {l' : List α} (h : app l [y] = some l') : (l.map f ++ [x]).set l.length (f y) = l'.map f := by
  rw [← appE h, List.set_append_right _ _ (by simp)]
  simp
theorem apLn (f : α → β) {x : β} {y : α} {l' : List α} (h : app l [y] = some l') : List.length (l.map f ++ [x]) = List.length (l'.map f) := by
  rw [← appE h]; simp
/- handed on for reading, one level more -/
theorem rsW {τ : List (Nat × Root)} {xs zs : List (List AV)} (h : rsLL τ xs = some zs) : rsLL τ ((xs.drop 0).take xs.length) = some zs := by simpa using h
theorem rsWn {τ : List (Nat × Root)} {xs zs : List (List AV)} {n : Nat} (hn : n = xs.length) (h : rsLL τ xs = some zs) : rsLL τ ((xs.drop 0).take n) = some zs := by subst hn; simpa using h
theorem rsHole {τ : List (Nat × Root)} {T : Type} {o r : T → List AV} (ht : ∀ x, treeL (o x) = true) (hz : ∀ x, frzL (o x) = r x) {X : List T} {e : Nat} {c : List AV} {y : T} (hc : rsL τ c = some (r y)) : rsLL τ ((X.map o).set e c) = some ((X.set e y).map r) := by
  rw [List.map_set]
  exact rsLL_set hc (rsLL_map ht hz X)
theorem rs1_sl {τ : List (Nat × Root)} {j n : Nat} {R : Root} {zs : List (List AV)} (h : τ.lookup j = some R) (hw : Frz ((R.xs.drop 0).take n) zs) : rs1 τ (.sl j 0 n) = some (.ro R.sz zs) := by
  unfold rs1
  rw [if_neg (by simp [tree])]
  simp only [h]
  rw [if_pos hw.1, hw.2]
theorem rsL_c {τ : List (Nat × Root)} {c d : AV} {cs ds : List AV} (h1 : rs1 τ c = some d) (h2 : rsL τ cs = some ds) : rsL τ (c :: cs) = some (d :: ds) := by simp only [rsL, h1, h2]
/- making -/
def mk (z : α) (n : Int) : Option (List α) := if 0 ≤ n ∧ n < 1099511627776 then some (List.replicate n.toNat z) else none
variable {n : Int} {z : α}
theorem mkI (h : mk z n = some l) : 0 ≤ n ∧ n < 1099511627776 ∧ List.replicate n.toNat z = l := by
  unfold mk at h; split at h
  · cases h; rename_i hh; exact ⟨hh.1, hh.2, rfl⟩
  · cases h
theorem mkM (f : α → β) (h : mk z n = some l) : List.replicate n.toNat (f z) = l.map f := by rw [← (mkI h).2.2, List.map_replicate]
theorem mk0 (h : mk z n = some l) : 0 ≤ n := (mkI h).1
theorem mkB (h : mk z n = some l) {b : Nat} (hb : b ≤ 128) : n * (b : Int) ≤ 140737488355328 := by
  obtain ⟨h1, h2, _⟩ := mkI h
  calc n * (b : Int) ≤ 1099511627776 * 128 := Int.mul_le_mul (by omega) (by omega) (by omega) (by omega)
    _ = 140737488355328 := rfl
theorem mkC (h : mk z n = some l) : n ≤ 140737488355328 := by have := (mkI h).2.1; omega
theorem mkS (f : α → β) (h : mk z n = some l) {id : Nat} : AV.sl id 0 n.toNat = AV.sl id 0 (List.length (l.map f)) := by
  rw [← (mkI h).2.2, List.length_map, List.length_replicate]
theorem apM (f : α → β) {x y : β} : (l.map f ++ [x]).set l.length y = l.map f ++ [y] := by
  rw [List.set_append_right _ _ (by simp)]; simp
theorem setPe (f : α → β) {x z : β} {y : α} {e : Nat} (h : z = f y) : ((l.map f).set e x).set e z = (l.set e y).map f := by rw [h, List.set_set, List.map_set]
theorem setP (f : α → β) {x : β} {y : α} {e : Nat} : ((l.map f).set e x).set e (f y) = (l.set e y).map f := by rw [List.set_set, List.map_set]
def sameLen (l l' : List α) : Option Unit := if l'.length = l.length then some () else none
theorem sameLenE (f : α → β) {l2 : List α} {u : Unit} (h : sameLen l l2 = some u) : (l2.map f).length = (l.map f).length := by
  unfold sameLen at h; split at h
  · rw [List.length_map, List.length_map]; assumption
  · cases h
/- cuts -/
def slc (l : List α) (lo hi : Int) : Option (List α) := if 0 ≤ lo ∧ lo ≤ hi ∧ hi ≤ (l.length : Int) then some ((l.drop lo.toNat).take (hi.toNat - lo.toNat)) else none
variable {lo hi : Int} {l' : List α}
theorem slI (h : slc l lo hi = some l') : 0 ≤ lo ∧ lo ≤ hi ∧ hi ≤ (l.length : Int) ∧ (l.drop lo.toNat).take (hi.toNat - lo.toNat) = l' := by
  unfold slc at h; split at h
  · cases h; rename_i hh; exact ⟨hh.1, hh.2.1, hh.2.2, rfl⟩
  · cases h
theorem slM (sz : Nat) (f : α → List AV) (h : slc l lo hi = some l') : AV.ro sz (((l.map f).drop lo.toNat).take (subO hi.toNat lo.toNat)) = AV.ro sz (l'.map f) := by
  rw [← (slI h).2.2.2, subO_eq, List.map_take, List.map_drop]
theorem slM0 (sz : Nat) (f : α → List AV) (h : slc l 0 hi = some l') : AV.ro sz (((l.map f).drop (0 : Int).toNat).take (subO hi.toNat (0 : Int).toNat)) = AV.ro sz (l'.map f) := slM sz f h
theorem slMe (sz : Nat) (f : α → List AV) (h : slc l lo (l.length : Int) = some l') : AV.ro sz (((l.map f).drop lo.toNat).take (subO ((((l.map f).length : Nat) : Int)).toNat lo.toNat)) = AV.ro sz (l'.map f) := by
  rw [List.length_map]; exact slM sz f h
theorem shT (f : α → β) (h : slc l 0 hi = some l') : (l.map f).take hi.toNat = l'.map f := by
  obtain ⟨_, _, _, h4⟩ := slI h
  rw [← h4]; simp
theorem sl0 (h : slc l lo hi = some l') : 0 ≤ lo := (slI h).1
theorem sl1 (h : slc l lo hi = some l') : lo ≤ hi := (slI h).2.1
theorem sl2 (f : α → β) (h : slc l lo hi = some l') : hi ≤ ((l.map f).length : Int) := by rw [List.length_map]; exact (slI h).2.2.1
theorem sl1e (f : α → β) (h : slc l lo (l.length : Int) = some l') : lo ≤ ((l.map f).length : Int) := by rw [List.length_map]; exact (slI h).2.1
theorem winE (h : slc l lo hi = some l') : (l.drop lo.toNat).take (subO hi.toNat lo.toNat) = l' := by rw [subO_eq]; exact (slI h).2.2.2
theorem winM (f : α → β) (h : slc l lo hi = some l') : ((l.map f).drop lo.toNat).take (subO hi.toNat lo.toNat) = l'.map f := by
  rw [← List.map_drop, ← List.map_take, winE h]
theorem winM0 (f : α → β) (h : slc l 0 hi = some l') : ((l.map f).drop 0).take hi.toNat = l'.map f := by
  have := winM f h
  rw [subO_eq] at this
  simpa using this
theorem winMe (f : α → β) (h : slc l lo (l.length : Int) = some l') : ((l.map f).drop lo.toNat).take (subO ((((l.map f).length : Nat) : Int)).toNat lo.toNat) = l'.map f := by
  have := winM f h
  rw [List.length_map]; exact this
theorem winMe0 (f : α → β) (h : slc l 0 (l.length : Int) = some l') : ((l.map f).drop 0).take ((((l.map f).length : Nat) : Int)).toNat = l'.map f := by
  have := winM0 f h
  rw [List.length_map]; exact this
theorem winL (h : slc l lo hi = some l') : subO hi.toNat lo.toNat = l'.length := by
  obtain ⟨h1, h2, h3, h4⟩ := slI h
  rw [← h4, List.length_take, List.length_drop, subO_eq]; omega
theorem lenS (f : α → β) (h : slc l lo hi = some l') : AV.lit (.int .i64 ((subO hi.toNat lo.toNat : Nat) : Int)) = AV.lit (.int .i64 (l'.length : Int)) := by rw [winL h]
theorem lenS0 (f : α → β) (h : slc l 0 hi = some l') : AV.lit (.int .i64 ((hi.toNat : Nat) : Int)) = AV.lit (.int .i64 (l'.length : Int)) := by rw [← winL h, subO_eq]; simp
theorem lenSe (f : α → β) (h : slc l lo (l.length : Int) = some l') : AV.lit (.int .i64 ((subO ((((l.map f).length : Nat) : Int)).toNat lo.toNat : Nat) : Int)) = AV.lit (.int .i64 (l'.length : Int)) := by rw [List.length_map, winL h]
theorem lenSe0 (f : α → β) (h : slc l 0 (l.length : Int) = some l') : AV.lit (.int .i64 (((((l.map f).length : Nat) : Int).toNat : Nat) : Int)) = AV.lit (.int .i64 (l'.length : Int)) := by rw [← winL h, subO_eq, List.length_map]; simp
theorem appTDS (f : α → β) {l0 : List α} (h : app l0 l' = some l2) (hs : slc l lo hi = some l') : (l0.map f).take (List.length (l0.map f)) ++ (((l.map f).drop lo.toNat).take (subO hi.toNat lo.toNat)) = l2.map f := by
  rw [winM f hs, List.take_length, ← appE h, List.map_append]
theorem appTDS0 (f : α → β) {l0 : List α} (h : app l0 l' = some l2) (hs : slc l 0 hi = some l') : (l0.map f).take (List.length (l0.map f)) ++ (((l.map f).drop 0).take hi.toNat) = l2.map f := by
  rw [winM0 f hs, List.take_length, ← appE h, List.map_append]
theorem appTDSe (f : α → β) {l0 : List α} (h : app l0 l' = some l2) (hs : slc l lo (l.length : Int) = some l') : (l0.map f).take (List.length (l0.map f)) ++ (((l.map f).drop lo.toNat).take (subO ((((l.map f).length : Nat) : Int)).toNat lo.toNat)) = l2.map f := by
  rw [winMe f hs, List.take_length, ← appE h, List.map_append]
theorem appTDSe0 (f : α → β) {l0 : List α} (h : app l0 l' = some l2) (hs : slc l 0 (l.length : Int) = some l') : (l0.map f).take (List.length (l0.map f)) ++ (((l.map f).drop 0).take ((((l.map f).length : Nat) : Int)).toNat) = l2.map f := by
  rw [winMe0 f hs, List.take_length, ← appE h, List.map_append]
end
/- what is handed on, and back -/
section
variable {α : Type} {l : List α}
theorem frzF {o z : α → List AV} (ht : ∀ x, treeL (o x) = true) (hz : ∀ x, frzL (o x) = z x) : Frz (((l.map o).drop 0).take (l.map o).length) (l.map z) := by
  rw [List.drop_zero, List.take_length]
  refine ⟨?_, ?_⟩
  · rw [treeLL, List.all_eq_true]
    intro y hy
    obtain ⟨x, _, rfl⟩ := List.mem_map.1 hy
    exact ht x
  · rw [frzLL_map, List.map_map]
    refine List.map_congr_left fun x _ => ?_
    rw [← hz x, frzL_map]; rfl
theorem frzFL {o z : α → List AV} {n : Nat} (h : n = (l.map o).length) (ht : ∀ x, treeL (o x) = true) (hz : ∀ x, frzL (o x) = z x) : Frz (((l.map o).drop 0).take n) (l.map z) := by rw [h]; exact frzF ht hz
theorem frzW {o z : α → List AV} {a n : Nat} (ht : ∀ x, treeL (o x) = true) (hz : ∀ x, frzL (o x) = z x) : Frz (((l.map o).drop a).take n) (((l.drop a).take n).map z) := by
  have := frzF (l := (l.drop a).take n) ht hz
  rw [List.drop_zero, List.take_length, List.map_take, List.map_drop] at this
  exact this
theorem frzLLm {o z : α → List AV} (hz : ∀ x, frzL (o x) = z x) : frzLL (l.map o) = l.map z := by
  rw [frzLL_map, List.map_map]
  refine List.map_congr_left fun x _ => ?_
  rw [← hz x, frzL_map]; rfl
theorem treeM {o : α → List AV} (ht : ∀ x, treeL (o x) = true) : treeLL (l.map o) = true := by
  rw [treeLL, List.all_eq_true]
  intro y hy
  obtain ⟨x, _, rfl⟩ := List.mem_map.1 hy
  exact ht x
theorem treeT {o : α → List AV} (ht : ∀ x, treeL (o x) = true) : treeLL ((l.map o).take (l.map o).length) = true := by rw [List.take_length]; exact treeM ht
theorem takeM {o : α → List AV} : (l.map o).take (l.map o).length = l.map o := List.take_length
theorem treeB {o : α → List AV} (ht : ∀ x, treeL (o x) = true) (x : α) : treeLL [o x] = true := by
  simp only [treeLL, List.all_cons, List.all_nil, ht x, Bool.and_true]
theorem frzS {o z : α → List AV} {lo hi : Int} {l' : List α} (ht : ∀ x, treeL (o x) = true) (hz : ∀ x, frzL (o x) = z x) (h : slc l lo hi = some l') : Frz (((l.map o).drop lo.toNat).take (subO hi.toNat lo.toNat)) (l'.map z) := by
  have := frzF (l := l') ht hz
  rw [List.drop_zero, List.take_length] at this
  rw [winM o h]; exact this
theorem frzS0 {o z : α → List AV} {hi : Int} {l' : List α} (ht : ∀ x, treeL (o x) = true) (hz : ∀ x, frzL (o x) = z x) (h : slc l 0 hi = some l') : Frz (((l.map o).drop 0).take hi.toNat) (l'.map z) := by
  have := frzF (l := l') ht hz
  rw [List.drop_zero, List.take_length] at this
  rw [winM0 o h]; exact this
theorem frzSe {o z : α → List AV} {lo : Int} {l' : List α} (ht : ∀ x, treeL (o x) = true) (hz : ∀ x, frzL (o x) = z x) (h : slc l lo (l.length : Int) = some l') : Frz (((l.map o).drop lo.toNat).take (subO ((((l.map o).length : Nat) : Int)).toNat lo.toNat)) (l'.map z) := by
  have := frzF (l := l') ht hz
  rw [List.drop_zero, List.take_length] at this
  rw [winMe o h]; exact this
theorem frzSe0 {o z : α → List AV} {l' : List α} (ht : ∀ x, treeL (o x) = true) (hz : ∀ x, frzL (o x) = z x) (h : slc l 0 (l.length : Int) = some l') : Frz (((l.map o).drop 0).take ((((l.map o).length : Nat) : Int)).toNat) (l'.map z) := by
  have := frzF (l := l') ht hz
  rw [List.drop_zero, List.take_length] at this
  rw [winMe0 o h]; exact this
theorem treeW0 {o : α → List AV} {hi : Int} {l' : List α} (ht : ∀ x, treeL (o x) = true) (h : slc l 0 hi = some l') : treeLL ((l.map o).take hi.toNat) = true := by
  have := winM0 o h
  rw [List.drop_zero] at this
  rw [this]; exact treeM ht
theorem winT0 (o : α → List AV) {hi : Int} {l' : List α} (h : slc l 0 hi = some l') : (l.map o).take hi.toNat = l'.map o := by
  have := winM0 o h
  rwa [List.drop_zero] at this
theorem noRoM {o : α → List AV} (hn : ∀ x, noRoL (o x) = true) : noRoLL (l.map o) = true := by
  induction l with
  | nil => rfl
  | cons x l ih => simp only [List.map_cons, noRoLL, hn x, ih, Bool.and_self]
end
/- arrays -/
def rdv {α : Type} {k : Nat} (v : Vector α k) (i : Int) : Option α := if 0 ≤ i then v[i.toNat]? else none
section
variable {α : Type} {k : Nat} {v : Vector α k} {i : Int} {e : α}
theorem rv0 (h : rdv v i = some e) : 0 ≤ i := by unfold rdv at h; split at h; assumption; cases h
theorem rvE (h : rdv v i = some e) : v[i.toNat]? = some e := by unfold rdv at h; split at h; exact h; cases h
theorem rvL (h : rdv v i = some e) : i < ((k : Nat) : Int) := by
  have h1 := rv0 h
  have h2 := rvE h
  have : i.toNat < k := by
    rcases Nat.lt_or_ge i.toNat k with h3 | h3
    · exact h3
    · rw [Vector.getElem?_eq_none h3] at h2; cases h2
  omega
theorem rvM {β : Type} (f : α → β) (h : rdv v i = some e) : (v.toList.map f)[i.toNat]? = some (f e) := by
  rw [List.getElem?_map, Vector.getElem?_toList, rvE h]; rfl
theorem vecLen {β : Type} (f : α → β) : (v.toList.map f).length = k := by simp
theorem vecAgg {β : Type} (f : α → β) : ((v.toList.map f).drop 0).take k = v.toList.map f := by
  rw [List.drop_zero, List.take_of_length_le (by simp)]
theorem vecWr (f : α → AV) (y : α) (hl : i.toNat < k) : [v.toList.map f].set 0 (wr (v.toList.map f) i.toNat [f y]) = [(v.setIfInBounds i.toNat y).toList.map f] := by
  have : wr (v.toList.map f) i.toNat [f y] = (v.setIfInBounds i.toNat y).toList.map f := by
    unfold wr
    rw [Vector.toList_setIfInBounds, List.map_set, List.set_eq_take_append_cons_drop, if_pos (by simpa using hl)]
    simp
  rw [this]; rfl
theorem rvLt (h : rdv v i = some e) : i.toNat < k := by have := rvL h; have := rv0 h; omega
theorem vecLe0 {β : Type} (f : α → β) : 0 + k ≤ (v.toList.map f).length := by simp
theorem vecLit (f : α → AV) (h : ∀ x, litA (f x) = true) : litA (.agg (v.toList.map f)) = true := by
  simp only [litA]
  induction v.toList with
  | nil => rfl
  | cons x l ih => simp only [List.map_cons, litL2, h x, ih, Bool.and_self]
theorem vecLe (f : α → AV) (h : rdv v i = some e) : i.toNat + 1 ≤ (v.toList.map f).length := by have := rvLt h; simp; omega
theorem vecAll (f : α → AV) {p : AV → Bool} (h : ∀ x, p (f x) = true) : (v.toList.map f).all p = true := by
  rw [List.all_eq_true]
  intro y hy
  obtain ⟨x, _, rfl⟩ := List.mem_map.1 hy
  exact h x
theorem vecTree (f : α → AV) (h : ∀ x, tree (f x) = true) : treeL (v.toList.map f) = true := by
  induction v.toList with
  | nil => rfl
  | cons x l ih => simp only [List.map_cons, treeL, h x, ih, Bool.and_self]
theorem vecFrz (f : α → AV) (h : ∀ x, frz (f x) = f x) : frzL (v.toList.map f) = v.toList.map f := by
  induction v.toList with
  | nil => rfl
  | cons x l ih => simp only [List.map_cons, frzL, h x, ih]
theorem vecNoRo (f : α → AV) (h : ∀ x, noRo (f x) = true) : noRoL (v.toList.map f) = true := by
  induction v.toList with
  | nil => rfl
  | cons x l ih => simp only [List.map_cons, noRoL, h x, ih, Bool.and_self]
theorem wrAll {x y : List AV} (h : x.length = y.length) : wr x 0 y = y := by
  unfold wr
  rw [List.take_zero, List.nil_append, Nat.zero_add, List.drop_of_length_le (by omega), List.append_nil]
theorem vecSt {u : Vector α k} (f g : α → AV) : [v.toList.map f].set 0 (wr (v.toList.map f) 0 (u.toList.map g)) = [u.toList.map g] := by
  rw [wrAll (by simp)]; rfl
theorem vecLL {u : Vector α k} (f g : α → AV) : 0 + (v.toList.map f).length ≤ (u.toList.map g).length := by simp
theorem setV {o : Vector α k → List AV} (f : α → AV) (ho : ∀ x, o x = x.toList.map f) {l : List (Vector α k)} {n : Nat} {x y : Vector α k} : (l.map o).set n (wr (o x) 0 (o y)) = (l.set n y).map o := by
  rw [wrAll (by rw [ho, ho]; simp), List.map_set]
theorem vecZero {z : α} {u : Value} (f : α → AV) (h : f z = .lit u) : [litL (List.replicate k u)] = [(Vector.replicate k z).toList.map f] := by
  simp [litL, Vector.toList_replicate, h]
theorem vecZeroA {z : α} {u : Value} (f : α → AV) (h : f z = .lit u) : AV.agg (litL (List.replicate k u)) = AV.agg ((Vector.replicate k z).toList.map f) := by
  simp [litL, Vector.toList_replicate, h]
theorem nzA {u : Value} : AV.agg (litL (List.replicate k u)) = AV.agg (List.replicate k (AV.lit u)) := by simp [litL]
theorem nzR {u : Value} : [litL (List.replicate k u)] = [List.replicate k (AV.lit u)] := by simp [litL]
theorem nzS {a b : AV} : [List.replicate k a].set 0 (wr (List.replicate k a) 0 (List.replicate k b)) = [List.replicate k b] := by rw [wrAll (by simp)]; rfl
theorem nzL {a : AV} : (List.replicate k a).length = k := by simp
theorem nzLL {a b : AV} : 0 + (List.replicate k a).length ≤ (List.replicate k b).length := by simp
theorem nzK {a : AV} (h : okLit a = true) : (List.replicate k a).all okLit = true := by
  rw [List.all_eq_true]; intro y hy; rw [List.eq_of_mem_replicate hy]; exact h
theorem nzO {z : α} {a : AV} (f : α → AV) (h : f z = a) : [List.replicate k a] = [(Vector.replicate k z).toList.map f] := by simp [Vector.toList_replicate, h]
theorem rvS {a : AV} (f : α → AV) (h : rdv v i = some e) : ((v.toList.map f).set i.toNat a)[i.toNat]? = some a := by
  rw [List.getElem?_set_self]; simpa using rvLt h
theorem vecWr1 (f : α → AV) (a : AV) (hl : i.toNat < k) : [v.toList.map f].set 0 (wr (v.toList.map f) i.toNat [a]) = [(v.toList.map f).set i.toNat a] := by
  have : wr (v.toList.map f) i.toNat [a] = (v.toList.map f).set i.toNat a := by
    unfold wr
    rw [List.set_eq_take_append_cons_drop, if_pos (by simpa using hl)]
    simp
  rw [this]; rfl
theorem vecPk (f : α → AV) (y : α) {a : AV} : [(v.toList.map f).set i.toNat a].set 0 (((v.toList.map f).set i.toNat a).set i.toNat (f y)) = [(v.setIfInBounds i.toNat y).toList.map f] := by
  show [_] = [_]
  rw [List.set_set, Vector.toList_setIfInBounds, List.map_set]
theorem vecPi (f : α → AV) {a : AV} (h : rdv v i = some e) : [(v.toList.map f).set i.toNat a].set 0 (((v.toList.map f).set i.toNat a).set i.toNat (f e)) = [v.toList.map f] := by
  show [_] = [_]
  have h1 := rvM f h
  rw [List.set_set]
  congr 1
  apply List.ext_getElem?
  intro m
  by_cases e : i.toNat = m
  · subst e; rw [h1, List.getElem?_set_self (by simpa using rvLt h)]
  · rw [List.getElem?_set_ne e]
theorem vecPos (f : α → AV) (h : 0 < k) : 0 < (v.toList.map f).length := by simpa using h
end
/- arrays of structs -/
section
variable {α : Type} {k s : Nat} {v : Vector α k} {i : Int} {x y : α} {o : α → List AV}
theorem fmCut {l : List α} {i : Nat} (hx : l[i]? = some x) : l.flatMap o = (l.take i).flatMap o ++ (o x ++ (l.drop (i + 1)).flatMap o) := by
  have hi := (List.getElem?_eq_some_iff.1 hx).1
  have e : l[i] = x := (List.getElem?_eq_some_iff.1 hx).2
  have : l = l.take i ++ x :: l.drop (i + 1) := by rw [← e, ← List.drop_eq_getElem_cons hi, List.take_append_drop]
  conv => lhs; rw [this]
  rw [List.flatMap_append, List.flatMap_cons]
theorem fmLen (hs : ∀ x, (o x).length = s) : ∀ l : List α, (l.flatMap o).length = l.length * s
  | [] => by simp
  | x :: l => by rw [List.flatMap_cons, List.length_append, hs, fmLen hs l, List.length_cons, Nat.succ_mul]; omega
theorem fmLT {l : List α} {i : Nat} (hs : ∀ x, (o x).length = s) (hi : i < l.length) : ((l.take i).flatMap o).length = i * s := by
  rw [fmLen hs, List.length_take, Nat.min_eq_left (by omega)]
theorem fmM (hs : ∀ x, (o x).length = s) {j : Nat} {c : AV} (h : rdv v i = some x) (hc : (o x)[j]? = some c) : (v.toList.flatMap o)[i.toNat * s + j]? = some c := by
  have hx : v.toList[i.toNat]? = some x := by rw [Vector.getElem?_toList]; exact rvE h
  have hi := (List.getElem?_eq_some_iff.1 hx).1
  have hj := (List.getElem?_eq_some_iff.1 hc).1
  rw [fmCut hx, List.getElem?_append_right (by rw [fmLT hs hi]; omega), fmLT hs hi, List.getElem?_append_left (by omega), show i.toNat * s + j - i.toNat * s = j by omega]
  exact hc
theorem fmLe (hs : ∀ x, (o x).length = s) {j m : Nat} (h : rdv v i = some x) (hj : j + m ≤ s) : i.toNat * s + j + m ≤ (v.toList.flatMap o).length := by
  have hi := rvLt h
  rw [fmLen hs, Vector.length_toList]
  have : (i.toNat + 1) * s ≤ k * s := Nat.mul_le_mul_right s hi
  rw [Nat.succ_mul] at this
  omega
theorem fmAgg (hs : ∀ x, (o x).length = s) {j m : Nat} {C : List AV} (h : rdv v i = some x) (hj : j + m ≤ s) (hc : ((o x).drop j).take m = C) : ((v.toList.flatMap o).drop (i.toNat * s + j)).take m = C := by
  have hx : v.toList[i.toNat]? = some x := by rw [Vector.getElem?_toList]; exact rvE h
  have hi := (List.getElem?_eq_some_iff.1 hx).1
  rw [fmCut hx, List.drop_append, List.drop_of_length_le (by rw [fmLT hs hi]; omega), List.nil_append, fmLT hs hi, show i.toNat * s + j - i.toNat * s = j by omega, List.drop_append, List.take_append_of_le_length (by rw [List.length_drop, hs]; omega)]
  exact hc
theorem fmWr (hs : ∀ x, (o x).length = s) (h : rdv v i = some x) (y : α) : [v.toList.flatMap o].set 0 (wr (v.toList.flatMap o) (i.toNat * s) (o y)) = [(v.setIfInBounds i.toNat y).toList.flatMap o] := by
  have hx : v.toList[i.toNat]? = some x := by rw [Vector.getElem?_toList]; exact rvE h
  have hi := (List.getElem?_eq_some_iff.1 hx).1
  have hy : (v.toList.set i.toNat y)[i.toNat]? = some y := by rw [List.getElem?_set_self hi]
  have : wr (v.toList.flatMap o) (i.toNat * s) (o y) = (v.setIfInBounds i.toNat y).toList.flatMap o := by
    unfold wr
    rw [Vector.toList_setIfInBounds, fmCut hy, fmCut hx, List.take_append_of_le_length (by rw [fmLT hs hi]; omega), List.take_of_length_le (by rw [fmLT hs hi]; omega), hs, List.drop_append, List.drop_of_length_le (by rw [fmLT hs hi]; omega), fmLT hs hi,
      show i.toNat * s + s - i.toNat * s = s by omega, List.nil_append, List.drop_append, List.drop_of_length_le (by rw [hs]; omega), hs, Nat.sub_self, List.nil_append, List.drop_zero, List.take_set_of_le (Nat.le_refl _), List.drop_set_of_lt (by omega), List.append_assoc]
  rw [this]; rfl
theorem fmWr1 (hs : ∀ x, (o x).length = s) {j : Nat} {c : AV} (h : rdv v i = some x) (hj : j < s) (hc : (o x).set j c = o y) {m : Nat} (hm : m = i.toNat * s + j) : [v.toList.flatMap o].set 0 (wr (v.toList.flatMap o) m [c]) = [(v.setIfInBounds i.toNat y).toList.flatMap o] := by
  subst hm
  have hx : v.toList[i.toNat]? = some x := by rw [Vector.getElem?_toList]; exact rvE h
  have hi := (List.getElem?_eq_some_iff.1 hx).1
  have hy : (v.toList.set i.toNat y)[i.toNat]? = some y := by rw [List.getElem?_set_self hi]
  have hl : i.toNat * s + j < (v.toList.flatMap o).length := by have := fmLe hs (j := j) (m := 1) h hj; omega
  have : wr (v.toList.flatMap o) (i.toNat * s + j) [c] = (v.setIfInBounds i.toNat y).toList.flatMap o := by
    have e : wr (v.toList.flatMap o) (i.toNat * s + j) [c] = (v.toList.flatMap o).set (i.toNat * s + j) c := by
      unfold wr
      rw [List.set_eq_take_append_cons_drop, if_pos hl]
      simp
    rw [e, Vector.toList_setIfInBounds, fmCut hy, fmCut hx, List.set_append_right _ _ (by rw [fmLT hs hi]; omega), fmLT hs hi, show i.toNat * s + j - i.toNat * s = j by omega, List.set_append_left _ _ (by rw [hs]; omega), hc, List.take_set_of_le (Nat.le_refl _), List.drop_set_of_lt (by omega)]
  rw [this]; rfl
theorem fmRep {z : α} {u : Value} (h : o z = List.replicate s (.lit u)) : ∀ k, (List.replicate k z).flatMap o = litL (List.replicate (k * s) u)
  | 0 => by simp [litL]
  | k + 1 => by
    rw [List.replicate_succ, List.flatMap_cons, fmRep h k, h, Nat.succ_mul, Nat.add_comm (k * s) s]
    simp [litL]
theorem fmZeroA {z : α} {u : Value} {n : Nat} (h : o z = List.replicate s (.lit u)) (hn : n = k * s) : AV.agg (litL (List.replicate n u)) = AV.agg ((Vector.replicate k z).toList.flatMap o) := by
  rw [Vector.toList_replicate, fmRep h, hn]
theorem fmZero {z : α} {u : Value} {n : Nat} (h : o z = List.replicate s (.lit u)) (hn : n = k * s) : [litL (List.replicate n u)] = [(Vector.replicate k z).toList.flatMap o] := by
  rw [Vector.toList_replicate, fmRep h, hn]
theorem fmSt {u : Vector α k} (hs : ∀ x, (o x).length = s) : [v.toList.flatMap o].set 0 (wr (v.toList.flatMap o) 0 (u.toList.flatMap o)) = [u.toList.flatMap o] := by
  rw [wrAll (by rw [fmLen hs, fmLen hs]; simp)]; rfl
theorem fmLL {u : Vector α k} (hs : ∀ x, (o x).length = s) : 0 + (v.toList.flatMap o).length ≤ (u.toList.flatMap o).length := by rw [fmLen hs, fmLen hs]; simp
theorem fmL {n : Nat} (hs : ∀ x, (o x).length = s) (hn : n = k * s) : (v.toList.flatMap o).length = n := by rw [fmLen hs, Vector.length_toList, hn]
theorem fmAll {p : AV → Bool} (hp : ∀ x, (o x).all p = true) : (v.toList.flatMap o).all p = true := by
  rw [List.all_eq_true]
  intro y hy
  obtain ⟨x, _, h⟩ := List.mem_flatMap.1 hy
  exact List.all_eq_true.1 (hp x) y h
theorem treeApp : ∀ {a b : List AV}, treeL a = true → treeL b = true → treeL (a ++ b) = true
  | [], b, _, h => h
  | c :: a, b, h1, h2 => by
    simp only [treeL, Bool.and_eq_true, List.cons_append] at h1 ⊢
    exact ⟨h1.1, treeApp h1.2 h2⟩
theorem fmTree (ht : ∀ x, treeL (o x) = true) : treeL (v.toList.flatMap o) = true := by
  induction v.toList with
  | nil => rfl
  | cons x l ih => rw [List.flatMap_cons]; exact treeApp (ht x) ih
theorem fmTk {β : Type} {f : β → AV} {n j : Nat} {w : Vector β n} {a : List AV} (h : a.length = j) : ((a ++ w.toList.map f).drop j).take n = w.toList.map f := by
  subst h; rw [List.drop_left, List.take_of_length_le (by simp)]
theorem setArr {β : Type} {f : β → AV} {n : Nat} {w : Vector β n} {a : List AV} {j : Nat} {c : β} {m : Nat} (hm : m = a.length + j) : (a ++ w.toList.map f).set m (f c) = a ++ (w.setIfInBounds j c).toList.map f := by
  subst hm
  rw [List.set_append_right _ _ (by omega), Nat.add_sub_cancel_left, Vector.toList_setIfInBounds, List.map_set]
end
theorem frI {ks : List Bool} {fr : List Nat} {m : Nat} (h : ((List.range ks.length).all fun i => !(ks[i]? == some true) || fr.contains i) = true) : ∀ i, i < m → ks[i]? = some true → i ∈ fr := by
  intro i _ hk
  have hi : i < ks.length := by
    rcases Nat.lt_or_ge i ks.length with h1 | h1
    · exact h1
    · rw [List.getElem?_eq_none_iff.2 h1] at hk; cases hk
  have := List.all_eq_true.1 h i (List.mem_range.2 hi)
  rw [hk] at this
  simpa using this
theorem rtfLV {α : Type} {k : Nat} {v : Vector α k} (f : α → AV) (h : ∀ x, litA (f x) = true) {ids : List Nat} : rtfL (v.toList.map f) ids = (v.toList.map f, [], ids) := litL2_rtf _ _ (by have := vecLit (v := v) f h; simpa only [litA] using this)
/- ------------------------------------------------ structs of plain fields, compared -/
def eqV (ti : Option TI) (u v : Value) : Option Bool :=
  match ti, u, v with
  | some ⟨_, _, .int _, _⟩, .int k a, .int k' b => if k = k' then some (a == b) else none
  | some ⟨_, _, .bool, _⟩, .bool a, .bool b => some (a == b)
  | _, _, _ => none
def eqFs (Θ : Tys) : List Field → Nat → List Value → List Value → Option Bool
  | [], _, [], [] => some true
  | f :: fs, off, u :: us, v :: vs => if f.offset == off && f.name != "_" then match eqV (Θ.lookup f.type) u v, eqFs Θ fs (off + 1) us vs with
    | some x, some y => some (x && y)
    | _, _ => none
    else none
  | _, _, _, _ => none
theorem eqFs_sound {Θ : Tys} {P : Program} (hΘ : TOK P Θ) (w : World) (xs ys : Array Value) : ∀ (fs : List Field) (us vs : List Value) (off : Nat) (r : Bool), eqFs Θ fs off us vs = some r →
    (∀ k v, us[k]? = some v → xs[off + k]? = some v) → (∀ k v, vs[k]? = some v → ys[off + k]? = some v) → (Op.eqFields 9999 xs ys fs).run P w = .ok r w
  | [], [], [], off, r, he, hx, hy => by simp only [eqFs] at he; cases he; simp [Op.eqFields]
  | f :: fs, [], _, off, r, he, hx, hy => by simp [eqFs] at he
  | f :: fs, _ :: _, [], off, r, he, hx, hy => by simp [eqFs] at he
  | [], _ :: _, _, off, r, he, hx, hy => by simp [eqFs] at he
  | [], [], _ :: _, off, r, he, hx, hy => by simp [eqFs] at he
  | f :: fs, u :: us, v :: vs, off, r, he, hx, hy => by
    simp only [eqFs] at he
    split at he
    case isFalse => cases he
    rename_i hf
    simp only [Bool.and_eq_true, beq_iff_eq, bne_iff_ne] at hf
    obtain ⟨h1, h2⟩ := hf
    split at he
    case h_2 => cases he
    rename_i x y hxy hr
    cases he
    have ax : xs[off]? = some u := by simpa using hx 0 u rfl
    have ay : ys[off]? = some v := by simpa using hy 0 v rfl
    have ih := eqFs_sound hΘ w xs ys fs us vs (off + 1) y hr (fun k v hk => by rw [show off + 1 + k = off + (k + 1) by omega]; exact hx (k + 1) v (by simpa using hk)) (fun k v hk => by rw [show off + 1 + k = off + (k + 1) by omega]; exact hy (k + 1) v (by simpa using hk))
    have key : P.plainKey f.type = true ∧ (Op.equalIn 9999 f.type u v).run P w = .ok x w := by
      unfold eqV at hxy
      split at hxy
      · rename_i hti
        have hu := tiOf_und (hΘ.get hti)
        split at hxy
        · rename_i hk; subst hk; cases hxy
          exact ⟨by simp [Program.plainKey, hu], run_equalIn_int w 9998 _ _ _ _ _ hu⟩
        · cases hxy
      · rename_i hti
        have hu := tiOf_und (hΘ.get hti)
        cases hxy
        exact ⟨by simp [Program.plainKey, hu], run_equalIn_bool' w 9998 _ _ _ hu⟩
      · cases hxy
    simp only [Op.eqFields]
    rw [if_pos h2, h1]
    simp only [Sem.run_bind, run_part_plain w key.1 ax, run_part_plain w key.1 ay, Result.andThen_ok, key.2]
    cases x
    · simp
    · simpa using ih
/- ------------------------------------------------ floats and texts, compared; floats are told but for a NaN's bits -/
theorem fNaN_read {n : Nat} (h : fNaN n = true) : ∃ s t, Ieee.double.read n = .nan s t := by
  unfold fNaN at h
  change (Ieee.Format.order Ieee.double n n).isNone = true at h
  unfold Ieee.Format.order at h
  generalize Ieee.double.read n = d at h
  cases d with
  | nan s t => exact ⟨s, t, rfl⟩
  | infinity s => simp [Ieee.Datum.order] at h
  | number s m i => simp [Ieee.Datum.order] at h
theorem fNaN_of {n : Nat} {s : Bool} {t : Nat} (h : Ieee.double.read n = .nan s t) : fNaN n = true := by
  unfold fNaN
  show (Ieee.Format.order Ieee.double n n).isNone = true
  unfold Ieee.Format.order
  rw [h]; rfl
theorem fNaN_big {n : Nat} (h : 9218868437227405312 < n % 9223372036854775808) : fNaN n = true := by
  have e : Ieee.double.read n = .nan (n / Ieee.double.signWeight % 2 == 1) (n % Ieee.double.signWeight - Ieee.double.infRung) := by
    unfold Ieee.Format.read
    have h1 : Ieee.double.signWeight = 9223372036854775808 := by decide +kernel
    have h2 : Ieee.double.binade = 4503599627370496 := by decide +kernel
    have h3 : Ieee.double.infRung = 9218868437227405312 := by decide +kernel
    simp only [h1, h2, h3]
    rw [if_neg (by omega), if_neg (by omega), if_neg (by omega)]
  exact fNaN_of e
theorem fNaN_cut {x y t : Nat} : fNaN ((Question.nanBits .f64 x y).cut t) = true := by
  refine fNaN_big ?_
  show 9218868437227405312 < ((t % 2) * 2 ^ 63 + 0x7ff0000000000000 + 1 + (t / 2) % (2 ^ 52 - 1)) % 9223372036854775808
  have h1 : (t / 2) % (2 ^ 52 - 1) < 4503599627370495 := Nat.mod_lt _ (by decide)
  have h2 : t % 2 = 0 ∨ t % 2 = 1 := by omega
  rcases h2 with h2 | h2 <;> (rw [h2]; omega)
/-- the NaN that is told -/
def qNaN : Nat := 9221120237041090561
theorem fNaN_q : fNaN qNaN = true := by decide +kernel
/-- two words of one number -/
def F1 (m n : Nat) : Prop := m = n ∨ fNaN m = true ∧ fNaN n = true
theorem isV_f {u : Value} {a : Nat} (h : IsV (FK a) u) : ∃ m, u = .float .f64 m ∧ F1 m a := by
  rcases h with ⟨v, h1, h2⟩ | ⟨vs, us, h1, _⟩
  · cases h1; exact h2.flt
  · cases h1
theorem isV_eq {x : AV} {u v : Value} (h : IsV x u) (hx : x = .lit v) (hn : nf v = true := by rfl) : u = v := by
  subst hx
  rcases h with ⟨v', h1, h2⟩ | ⟨vs, us, h1, _⟩
  · cases h1; exact h2.eq hn
  · cases h1
theorem isV_agg {vs : List Value} {u : Value} (h : IsV (.agg (litL vs)) u) (hn : vs.all nf = true) : u = .agg vs.toArray := by
  rcases h with ⟨v', h1, _⟩ | ⟨vs', us, h1, h2, h3⟩
  · cases h1
  · have e : litL vs = litL vs' := by simpa using h1
    have : vs = vs' := List.map_inj_right (f := AV.lit) (fun x y hxy => by cases hxy; rfl) |>.1 e
    subst this
    rw [h2, h3.eq hn]
theorem read_cong {α : Type} {f : Ieee.Datum → Ieee.Datum → Option α} (hl : ∀ s t d, f (.nan s t) d = none) (hr : ∀ s t d, f d (.nan s t) = none) {a b a' b' : Nat} (ha : F1 a a') (hb : F1 b b') :
    f (Ieee.double.read a) (Ieee.double.read b) = f (Ieee.double.read a') (Ieee.double.read b') := by
  rcases ha with rfl | ⟨h1, h2⟩
  · rcases hb with rfl | ⟨h1, h2⟩
    · rfl
    · obtain ⟨s, t, e1⟩ := fNaN_read h1
      obtain ⟨s2, t2, e2⟩ := fNaN_read h2
      rw [e1, e2, hr, hr]
  · obtain ⟨s, t, e1⟩ := fNaN_read h1
    obtain ⟨s2, t2, e2⟩ := fNaN_read h2
    rw [e1, e2, hl, hl]
def fcmp (a b : Nat) : Option Ordering := FloatKind.f64.format.order a b
theorem fcmp_cong {a b a' b' : Nat} (ha : F1 a a') (hb : F1 b b') : FloatKind.f64.format.order a b = fcmp a' b' :=
  read_cong (f := Ieee.Datum.order) (fun s t d => by cases d <;> rfl) (fun s t d => by cases d <;> rfl) ha hb
theorem fCmpS {P : Program} {t a b : Nat} {op : BinOp} {g : Option Ordering → Bool} (h : ∀ (m n : Nat) (w : World) (X Y : Operand), (do eqGuard op t X Y (.float .f64 m) (.float .f64 n); binOp op t (.float .f64 m) (.float .f64 n) : Sem Value).run P w = .ok (.bool (g (FloatKind.f64.format.order m n))) w) : BinS P op t (FK a) (FK b) (B (g (fcmp a b))) := by
  refine ⟨.inl ⟨_, rfl⟩, .inl ⟨_, rfl⟩, _, rfl, fun u v hu hv w X Y => ?_⟩
  obtain ⟨m, rfl, hm⟩ := isV_f hu
  obtain ⟨n, rfl, hn⟩ := isV_f hv
  exact ⟨_, w, h m n w X Y, by rw [fcmp_cong hm hn]; exact VEq.refl _, .inl rfl⟩
theorem fEql {P : Program} {t a b : Nat} : BinS P .eql t (FK a) (FK b) (B (fcmp a b == some .eq)) := fCmpS (g := fun c => c == some .eq) fun m n w X Y => by simp [eqGuard, binOp, Op.floatCmp]
theorem fNeq {P : Program} {t a b : Nat} : BinS P .neq t (FK a) (FK b) (B (fcmp a b != some .eq)) := fCmpS (g := fun c => c != some .eq) fun m n w X Y => by simp [eqGuard, binOp, Op.floatCmp]
theorem fLss {P : Program} {t a b : Nat} : BinS P .lss t (FK a) (FK b) (B (fcmp a b == some .lt)) := fCmpS (g := fun c => c == some .lt) fun m n w X Y => by simp [eqGuard, binOp, Op.floatCmp]
theorem fLeq {P : Program} {t a b : Nat} : BinS P .leq t (FK a) (FK b) (B (fcmp a b == some .lt || fcmp a b == some .eq)) := fCmpS (g := fun c => c == some .lt || c == some .eq) fun m n w X Y => by simp [eqGuard, binOp, Op.floatCmp]
theorem fGtr {P : Program} {t a b : Nat} : BinS P .gtr t (FK a) (FK b) (B (fcmp a b == some .gt)) := fCmpS (g := fun c => c == some .gt) fun m n w X Y => by simp [eqGuard, binOp, Op.floatCmp]
theorem fGeq {P : Program} {t a b : Nat} : BinS P .geq t (FK a) (FK b) (B (fcmp a b == some .gt || fcmp a b == some .eq)) := fCmpS (g := fun c => c == some .gt || c == some .eq) fun m n w X Y => by simp [eqGuard, binOp, Op.floatCmp]
theorem sK_list (l : Str) : (sK l).toList = l := by unfold sK; exact ByteArray.toList_mk l
theorem binS_val {P : Program} {op : BinOp} {t : Nat} {x y v : Value} (h : evBin op x y = some v) : BinS P op t (.lit x) (.lit y) (.lit v) :=
  ⟨.inl ⟨_, rfl⟩, .inl ⟨_, rfl⟩, _, rfl, fun u u' hu hv w X Y => by
    rw [isV_eq hu rfl (evBin_nf h).1, isV_eq hv rfl (evBin_nf h).2]
    exact ⟨_, w, evBin_sound h, VEq.refl _, .inl rfl⟩⟩
theorem sEql {P : Program} {t : Nat} {a b : Str} : BinS P .eql t (SK a) (SK b) (B (a == b)) := binS_val (by simp [evBin, sK_list])
theorem sNeq {P : Program} {t : Nat} {a b : Str} : BinS P .neq t (SK a) (SK b) (B (!(a == b))) := binS_val (by simp [evBin, sK_list])
/-- reckoned with a NaN for 'no answer' -/
def fdv (a b : Nat) : Nat := (FloatKind.f64.format.div a b).getD qNaN
def fad (a b : Nat) : Nat := (FloatKind.f64.format.add a b).getD qNaN
def fsb (a b : Nat) : Nat := (FloatKind.f64.format.sub a b).getD qNaN
def fml (a b : Nat) : Nat := (FloatKind.f64.format.mul a b).getD qNaN
theorem fArS {P : Program} {t a b : Nat} {op : BinOp} {g : Nat → Nat → Option Nat} (hc : ∀ {m n m' n' : Nat}, F1 m m' → F1 n n' → g m n = g m' n')
    (h : ∀ (m n : Nat) (w : World) (X Y : Operand), (do eqGuard op t X Y (.float .f64 m) (.float .f64 n); binOp op t (.float .f64 m) (.float .f64 n) : Sem Value).run P w = (match g m n with | some r => pure (.float .f64 r) | none => (do pure (.float .f64 (← choose (.nanBits .f64 m n)))) : Sem Value).run P w) : BinS P op t (FK a) (FK b) (FK ((g a b).getD qNaN)) := by
  refine ⟨.inl ⟨_, rfl⟩, .inl ⟨_, rfl⟩, _, rfl, fun u v hu hv w X Y => ?_⟩
  obtain ⟨m, rfl, hm⟩ := isV_f hu
  obtain ⟨n, rfl, hn⟩ := isV_f hv
  have e := hc hm hn
  rw [h m n w X Y, e]
  cases hg : g a b with
  | some r => exact ⟨_, w, by simp, VEq.refl _, .inl rfl⟩
  | none =>
    refine ⟨.float .f64 ((Question.nanBits .f64 m n).cut (w.tape w.drawn (.nanBits .f64 m n))), w.drew, ?_, .inr ⟨_, rfl, fNaN_cut, fNaN_q⟩, .inr rfl⟩
    rfl
theorem fQuo {P : Program} {t a b : Nat} : BinS P .quo t (FK a) (FK b) (FK (fdv a b)) := fArS (g := fun m n => FloatKind.f64.format.div m n) (fun hm hn => congrArg (fun d => Option.map Ieee.double.write d) (read_cong (f := fun d e => d.quotient (Ieee.double.fractionBits + 2) e) (fun s t d => by cases d <;> rfl) (fun s t d => by cases d <;> rfl) hm hn)) fun m n w X Y => by simp [eqGuard, binOp, Op.floatArith]; rfl
theorem fAdd {P : Program} {t a b : Nat} : BinS P .add t (FK a) (FK b) (FK (fad a b)) := fArS (g := fun m n => FloatKind.f64.format.add m n) (fun hm hn => congrArg (fun d => Option.map Ieee.double.write d) (read_cong (f := Ieee.Datum.sum) (fun s t d => by cases d <;> rfl) (fun s t d => by cases d <;> rfl) hm hn)) fun m n w X Y => by simp [eqGuard, binOp, Op.floatArith]; rfl
theorem fSub {P : Program} {t a b : Nat} : BinS P .sub t (FK a) (FK b) (FK (fsb a b)) := fArS (g := fun m n => FloatKind.f64.format.sub m n) (fun hm hn => congrArg (fun d => Option.map Ieee.double.write d) (read_cong (f := fun d e => d.sum e.opposite) (fun s t d => by cases d <;> rfl) (fun s t d => by cases d <;> rfl) hm hn)) fun m n w X Y => by simp [eqGuard, binOp, Op.floatArith]; rfl
theorem fMul {P : Program} {t a b : Nat} : BinS P .mul t (FK a) (FK b) (FK (fml a b)) := fArS (g := fun m n => FloatKind.f64.format.mul m n) (fun hm hn => congrArg (fun d => Option.map Ieee.double.write d) (read_cong (f := Ieee.Datum.product) (fun s t d => by cases d <;> rfl) (fun s t d => by cases d <;> rfl) hm hn)) fun m n w X Y => by simp [eqGuard, binOp, Op.floatArith]; rfl
def fOf (n : Int) : Nat := FloatKind.f64.nearest n
theorem cIF {P : Program} {src dst sz bt sz2 bt2 : Nat} {z z2 : List Value} {k : IntKind} {n : Int} (h1 : tiOf P src = some ⟨sz, bt, .int k, z⟩) (h2 : tiOf P dst = some ⟨sz2, bt2, .float .f64, z2⟩) : CnvS P src dst (IK k n) (FK (fOf n)) :=
  ⟨.inl ⟨_, rfl⟩, _, rfl, fun u hu w => ⟨_, w, by rw [isV_eq hu rfl]; simp only [convert, Sem.run_bind, run_underlying (tiOf_und h1), run_underlying (tiOf_und h2), Result.andThen_ok, Conv.intToFloat, Sem.run_pure]; rfl, VEq.refl _, .inl rfl⟩⟩
/-- a float made a whole number, where the language fixes one -/
def fTo (a : Nat) : Option Int := match (Ieee.double.read a).toInt .zero with
  | some n => if IntKind.i64.min ≤ n ∧ n ≤ IntKind.i64.max then some n else none
  | none => none
theorem cFI {P : Program} {src dst sz bt sz2 bt2 : Nat} {z z2 : List Value} {a : Nat} {n : Int} (h1 : tiOf P src = some ⟨sz, bt, .float .f64, z⟩) (h2 : tiOf P dst = some ⟨sz2, bt2, .int .i64, z2⟩) (h : fTo a = some n) : CnvS P src dst (FK a) (IK .i64 n) :=
  ⟨.inl ⟨_, rfl⟩, _, rfl, fun u hu w => by
    obtain ⟨m, rfl, hm⟩ := isV_f hu
    unfold fTo at h
    have e : Ieee.double.read m = Ieee.double.read a := by
      rcases hm with rfl | ⟨_, h2⟩
      · rfl
      · obtain ⟨s, t, e2⟩ := fNaN_read h2
        rw [e2] at h
        simp [Ieee.Datum.toInt, Ieee.Datum.integral] at h
    rw [← e] at h
    split at h
    · rename_i n' hn
      split at h
      · rename_i hb
        cases h
        refine ⟨_, w, ?_, VEq.refl _, .inl rfl⟩
        have hn2 : (FloatKind.f64.decode m).toInt .zero = some n := hn
        simp only [convert, Sem.run_bind, run_underlying (tiOf_und h1), run_underlying (tiOf_und h2), Result.andThen_ok, Conv.floatToInt, hn2, if_pos hb, Sem.run_pure]
      · cases h
    · cases h⟩
theorem xBits {P : Program} {f : FuncId} {fn : Func} {a : Nat} (hf : P.funcs[f]? = some fn) (hname : (fn.name == "runtime.NumGoroutine") = false) (hb : fn.body.isNone = true) (hn : Extern.findNext fn = none) (he : Extern.find fn = some Extern.MathFloatBits.float64bits) (ha : fNaN a = false) : ExtS P f (FK a) (IK .u64 (a : Int)) :=
  ⟨.inl ⟨_, rfl⟩, _, rfl, fun u hu w => by
    obtain ⟨m, rfl, rfl | ⟨_, h2⟩⟩ := isV_f hu
    · exact ⟨_, w, by rw [run_callFunc_extern hf hname hb hn he]; rfl, VEq.refl _, .inl rfl⟩
    · rw [h2] at ha; cases ha⟩
theorem xFrom {P : Program} {f : FuncId} {fn : Func} {a : Int} (hf : P.funcs[f]? = some fn) (hname : (fn.name == "runtime.NumGoroutine") = false) (hb : fn.body.isNone = true) (hn : Extern.findNext fn = none) (he : Extern.find fn = some Extern.MathFloatBits.float64frombits) : ExtS P f (IK .u64 a) (FK a.toNat) :=
  ⟨.inl ⟨_, rfl⟩, _, rfl, fun u hu w => ⟨_, w, by rw [isV_eq hu rfl, run_callFunc_extern hf hname hb hn he]; rfl, VEq.refl _, .inl rfl⟩⟩
theorem struct_run {Θ : Tys} {P : Program} (hΘ : TOK P Θ) {t sz bt : Nat} {fs : Array Field} {z : List Value} (ht : tiOf P t = some ⟨sz, bt, .struct fs, z⟩) (hp : P.stoodInHeld t = false) {us vs : List Value} {r : Bool} (he : eqFs Θ fs.toList 0 us vs = some r) (w : World) :
    (Op.equalIn 10000 t (.agg us.toArray) (.agg vs.toArray)).run P w = .ok r w := by
  have hu := tiOf_und ht
  have hf : P.fieldsOf t = fs := by simp [Program.fieldsOf, hu]
  rw [run_equalIn_agg w 9999 t _ _ (by rw [hf]; exact hu) hp, hf]
  exact eqFs_sound hΘ w _ _ _ us vs 0 r he (fun k v hk => by simpa using hk) (fun k v hk => by simpa using hk)
theorem eqS {Θ : Tys} {P : Program} (hΘ : TOK P Θ) {t sz bt : Nat} {fs : Array Field} {z : List Value} (ht : tiOf P t = some ⟨sz, bt, .struct fs, z⟩) (hp : P.stoodInHeld t = false) (hg : P.eqGuardType P.depth t = false) {us vs : List Value} {r r' : Bool} (he : eqFs Θ fs.toList 0 us vs = some r) (hr : r = r') (hnu : us.all nf = true := by rfl) (hnv : vs.all nf = true := by rfl) :
    BinS P .eql t (.agg (litL us)) (.agg (litL vs)) (B r') := by
  subst hr
  refine ⟨.inr ⟨us, rfl⟩, .inr ⟨vs, rfl⟩, _, rfl, fun u v hu hv w X Y => ⟨_, w, ?_, VEq.refl _, .inl rfl⟩⟩
  rw [isV_agg hu hnu, isV_agg hv hnv, Sem.run_bind, run_eqGuard_agg w .eql t X Y _ _ hg, Result.andThen_ok, run_eql_struct, struct_run hΘ ht hp he]
  rfl
theorem neS {Θ : Tys} {P : Program} (hΘ : TOK P Θ) {t sz bt : Nat} {fs : Array Field} {z : List Value} (ht : tiOf P t = some ⟨sz, bt, .struct fs, z⟩) (hp : P.stoodInHeld t = false) (hg : P.eqGuardType P.depth t = false) {us vs : List Value} {r r' : Bool} (he : eqFs Θ fs.toList 0 us vs = some r) (hr : r = r') (hnu : us.all nf = true := by rfl) (hnv : vs.all nf = true := by rfl) :
    BinS P .neq t (.agg (litL us)) (.agg (litL vs)) (B (!r')) := by
  subst hr
  refine ⟨.inr ⟨us, rfl⟩, .inr ⟨vs, rfl⟩, _, rfl, fun u v hu hv w X Y => ⟨_, w, ?_, VEq.refl _, .inl rfl⟩⟩
  rw [isV_agg hu hnu, isV_agg hv hnv, Sem.run_bind, run_eqGuard_agg w .neq t X Y _ _ hg, Result.andThen_ok, run_neq_struct, struct_run hΘ ht hp he]
  rfl
/-- cut to a whole number -/
def fTr (a : Nat) : Nat := Ieee.double.write ((Ieee.double.read a).integral .zero)
theorem trunc_pure {m : Nat} {nm : String} (hd : (FloatKind.f64.decode m).isNaN = false) : Extern.MathFloor.toIntegral nm .zero #[.float .f64 m] = pure (.float .f64 (fTr m)) := by
  have e : Extern.MathFloor.toIntegral nm .zero #[.float .f64 m] = (match FloatKind.f64.decode m with
    | .nan s t =>
      if FloatKind.f64.format.quiet t = t then pure (.float .f64 m) else do
      let kept ← choose (.extern "math.Floor,Ceil,Trunc,RoundToEven.signallingNaN kept" 2)
      pure (.float .f64 (if kept == 1 then m else FloatKind.f64.encode (.nan s (FloatKind.f64.format.quiet t))))
    | d => pure (.float .f64 (FloatKind.f64.encode (d.integral .zero)))) := rfl
  have e2 : fTr m = FloatKind.f64.encode ((FloatKind.f64.decode m).integral .zero) := rfl
  rw [e, e2]
  cases hq : FloatKind.f64.decode m with
  | nan s t => rw [hq] at hd; cases hd
  | infinity s => rfl
  | number s k i => rfl
theorem xTrunc {P : Program} {f : FuncId} {fn : Func} {a : Nat} (hf : P.funcs[f]? = some fn) (hname : (fn.name == "runtime.NumGoroutine") = false) (hb : fn.body.isNone = true) (hn : Extern.findNext fn = none) (he : Extern.find fn = some (Extern.MathFloor.toIntegral "math.archTrunc" .zero)) (ha : fNaN a = false) : ExtS P f (FK a) (FK (fTr a)) :=
  ⟨.inl ⟨_, rfl⟩, _, rfl, fun u hu w => by
    obtain ⟨m, rfl, rfl | ⟨_, h2⟩⟩ := isV_f hu
    · refine ⟨_, w, ?_, VEq.refl _, .inl rfl⟩
      rw [run_callFunc_extern hf hname hb hn he]
      have hd : (FloatKind.f64.decode m).isNaN = false := by
        cases hq : FloatKind.f64.decode m with
        | nan s t => rw [fNaN_of (n := m) (s := s) (t := t) hq] at ha; cases ha
        | infinity s => rfl
        | number s k i => rfl
      rw [trunc_pure hd]; rfl
    · rw [h2] at ha; cases ha⟩
def nNaN (a : Nat) : Option Unit := if fNaN a then none else some ()
theorem nNaNE {a : Nat} {q : Unit} (h : nNaN a = some q) : fNaN a = false := by unfold nNaN at h; cases h2 : fNaN a <;> simp [h2] at h ⊢
theorem clB {T : Type} (f : T → List AV) {l l' : List T} {lo hi : Int} (h : slc l lo hi = some l') : lo.toNat + subO hi.toNat lo.toNat ≤ (l.map f).length := by
  obtain ⟨h0, h1, h2, _⟩ := slI h
  rw [subO_eq, List.length_map]; omega
theorem clBe {T : Type} (f : T → List AV) {l l' : List T} {lo : Int} (h : slc l lo (l.length : Int) = some l') : lo.toNat + subO (Int.toNat (((l.map f).length : Nat) : Int)) lo.toNat ≤ (l.map f).length := by
  obtain ⟨h0, h1, h2, _⟩ := slI h
  rw [subO_eq, List.length_map]; omega
theorem clrT_len {T : Type} {l : List T} {z : T} {a n : Nat} (h : a + n ≤ l.length) : (clrT l z a n).length = l.length := by
  unfold clrT ovT; simp; omega
theorem lnClr {T : Type} (f : T → List AV) {l l' : List T} {lo hi : Int} {z : T} (h : slc l lo hi = some l') : (l.map f).length = ((clrT l z lo.toNat (subO hi.toNat lo.toNat)).map f).length := by
  have := clB f h
  rw [List.length_map] at this
  rw [List.length_map, List.length_map, clrT_len this]
theorem lnClre {T : Type} (f : T → List AV) {l l' : List T} {lo : Int} {z : T} (h : slc l lo (l.length : Int) = some l') : (l.map f).length = ((clrT l z lo.toNat (subO (Int.toNat (((l.map f).length : Nat) : Int)) lo.toNat)).map f).length := by
  have := clBe f h
  have e : (l.map f).length = l.length := List.length_map _
  have h2 : lo.toNat + subO (Int.toNat (((l.map f).length : Nat) : Int)) lo.toNat ≤ l.length := by omega
  have e3 := clrT_len (z := z) h2
  have e4 : ((clrT l z lo.toNat (subO (Int.toNat (((l.map f).length : Nat) : Int)) lo.toNat)).map f).length = (clrT l z lo.toNat (subO (Int.toNat (((l.map f).length : Nat) : Int)) lo.toNat)).length := List.length_map _
  omega
theorem setHH {α : Type} {l : List α} {i : Nat} {a b c : α} (h : b = c) : (l.set i a).set i b = l.set i c := by rw [h, List.set_set]
end Go.T

/- Plain facts about the words that the printed functions are made of; no condition. -/

set_option linter.unusedVariables false
namespace Go.T
open Go

theorem w64_id {n : Int} (h : -9223372036854775808 ≤ n ∧ n < 9223372036854775808) : w64 n = n := by
  show IntKind.i64.wrap n = n
  rw [IntKind.wrap_i64]; omega
theorem w64_s {k : Nat} (h : k < 4611686018427387904) : w64 ((k : Int) + 1) = ((k + 1 : Nat) : Int) := by rw [w64_id (by omega)]; omega
theorem w64_p {k : Nat} (h : k < 4611686018427387904) : w64 ((k : Int) - 1) = (k : Int) - 1 := by rw [w64_id (by omega)]
section
variable {α β : Type}
theorem rd_at {l : List α} {k : Nat} (h : k < l.length) : rd l (k : Int) = some l[k] := by simp [rd, h]
theorem rd_nat {l : List α} {k : Nat} : rd l (k : Int) = l[k]? := by simp [rd]
theorem rd_eq {l : List α} {i : Int} {x : α} (h0 : 0 ≤ i) (h : l[i.toNat]? = some x) : rd l i = some x := by simp [rd, h0, h]
theorem rdv_at {k : Nat} {v : Vector α k} {i : Nat} (h : i < k) : rdv v (i : Int) = some v[i] := by simp [rdv, h]
theorem rdv_ok {k : Nat} {v : Vector α k} {i : Int} (h0 : 0 ≤ i) (h : i.toNat < k) : rdv v i = some v[i.toNat] := by simp [rdv, h0, h]
theorem app_ok {a b : List α} (h : a.length + b.length < 1099511627776) : app a b = some (a ++ b) := by simp [app, h]
theorem mk_ok {z : α} {n : Nat} (h : n < 1099511627776) : mk z (n : Int) = some (List.replicate n z) := by
  unfold mk; rw [if_pos (by omega)]; rfl
theorem slc_take {l : List α} {k : Nat} (h : k ≤ l.length) : slc l 0 (k : Int) = some (l.take k) := by
  unfold slc; rw [if_pos (by omega)]; simp [List.take_of_length_le]
theorem slc_drop {l : List α} {k : Nat} (h : k ≤ l.length) : slc l (k : Int) (l.length : Int) = some (l.drop k) := by
  unfold slc; rw [if_pos (by omega)]; simp [List.take_of_length_le]
theorem sameLen_ok {a b : List α} (h : b.length = a.length) : sameLen a b = some () := by simp [sameLen, h]
theorem ltD {a b : Nat} : (decide ((a : Int) < (b : Int))) = decide (a < b) := by
  by_cases h : a < b
  · rw [decide_eq_true (by omega), decide_eq_true h]
  · rw [decide_eq_false (by omega), decide_eq_false h]
end
/-- the fuel of a loop that counts a list's places -/
theorem FU_gt {n : Nat} (h : n < 1099511627776) : n < FU := by rw [FU_eq]; omega
theorem FU_gt0 {n : Nat} (h : n < 4611686018427387904) : n < FU := by rw [FU_eq]; omega
/-- a list by its places -/
def tbl {α : Type} (f : Nat → α) (n : Nat) : List α := (List.range n).map f
section
variable {α : Type} {f g : Nat → α} {n : Nat}
theorem tbl_len : (tbl f n).length = n := by simp [tbl]
theorem tbl_rd {k : Nat} (h : k < n) : rd (tbl f n) (k : Int) = some (f k) := by rw [rd_nat]; simp [tbl, h]
theorem tbl_get {k : Nat} (h : k < n) : (tbl f n)[k]? = some (f k) := by simp [tbl, h]
theorem tbl_congr (h : ∀ k, k < n → f k = g k) : tbl f n = tbl g n := List.map_congr_left (fun k hk => h k (List.mem_range.1 hk))
theorem tbl_set {i : Nat} {x : α} : (tbl f n).set i x = tbl (fun j => if j = i then x else f j) n := by
  apply List.ext_getElem?
  intro k
  rw [List.getElem?_set]
  by_cases hk : k < n
  · rw [tbl_get hk, tbl_get hk, tbl_len]
    by_cases h : i = k
    · subst h; simp [hk]
    · have h' : ¬ k = i := fun e => h e.symm
      simp [h, h']
  · have h1 : (tbl f n)[k]? = none := List.getElem?_eq_none (by rw [tbl_len]; omega)
    have h2 : (tbl (fun j => if j = i then x else f j) n)[k]? = none := List.getElem?_eq_none (by rw [tbl_len]; omega)
    rw [h1, h2, tbl_len]
    split <;> simp; omega
theorem tbl_rep {x : α} : List.replicate n x = tbl (fun _ => x) n := by
  apply List.ext_getElem?
  intro k
  by_cases hk : k < n
  · rw [tbl_get hk]; simp [hk]
  · rw [List.getElem?_eq_none (by simp; omega), List.getElem?_eq_none (by rw [tbl_len]; omega)]
/-- one of the numbers from a on, m of them -/
def exi (f : Nat → Bool) (a : Nat) : Nat → Bool
  | 0 => false
  | m + 1 => f a || exi f (a + 1) m
theorem exi_congr {f g : Nat → Bool} : ∀ (m a : Nat), (∀ k, a ≤ k → k < a + m → f k = g k) → exi f a m = exi g a m
  | 0, a, h => rfl
  | m + 1, a, h => by rw [exi, exi, h a (by omega) (by omega), exi_congr m (a + 1) (fun k h1 h2 => h k (by omega) (by omega))]
theorem exi_true {f : Nat → Bool} : ∀ (m a : Nat), exi f a m = true ↔ ∃ k, a ≤ k ∧ k < a + m ∧ f k = true
  | 0, a => by simp [exi]; intro k h1 h2; omega
  | m + 1, a => by
    rw [exi, Bool.or_eq_true, exi_true m (a + 1)]
    constructor
    · rintro (h | ⟨k, h1, h2, h3⟩)
      · exact ⟨a, Nat.le_refl _, by omega, h⟩
      · exact ⟨k, by omega, by omega, h3⟩
    · rintro ⟨k, h1, h2, h3⟩
      by_cases h : k = a
      · subst h; exact .inl h3
      · exact .inr ⟨k, by omega, by omega, h3⟩
end
theorem PS : (∀ {a b : Nat}, decide ((a : Int) < (b : Int)) = decide (a < b)) ∧ (∀ (h : Decidable True), @decide True h = true) ∧ (∀ (h : Decidable False), @decide False h = false)
    ∧ (∀ {β : Type} (h : Decidable True) (x y : β), @ite β True h x y = x) ∧ (∀ {β : Type} (h : Decidable False) (x y : β), @ite β False h x y = y) ∧ ((false = true) = False) ∧ ((true = false) = False)
    ∧ (∀ {α β : Type} (a : α) (f : α → Option β), (some a).bind f = f a) ∧ ((!true) = false) ∧ ((!false) = true) ∧ (∀ n : Nat, ((n : Int)).toNat = n) ∧ (∀ {α : Type} [BEq α] [LawfulBEq α] (a : α), (a == a) = true) ∧ (∀ {α : Type} [BEq α] [LawfulBEq α] (a : α), (a != a) = false) :=
  ⟨ltD, fun h => decide_true h, fun h => decide_false h, fun h x y => if_pos trivial, fun h x y => if_neg id, Bool.false_eq_true, Bool.true_eq_false, fun a f => rfl, rfl, rfl, Int.toNat_natCast, fun a => beq_self_eq_true a, fun a => bne_self_eq_false a⟩
end Go.T

/- Plain facts about the families of the laws: sizes, copies, comparing, marking; no condition. -/

set_option linter.unusedVariables false
namespace Go.T
open Go

section
variable {α : Type}
/-- a list compared with itself, element by element -/
theorem eqL {p : List α} {e : α → α → Option Bool} {F : Nat → Int → Option Bool}
    (hF : ∀ n v, F (n + 1) v = if (decide (v < (p.length : Int))) = true then Option.bind (rd p v) fun x => Option.bind (rd p v) fun y => Option.bind (e x y) fun r => if (!r) = true then some false else F n (w64 (v + 1)) else some true)
    (hp : p.length < 1099511627776) (he : ∀ x ∈ p, e x x = some true) : F FU 0 = some true := by
  have key : ∀ (n k : Nat), k ≤ p.length → p.length < n + k → F n k = some true := by
    intro n
    induction n with
    | zero => intro k h1 h2; omega
    | succ n ih =>
      intro k h1 h2
      rw [hF]
      by_cases hk : k < p.length
      · simp only [PS, hk, rd_at hk, w64_s (k := k) (by omega), ih (k + 1) hk (by omega), he _ (List.getElem_mem hk)]
      · simp [hk]
  exact key FU 0 (by omega) (by have := FU_gt hp; omega)
theorem eqLs [BEq α] [LawfulBEq α] {p : List α} {F : Nat → Int → Option Bool}
    (hF : ∀ n v, F (n + 1) v = if (decide (v < (p.length : Int))) = true then Option.bind (rd p v) fun x => Option.bind (rd p v) fun y => if (x != y) = true then some false else F n (w64 (v + 1)) else some true)
    (hp : p.length < 1099511627776) : F FU 0 = some true :=
  eqL (e := fun x y => some (x == y)) (fun n v => by rw [hF]; rfl) hp (fun x _ => by simp)
theorem eqLs' [BEq α] [LawfulBEq α] {p : List α} {F : Nat → Int → Option Bool}
    (hF : ∀ n v, F (n + 1) v = if (decide (v < (p.length : Int))) = true then Option.bind (rd p v) fun x => Option.bind (rd p v) fun y => if (!(x == y)) = true then some false else F n (w64 (v + 1)) else some true)
    (hp : p.length < 1099511627776) : F FU 0 = some true :=
  eqL (e := fun x y => some (x == y)) (fun n v => by rw [hF]; rfl) hp (fun x _ => by simp)
/-- a list copied, element by element -/
theorem toL {p : List α} {t : α → Option α} {F : Nat → List α → Int → Option (List α)}
    (hF : ∀ n a v, F (n + 1) a v = if (decide (v < (p.length : Int))) = true then Option.bind (rd p v) fun x => Option.bind (t x) fun r => Option.bind (rd a v) fun _ => F n (a.set (Int.toNat v) r) (w64 (v + 1)) else some a)
    (hp : p.length < 1099511627776) (ht : ∀ x ∈ p, t x = some x) (z : α) : (Option.bind (mk z (p.length : Int)) fun l => F FU l 0) = some p := by
  have key : ∀ (n k : Nat) (a : List α), k ≤ p.length → p.length < n + k → a.length = p.length → a.take k = p.take k → F n a k = some p := by
    intro n
    induction n with
    | zero => intro k a h1 h2; omega
    | succ n ih =>
      intro k a h1 h2 h3 h4
      rw [hF]
      by_cases hk : k < p.length
      · have hk' : k < a.length := by omega
        have := ih (k + 1) (a.set k p[k]) hk (by omega) (by simp [h3]) (by
          rw [List.take_add_one, List.take_add_one, List.take_set_of_le (Nat.le_refl k), h4]; simp [hk, hk'])
        simp only [PS, hk, rd_at hk, rd_at hk', ht _ (List.getElem_mem hk), w64_s (k := k) (by omega), this]
      · have : k = p.length := by omega
        subst this
        rw [List.take_length, ← h3, List.take_length] at h4
        simp [h4]
  rw [mk_ok hp, Option.bind_some]
  exact key FU 0 _ (by omega) (by have := FU_gt hp; omega) (by simp) (by simp)
theorem toLs {p : List α} {F : Nat → List α → Int → Option (List α)}
    (hF : ∀ n a v, F (n + 1) a v = if (decide (v < (p.length : Int))) = true then Option.bind (rd p v) fun x => Option.bind (rd a v) fun _ => F n (a.set (Int.toNat v) x) (w64 (v + 1)) else some a)
    (hp : p.length < 1099511627776) (z : α) : (Option.bind (mk z (p.length : Int)) fun l => F FU l 0) = some p :=
  toL (t := some) hF hp (fun _ _ => rfl) z
/-- the rows' numbers, one behind the other -/
inductive Chain (held : α → Int → Int → Prop) : List α → Int → Int → Prop
  | nil (v : Int) : Chain held [] v v
  | cons {y : α} {l : List α} {v v1 v2 : Int} : held y v v1 → 0 ≤ v1 → Chain held l v1 v2 → Chain held (y :: l) v v2
theorem markL {F : Nat → List α → Int → Int → Option (Int × List α)} {H : α → Int → Int → Prop} {ok : α → Prop} {b : Int} (hb : 0 ≤ b) {B : Nat}
    (hE : ∀ n a v k, k = (a.length : Int) → F (n + 1) a v k = some (v, a))
    (hS : ∀ n (a : List α) v k (hk : k < a.length), ok a[k] → 0 ≤ v → v + b < 4611686018427387904 → ∃ v' y, F (n + 1) a v k = F n (a.set k y) v' (w64 ((k : Int) + 1)) ∧ H y v v' ∧ v ≤ v' ∧ v' ≤ v + b)
    (hB : (B : Int) < 1099511627776) : ∀ (a : List α) (v : Int), a.length ≤ B → (∀ x ∈ a, ok x) → 0 ≤ v → v + b * B < 4611686018427387904 → ∃ v' a', F FU a v 0 = some (v', a') ∧ a'.length = a.length ∧ Chain H a' v v' ∧ v ≤ v' ∧ v' ≤ v + b * B := by
  have key : ∀ (n k : Nat) (a : List α) (v : Int), k ≤ a.length → a.length < n + k → a.length < 1099511627776 → (∀ x ∈ a.drop k, ok x) → 0 ≤ v → v + b * ((a.length : Int) - k) < 4611686018427387904 →
      ∃ v' l, F n a v k = some (v', a.take k ++ l) ∧ l.length = a.length - k ∧ Chain H l v v' ∧ v ≤ v' ∧ v' ≤ v + b * ((a.length : Int) - k) := by
    intro n
    induction n with
    | zero => intro k a v h1 h2; omega
    | succ n ih =>
      intro k a v h1 h2 h3 h4 h5 h6
      by_cases hk : k < a.length
      · have hd : a.drop k = a[k] :: a.drop (k + 1) := List.drop_eq_getElem_cons hk
        have e1 : b * ((a.length : Int) - k) = b + b * ((a.length : Int) - ((k + 1 : Nat) : Int)) := by
          rw [show (a.length : Int) - k = 1 + ((a.length : Int) - ((k + 1 : Nat) : Int)) by omega, Int.mul_add, Int.mul_one]
        have e2 : 0 ≤ b * ((a.length : Int) - ((k + 1 : Nat) : Int)) := Int.mul_nonneg hb (by omega)
        obtain ⟨v1, y, f1, f2, f3, f4⟩ := hS n a v k hk (h4 _ (by rw [hd]; exact List.mem_cons_self)) h5 (by omega)
        obtain ⟨v2, l, g1, g2, g3, g4, g5⟩ := ih (k + 1) (a.set k y) v1 (by rw [List.length_set]; omega) (by rw [List.length_set]; omega) (by rw [List.length_set]; exact h3) (fun x hx => h4 x (by
          rw [List.drop_set_of_lt (by omega)] at hx
          rw [hd]; exact List.mem_cons_of_mem _ hx)) (by omega) (by rw [List.length_set]; omega)
        rw [List.length_set] at g2 g5
        refine ⟨v2, y :: l, ?_, by simp; omega, .cons f2 (by omega) g3, by omega, by omega⟩
        rw [f1, w64_s (k := k) (by omega), g1, List.take_add_one, List.take_set_of_le (Nat.le_refl k)]
        simp [hk]
      · have : k = a.length := by omega
        subst this
        refine ⟨v, [], ?_, by simp, .nil v, by omega, by simp⟩
        rw [hE _ _ _ _ rfl]; simp
  intro a v ha hok h0 hv
  have e1 : b * (a.length : Int) ≤ b * B := Int.mul_le_mul_of_nonneg_left (by omega) hb
  obtain ⟨v', l, f1, f2, f3, f4, f5⟩ := key FU 0 a v (by omega) (by have := FU_gt (n := a.length) (by omega); omega) (by omega) (by simpa using hok) h0 (by simpa using (show v + b * (a.length : Int) < _ by omega))
  refine ⟨v', l, by simpa using f1, by simpa using f2, f3, f4, ?_⟩
  have : v' ≤ v + b * (a.length : Int) := by simpa using f5
  omega
theorem heldL {H : α → Int → Int → Prop} {p : List α} {F : Nat → Int → Int → Option Int}
    (hE : ∀ n v k, k = (p.length : Int) → F (n + 1) v k = some v)
    (hS : ∀ n v v' k (hk : k < p.length), H p[k] v v' → 0 ≤ v' → F (n + 1) v k = F n v' (w64 ((k : Int) + 1)))
    (hp : p.length < 1099511627776) {v v' : Int} (hc : Chain H p v v') : F FU v 0 = some v' := by
  have key : ∀ (n k : Nat) (l : List α) (v v' : Int), k ≤ p.length → p.length < n + k → p.drop k = l → Chain H l v v' → F n v k = some v' := by
    intro n
    induction n with
    | zero => intro k l v v' h1 h2; omega
    | succ n ih =>
      intro k l v v' h1 h2 h3 h4
      cases h4 with
      | nil => 
        have : k = p.length := by
          have := congrArg List.length h3
          simp at this; omega
        exact hE n v k (by omega)
      | @cons y l _ v1 _ e1 e2 e3 =>
        have hk : k < p.length := by
          have := congrArg List.length h3
          simp at this; omega
        rw [List.drop_eq_getElem_cons hk] at h3
        injection h3 with h3 h3'
        subst h3
        rw [hS n v v1 k hk e1 e2, w64_s (k := k) (by omega)]
        exact ih (k + 1) l v1 v' hk (by omega) h3' e3
  exact key FU 0 p v v' (by omega) (by have := FU_gt hp; omega) (by simp) hc
/-- numbered by a function -/
def Num (num : Int → α) (nxt : Int → Int) (y : α) (v v' : Int) : Prop := y = num v ∧ 0 ≤ v ∧ v' = nxt v ∧ v' < 4611686018427387904
/-- marks of a list of rows: each row by a law of its own -/
theorem markLL {F : Nat → List (List α) → Int → Int → Option (Int × List (List α))} {M : List α → Int → Option (Int × List α)} {H : List α → Int → Int → Prop} {ok : List α → Prop} {b : Int}
    (hF : ∀ n a v k, F (n + 1) a v k = if (decide (k < (a.length : Int))) = true then Option.bind (rd a k) fun x => Option.bind (M x v) fun r => Option.bind (sameLen x r.2) fun _ => F n (a.set (Int.toNat k) r.2) r.1 (w64 (k + 1)) else some (v, a))
    (hM : ∀ x v, ok x → 0 ≤ v → v + b < 4611686018427387904 → ∃ v' y, M x v = some (v', y) ∧ y.length = x.length ∧ H y v v' ∧ v ≤ v' ∧ v' ≤ v + b) :
    (∀ n a v k, k = (a.length : Int) → F (n + 1) a v k = some (v, a)) ∧
    (∀ n (a : List (List α)) v k (hk : k < a.length), ok a[k] → 0 ≤ v → v + b < 4611686018427387904 → ∃ v' y, F (n + 1) a v k = F n (a.set k y) v' (w64 ((k : Int) + 1)) ∧ H y v v' ∧ v ≤ v' ∧ v' ≤ v + b) := by
  refine ⟨fun n a v k hk => ?_, fun n a v k hk h1 h2 h3 => ?_⟩
  · rw [hF, hk]; simp
  · obtain ⟨v', y, e1, e2, e3, e4, e5⟩ := hM a[k] v h1 h2 h3
    refine ⟨v', y, ?_, e3, e4, e5⟩
    rw [hF]
    simp only [PS, hk, rd_at hk, e1, sameLen_ok e2]
theorem heldLL {H : α → Int → Option Int} {p : List α} {F : Nat → Int → Int → Option Int}
    (hF : ∀ n v k, F (n + 1) v k = if (decide (k < (p.length : Int))) = true then Option.bind (rd p k) fun x => Option.bind (H x v) fun r => if (decide (r < 0)) = true then some (-1) else F n r (w64 (k + 1)) else some v) :
    (∀ n v k, k = (p.length : Int) → F (n + 1) v k = some v) ∧ (∀ n v v' k (hk : k < p.length), (fun y v v' => H y v = some v') p[k] v v' → 0 ≤ v' → F (n + 1) v k = F n v' (w64 ((k : Int) + 1))) := by
  refine ⟨fun n v k hk => ?_, fun n v v' k hk h1 h2 => ?_⟩
  all_goals try (replace h1 : H p[k] v = some v' := h1)
  · rw [hF, hk]; simp
  · rw [hF]
    have : decide (v' < 0) = false := by simp; omega
    simp only [PS, hk, rd_at hk, h1, this]
/-- the size of a list of rows -/
theorem szL {p : List α} {s : α → Int → Option Int} {small : α → Prop} {F : Nat → Int → Int → Option Int}
    (hF : ∀ n l v, F (n + 1) l v = if (decide (v < (p.length : Int))) = true then Option.bind (rd p v) fun x => Option.bind (s x l) fun r => if (decide (r < 0)) = true then some (-1) else F n r (w64 (v + 1)) else some l)
    (hp : p.length < 1099511627776) (hs : ∀ x ∈ p, ∀ l : Int, 0 ≤ l → l ≤ 1048576 → ∃ r : Int, s x l = some r ∧ r ≤ l ∧ (0 ≤ r → small x)) {l : Int} (h0 : 0 ≤ l) (h1 : l ≤ 1048576) : ∃ r : Int, F FU l 0 = some r ∧ r ≤ l ∧ (0 ≤ r → ∀ x ∈ p, small x) := by
  have key : ∀ (n k : Nat) (l : Int), k ≤ p.length → p.length < n + k → 0 ≤ l → l ≤ 1048576 → ∃ r : Int, F n l k = some r ∧ r ≤ l ∧ (0 ≤ r → ∀ x ∈ p.drop k, small x) := by
    intro n
    induction n with
    | zero => intro k l h1 h2; omega
    | succ n ih =>
      intro k l h1 h2 h3 h4
      rw [hF]
      by_cases hk : k < p.length
      · obtain ⟨r, e1, e2, e3⟩ := hs p[k] (List.getElem_mem hk) l h3 h4
        simp only [PS, hk, rd_at hk, e1, w64_s (k := k) (by omega)]
        by_cases hr : r < 0
        · exact ⟨-1, by simp [hr], by omega, fun h => by omega⟩
        · obtain ⟨r', f1, f2, f3⟩ := ih (k + 1) r hk (by omega) (by omega) (by omega)
          refine ⟨r', by rw [if_neg (by simp [hr])]; exact f1, by omega, fun h x hx => ?_⟩
          rw [List.drop_eq_getElem_cons hk] at hx
          rcases List.mem_cons.1 hx with h' | h'
          · rw [h']; exact e3 (by omega)
          · exact f3 h x h'
      · have : k = p.length := by omega
        subst this
        exact ⟨l, by simp, by omega, fun _ x hx => by simp at hx⟩
  obtain ⟨r, e1, e2, e3⟩ := key FU 0 l (by omega) (by have := FU_gt hp; omega) h0 h1
  exact ⟨r, e1, e2, by simpa using e3⟩
/-- a search for an element that some test tells -/
theorem findL {p : List α} {t : α → Option Bool} {q : α → Bool} {F : Nat → Int → Option Int}
    (hF : ∀ n v, F (n + 1) v = if (decide (v < (p.length : Int))) = true then Option.bind (rd p v) fun x => Option.bind (t x) fun r => if r = true then some v else F n (w64 (v + 1)) else some (-1))
    (hp : p.length < 1099511627776) (ht : ∀ x ∈ p, t x = some (q x)) : ∃ r : Int, F FU 0 = some r ∧ decide (r ≥ 0) = p.any q := by
  have key : ∀ (n k : Nat), k ≤ p.length → p.length < n + k → ∃ r : Int, F n k = some r ∧ decide (r ≥ 0) = (p.drop k).any q := by
    intro n
    induction n with
    | zero => intro k h1 h2; omega
    | succ n ih =>
      intro k h1 h2
      rw [hF]
      by_cases hk : k < p.length
      · rw [List.drop_eq_getElem_cons hk, List.any_cons]
        obtain ⟨r, e1, e2⟩ := ih (k + 1) hk (by omega)
        simp only [PS, hk, rd_at hk, ht _ (List.getElem_mem hk), w64_s (k := k) (by omega), e1]
        cases q p[k]
        · exact ⟨r, by simp, by simpa using e2⟩
        · exact ⟨k, by simp, by simp⟩
      · have : k = p.length := by omega
        subst this
        exact ⟨-1, by simp, by simp⟩
  simpa using key FU 0 (by omega) (by have := FU_gt hp; omega)
end
/- floats -/
theorem fcmp_self (x : Nat) : fcmp x x = none ∨ fcmp x x = some .eq := by
  unfold fcmp Ieee.Format.order
  generalize FloatKind.f64.format.read x = d
  cases d with
  | nan => left; rfl
  | infinity s => right; cases s <;> rfl
  | number s m e =>
    right
    simp only [Ieee.Datum.order]
    have : ∀ z : Int, compare z z = .eq := fun z => by simp [Std.ReflCmp.compare_self]
    rw [this]
theorem fcmp_fOf (n : Int) : fcmp (fOf n) (fOf n) = some .eq := by
  rcases fcmp_self (fOf n) with h | h
  · exfalso
    revert h
    unfold fcmp Ieee.Format.order fOf FloatKind.nearest FloatKind.encode Ieee.Format.write
    simp only
    unfold Ieee.Format.nearest
    have key : ∀ (s : Bool) (r : Nat), r ≤ FloatKind.f64.format.infRung → ∀ (o : Option Ordering), (FloatKind.f64.format.read (FloatKind.f64.format.word s r)).order (FloatKind.f64.format.read (FloatKind.f64.format.word s r)) = o → o ≠ none := by
      intro s r hr o ho e
      subst e
      have h1 : FloatKind.f64.format.infRung = 9218868437227405312 := by decide
      have h2 : FloatKind.f64.format.signWeight = 9223372036854775808 := by decide
      rw [h1] at hr
      unfold Ieee.Format.read Ieee.Format.word at ho
      rw [h1, h2] at ho
      have e1 : (if s = true then 9223372036854775808 + r else r) % 9223372036854775808 = r := by split <;> omega
      simp only [e1] at ho
      split at ho
      · simp [Ieee.Datum.order] at ho
      · split at ho
        · simp [Ieee.Datum.order] at ho
        · rw [if_pos (by omega)] at ho
          simp [Ieee.Datum.order] at ho
    split
    · exact fun h => key _ _ (Nat.zero_le _) _ rfl h
    · exact fun h => key _ _ (Nat.min_le_right _ _) _ rfl h
  · exact h
end Go.T
