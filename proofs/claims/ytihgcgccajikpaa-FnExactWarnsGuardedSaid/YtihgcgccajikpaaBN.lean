/- Lemmas for FnExactWarnsGuarded; no condition. -/

import Derived.Test.YtihgcgccajikpaaBM
import Derived.Laws.Cover3
import Derived.KernelRfl
import Derived.Laws.StructEq
import Derived.Laws.Externs
import Derived.ChangeKeysEq
import Derived.Shelf.SlSortCmp.NoneTotal
import Derived.Lib.SlKept
import Derived.Shelf.SlSortFuncK.RowK2

set_option linter.unusedVariables false
namespace Go.T
open Go Go.RowKit Go.Proofs

/- ------------------------------------------------ a row that is held against nil -/
theorem nil_run {P : Program} {w : World} {t el : Nat} {A : Option Addr} {len cap : Nat} {X Y : Operand} (ht : P.underlying t = some (.slice el)) :
    (do eqGuard .eql t X Y (.slice A len cap) (.slice none 0 0); binOp .eql t (.slice A len cap) (.slice none 0 0) : Sem Value).run P w = .ok (.bool A.isNone) w := by
  have h1 : (eqGuard .eql t X Y (.slice A len cap) (.slice none 0 0) : Sem Unit).run P w = .ok () w := by simp [eqGuard]
  have h2 := run_equal_slice_nil w t el A len cap ht
  simp only [binOp]
  simp [h1, h2]
/-- a statement whose last operation holds a row that is read against nil -/
def exOpsNil (Θ : Tys) (P : Program) (n : Nat) (ops : Array Oper) : List Oper → Nat → St → List Hn → Option (Nat × St × Nat × List (List AV) × List Hn × List Prop)
  | [], _, _, _ => none
  | [o], k, s, hs => match o.guard, o.dst, o.op with
    | none, some d, .binOp .eql t x y _ => if d < n then match Θ.lookup t, opnd s x, opnd s y with
      | some ⟨_, _, .slice _, _⟩, .ro _ xs, .lit (.slice none 0 0) => some (k + 1, s, d, xs, hs, [])
      | _, _, _ => none
      else none
    | _, _, _ => none
  | o :: rest, k, s, hs => match o.guard with
    | none => match ex1 Θ P n s o (pop k hs).1 with
      | some (s2, qs) => match exOpsNil Θ P n ops rest (k + 1) s2 (pop k hs).2 with
        | some (k', s3, d, xs, hs3, rs) => some (k', s3, d, xs, hs3, qs ++ rs)
        | none => none
      | none => none
    | some _ => none
theorem exOpsNil_sound {E : Env} {Θ : Tys} (hΘ : TOK E.P Θ) {ops : Array Oper} {K : St → Prop} : ∀ {l : List Oper} {k k' d : Nat} {s s' : St} {xs : List (List AV)} {hs hs' : List Hn} {ps : List Prop}, exOpsNil Θ E.P E.n ops l k s hs = some (k', s', d, xs, hs', ps) → AllP ps → (∀ c : Bool, (c = true → xs = []) → K (s'.put d (.lit (.bool c)))) → RW E ops l s K
  | [], k, k', d, s, s', xs, hs, hs', ps, h, hp, hk => by simp [exOpsNil] at h
  | [o], k, k', d, s, s', xs, hs, hs', ps, h, hp, hk => by
    simp only [exOpsNil] at h
    split at h
    case h_2 => cases h
    rename_i d0 t x y sg hg hdst hop
    split at h
    case isFalse => cases h
    rename_i hd
    split at h
    case h_2 => cases h
    rename_i ti hti hx hy
    cases h
    intro a w Q hrel hq
    refine wpList_plain hg (fun K' hK' => ?_)
    obtain ⟨χ, hdd, h0⟩ := hrel
    have rx := opnd_rep h0 x
    have ry := opnd_rep h0 y
    rw [hx] at rx
    rw [hy] at ry
    have ry := lit_inv ry
    simp only [repR, rep] at rx
    obtain ⟨_, A, cap, hu, hc, hxs⟩ := rx
    refine upon_val (w' := w) (v := .bool A.isNone) ?_ (hK' _ _ (wpList_nil (hq (s.put d (.lit (.bool A.isNone))) _ _ (hk A.isNone fun hn => ?_) ?_)))
    · obtain ⟨dst, op', type, pos, after, guard⟩ := o
      simp only at hop
      subst hop
      simp only [execOp, hu, ry]
      rw [Sem.run_bind, nil_run (tiOf_und (hΘ.get hti))]
      rfl
    · rcases hxs with h | ⟨b, o, vs, h, _⟩
      · exact h
      · subst h; cases hn
    · rw [hdst]
      exact ⟨χ, hdd, h0.put hd (repR_lit _)⟩
  | o :: o2 :: rest, k, k', d, s, s', xs, hs, hs', ps, h, hp, hk => by
    simp only [exOpsNil] at h
    split at h
    case h_2 => cases h
    rename_i hg
    split at h
    case h_2 => cases h
    rename_i s2 qs he
    split at h
    case h_2 => cases h
    rename_i hr
    cases h
    obtain ⟨h1, h2⟩ := allP_app hp
    exact rw_op hg (ex1_sound hΘ he h1) (exOpsNil_sound hΘ hr h2 hk)
def runNil (Θ : Tys) (P : Program) (n : Nat) (body : Code) (pt p : List Bool) (s : St) (hs : List Hn) : Option (Option (List Bool) × St × Nat × List (List AV) × List Prop) :=
  match exec Θ P n body (some p) 10000 true (some pt) 0 s hs with
  | some (k, s1, hs1, ps) => match cAt body p with
    | some (.region _ ops false) => match ghs k hs1 s1 with
      | some (s2, hs2, qs) => match exOpsNil Θ P n ops ops.toList k s2 hs2 with
        | some (_, s3, d, xs, [], rs) => some (nxt body p, s3, d, xs, ps ++ (qs ++ rs))
        | _ => none
      | none => none
    | _ => none
  | none => none
theorem go_nil {E : Env} {Θ : Tys} (hΘ : TOK E.P Θ) (hm : E.P.follows .mixedOrders = true) {body : Code} {R : St → Prop} {P : Program} (hP : E.P = P) {n : Nat} (hn : E.n = n) {pt p q : List Bool} {s s' : St} {hs : List Hn} {d : Nat} {xs : List (List AV)} {ps : List Prop}
    (h : runNil Θ P n body pt p s hs = some (some q, s', d, xs, ps)) (hp : AllP ps) (hk : ∀ c : Bool, (c = true → xs = []) → WAt E body (FQ R) q (s'.put d (.lit (.bool c)))) : WAt E body (FQ R) pt s := by
  subst hP; subst hn
  unfold runNil at h
  split at h
  case h_2 => cases h
  rename_i k s1 hs1 qs he
  split at h
  case h_2 => cases h
  rename_i id ops hc
  split at h
  case h_2 => cases h
  rename_i s2 hs2 rs hg
  split at h
  case h_2 => cases h
  rename_i k3 s3 d3 xs3 us ho
  rw [Option.some.injEq, Prod.mk.injEq, Prod.mk.injEq, Prod.mk.injEq, Prod.mk.injEq] at h
  obtain ⟨hq, rfl, rfl, rfl, rfl⟩ := h
  obtain ⟨h1, h2⟩ := allP_app hp
  obtain ⟨h3, h4⟩ := allP_app h2
  refine exec_sound hΘ hm he h1 ?_
  show WAt E body (FQ R) p s1
  refine wAt_of hc (by simp) (twp_ent (ghs_sound hg h3) (twp_rwl (exOpsNil_sound hΘ ho h4 fun c hcc => nxt_sound ?_)))
  rw [hq]
  exact hk c hcc
end Go.T

set_option linter.unusedVariables false
namespace Go.T
open Go Go.RowKit Go.Proofs

abbrev I (n : Int) : AV := .lit (.int .i64 n)
abbrev IK (k : IntKind) (n : Int) : AV := .lit (.int k n)
abbrev B (b : Bool) : AV := .lit (.bool b)
abbrev w64 (n : Int) : Int := IntKind.i64.wrap n
/-- how many rounds a loop may have -/
theorem FU_ex : ∃ n : Nat, n = 4611686018427387904 := ⟨_, rfl⟩
noncomputable def FU : Nat := FU_ex.choose
theorem FU_eq : FU = 4611686018427387904 := FU_ex.choose_spec

theorem bnS {α β : Type} {o : Option α} {f : α → Option β} {r : β} (h : o.bind f = some r) : ∃ x, o = some x ∧ f x = some r := by
  cases o with
  | none => simp at h
  | some x => exact ⟨x, rfl, h⟩
theorem itS {β : Type} {b : Bool} {x y : Option β} {r : β} (h : (if b = true then x else y) = some r) : (b = true ∧ x = some r) ∨ (b = false ∧ y = some r) := by
  cases b
  · right; exact ⟨rfl, by simpa using h⟩
  · left; exact ⟨rfl, by simpa using h⟩

open Classical in
noncomputable def both {α : Type} (x y : Option α) : Option α := if x = y then x else none
theorem both_self {α : Type} (x : Option α) : both x x = x := if_pos rfl
theorem bothE {α : Type} {x y : Option α} {r : α} (h : both x y = some r) : x = some r ∧ y = some r := by
  unfold both at h
  split at h
  · rename_i e; subst e; exact ⟨h, h⟩
  · cases h
/-- a row is held against nil: where it is empty, both ways come to one -/
noncomputable def nilS {α β : Type} (xs : List α) (X Y : Option β) : Option β := if xs.isEmpty = true then both X Y else Y
theorem nilSE {α β : Type} {xs : List α} {X Y : Option β} {r : β} (h : nilS xs X Y = some r) : (xs = [] → X = some r) ∧ Y = some r := by
  unfold nilS at h
  split at h
  · obtain ⟨h1, h2⟩ := bothE h; exact ⟨fun _ => h1, h2⟩
  · rename_i hn; exact ⟨fun e => by subst e; exact absurd rfl hn, h⟩
abbrev Str := List UInt8
def sK (l : Str) : ByteArray := ⟨l.toArray⟩
abbrev SK (l : Str) : AV := .lit (.string (sK l))
abbrev FK (n : Nat) : AV := .lit (.float .f64 n)
def nz (b : Int) : Option Unit := if b = 0 then none else some ()
theorem nzE {b : Int} {u : Unit} (h : nz b = some u) : b ≠ 0 := by unfold nz at h; split at h; cases h; assumption
def ge0 (b : Int) : Option Unit := if b < 0 then none else some ()
theorem ge0E {b : Int} {u : Unit} (h : ge0 b = some u) : ¬ b < 0 := by unfold ge0 at h; split at h; cases h; assumption
def ixor (k : IntKind) (a b : Int) : Int := k.wrap (BitVec.ofInt k.bits a ^^^ BitVec.ofInt k.bits b).toNat
def iandn (k : IntKind) (a b : Int) : Int := k.wrap (BitVec.ofInt k.bits a &&& ~~~BitVec.ofInt k.bits b).toNat
def iand (k : IntKind) (a b : Int) : Int := k.wrap (BitVec.ofInt k.bits a &&& BitVec.ofInt k.bits b).toNat
def ior (k : IntKind) (a b : Int) : Int := k.wrap (BitVec.ofInt k.bits a ||| BitVec.ofInt k.bits b).toNat
def imax (a b : Int) : Int := if b > a then b else a
def imin (a b : Int) : Int := if b < a then b else a

/- reading -/
def rd {α : Type} (l : List α) (i : Int) : Option α := if 0 ≤ i then l[i.toNat]? else none
section
variable {α β : Type} {l : List α} {i : Int} {e : α}
theorem rd0 (h : rd l i = some e) : 0 ≤ i := by unfold rd at h; split at h; assumption; cases h
theorem rdE (h : rd l i = some e) : l[i.toNat]? = some e := by unfold rd at h; split at h; exact h; cases h
theorem rdM (f : α → β) (h : rd l i = some e) : (l.map f)[i.toNat]? = some (f e) := by rw [List.getElem?_map, rdE h]; rfl
theorem rdL (f : α → β) (h : rd l i = some e) : i < ((l.map f).length : Int) := by
  have h1 := rd0 h
  have h2 := (List.getElem?_eq_some_iff.1 (rdE h)).1
  rw [List.length_map]
  omega
theorem setM (f : α → β) {y : α} : (l.map f).set i.toNat (f y) = (l.set i.toNat y).map f := List.map_set.symm
theorem setMr (f : α → β) {y : α} {ys : β} (h : ys = f y) : (l.map f).set i.toNat ys = (l.set i.toNat y).map f := by rw [h]; exact List.map_set.symm
/-- reading a cut of a row: its start, its length, the place in it -/
def rdc (l : List α) (o n : Nat) (i : Int) : Option α := if 0 ≤ i ∧ i < (n : Int) then l[addO o i.toNat]? else none
theorem rdc0 {o n : Nat} (h : rdc l o n i = some e) : 0 ≤ i := by unfold rdc at h; split at h; rename_i h1; exact h1.1; cases h
theorem rdcL {o n : Nat} (h : rdc l o n i = some e) : i < (n : Int) := by unfold rdc at h; split at h; rename_i h1; exact h1.2; cases h
theorem rdcR {o n : Nat} (h : rdc l o n i = some e) : rd l ((addO o i.toNat : Nat) : Int) = some e := by
  unfold rdc at h; split at h
  · rw [rd, if_pos (Int.natCast_nonneg _), Int.toNat_natCast]; exact h
  · cases h
theorem rdcR0 {n : Nat} (h : rdc l 0 n i = some e) : rd l i = some e := by
  have h0 := rdc0 h
  unfold rdc at h; split at h
  · unfold rd; rw [if_pos h0]; simpa [addO] using h
  · cases h
theorem lnSet (f : α → β) {n : Nat} {y : α} : (l.map f).length = ((l.set n y).map f).length := by simp
theorem lnSet2 (f : α → β) {n m : Nat} {x y : α} : ((l.set n x).map f).length = ((l.set m y).map f).length := by simp
/- two rows of one root, open at once -/
theorem setN {xs : List β} {n m : Nat} {x y : β} (hne : n ≠ m) (h : xs[m]? = some x) : (xs.set n y)[m]? = some x := by rw [List.getElem?_set_ne hne]; exact h
theorem rdL1 (f : α → β) {n : Nat} {y : β} (h : rd l i = some e) : i < ((((l.map f).set n y).length : Nat) : Int) := by rw [List.length_set]; exact rdL f h
theorem rdL2 (f : α → β) {n m : Nat} {y z : β} (h : rd l i = some e) : i < (((((l.map f).set n y).set m z).length : Nat) : Int) := by rw [List.length_set, List.length_set]; exact rdL f h
theorem setP2 (f : α → β) {x1 x2 : β} {y : α} {n m : Nat} (hne : n ≠ m) : ((((l.map f).set n x1).set m x2).set m (f y)) = ((l.set m y).map f).set n x1 := by
  rw [List.set_set, List.set_comm _ _ hne, List.map_set]
theorem setP1 (f : α → β) {x1 x2 : β} {y : α} {n m : Nat} (hne : n ≠ m) : ((((l.map f).set n x1).set m x2).set n (f y)) = ((l.set n y).map f).set m x2 := by
  rw [List.set_comm _ _ (Ne.symm hne), List.set_set, List.map_set]
theorem set_id {n : Nat} {y : β} {l : List β} (h : l[n]? = some y) : l.set n y = l := by
  apply List.ext_getElem?
  intro k
  rw [List.getElem?_set]
  split
  · rename_i e; subst e
    split
    · exact h.symm
    · rename_i h2; rw [List.getElem?_eq_none (by omega)] at h; cases h
  · rfl
theorem setPi (f : α → β) {x : β} {y : α} (h : rd l i = some y) : ((l.map f).set i.toNat x).set i.toNat (f y) = l.map f := by
  rw [List.set_set, ← List.map_set, set_id (rdE h)]
theorem setP2i (f : α → β) {x1 x2 : β} {y : α} {n : Nat} (hne : n ≠ i.toNat) (h : rd l i = some y) : ((((l.map f).set n x1).set i.toNat x2).set i.toNat (f y)) = (l.map f).set n x1 := by
  rw [setP2 f hne, set_id (rdE h)]
theorem setP1i (f : α → β) {x1 x2 : β} {y : α} {m : Nat} (hne : i.toNat ≠ m) (h : rd l i = some y) : ((((l.map f).set i.toNat x1).set m x2).set i.toNat (f y)) = (l.map f).set m x2 := by
  rw [setP1 f hne, set_id (rdE h)]
/- a row whose first elements are gone -/
def gone (o : α → List AV) (l : List α) (n : Nat) : List (List AV) := List.replicate n [AV.dead] ++ (l.drop n).map o
theorem gn0 (o : α → List AV) : l.map o = gone o l (Int.toNat 0) := by simp [gone]
theorem gnR (o : α → List AV) (h : rd l i = some e) : (gone o l i.toNat)[i.toNat]? = some (o e) := by
  unfold gone
  rw [List.getElem?_append_right (by simp)]
  simp [List.getElem?_drop, rdE h]
theorem gnLen (o : α → List AV) (n : Nat) (h : n ≤ l.length) : (gone o l n).length = l.length := by
  unfold gone; simp; omega
theorem gnL (o : α → List AV) (h : rd l i = some e) : i < (((gone o l i.toNat).length : Nat) : Int) := by
  have h1 := rd0 h
  have h2 := (List.getElem?_eq_some_iff.1 (rdE h)).1
  rw [gnLen o _ (by omega)]
  omega
def nx1 (i : Int) : Option Unit := if w64 (i + 1) = i + 1 then some () else none
theorem nx1E {q : Unit} (h : nx1 i = some q) : w64 (i + 1) = i + 1 := by unfold nx1 at h; split at h; assumption; cases h
theorem gnS (o : α → List AV) {x : List AV} {q : Unit} (h : rd l i = some e) (hn : nx1 i = some q) : ((gone o l i.toNat).set i.toNat x).set i.toNat [AV.dead] = gone o l (w64 (i + 1)).toNat := by
  have h1 := rd0 h
  have h2 := (List.getElem?_eq_some_iff.1 (rdE h)).1
  rw [List.set_set, nx1E hn, show (i + 1).toNat = i.toNat + 1 by omega]
  unfold gone
  rw [List.set_append_right _ _ (by simp), List.drop_eq_getElem_cons h2, List.replicate_succ', List.length_replicate, Nat.sub_self, List.map_cons, List.set_cons_zero, List.append_assoc]
  rfl
theorem gnN (o : α → List AV) {x : List AV} {q : Unit} (h : rd l i = some e) (hn : nx1 i = some q) : (gone o l i.toNat).length = (gone o l (w64 (i + 1)).toNat).length := by
  rw [← gnS o (x := x) h hn]; simp
theorem gnN0 (o : α → List AV) : (l.map o).length = (gone o l (Int.toNat 0)).length := by rw [← gn0 o]
theorem gnT {o : α → List AV} (ht : ∀ x, treeL (o x) = true) {n : Nat} : treeLL (gone o l n) = true := by
  unfold gone treeLL
  rw [List.all_append, Bool.and_eq_true]
  constructor
  · rw [List.all_eq_true]; intro y hy; rw [List.eq_of_mem_replicate hy]; rfl
  · rw [List.all_eq_true]; intro y hy
    obtain ⟨x, _, rfl⟩ := List.mem_map.1 hy
    exact ht x
def neI (i j : Int) : Option Unit := if i = j then none else some ()
theorem neN {a b : Int} {u : Unit} (h : neI a b = some u) (ha : 0 ≤ a) (hb : 0 ≤ b) : a.toNat ≠ b.toNat := by
  unfold neI at h
  split at h
  · cases h
  · omega
theorem rdSN {j : Int} {x : α} {y : α} (hne : i.toNat ≠ j.toNat) (h : rd l j = some x) : rd (l.set i.toNat y) j = some x := by
  unfold rd at h ⊢
  split at h
  · rename_i h0; rw [if_pos h0, List.getElem?_set_ne hne]; exact h
  · cases h
theorem rok {π : List (Nat × Nat)} {xs : List (List AV)} (h : treeLL xs = true) : RenOK π xs := .inl h
theorem renSet {π : List (Nat × Nat)} {xs : List (List AV)} {n : Nat} {x : List AV} (h : RenOK π xs) (hx : renL π x = x) : RenOK π (xs.set n x) := .inr (by
  have h1 := h.eq
  unfold renLL at h1 ⊢
  rw [List.map_set, h1, hx])
theorem setSS (f : α → β) {x y : α} {ys : β} (h : ys = f y) : ((l.set i.toNat x).map f).set i.toNat ys = (l.set i.toNat y).map f := by rw [h, ← List.map_set, List.set_set]
theorem rdS {x y : α} (h : rd l i = some x) : rd (l.set i.toNat y) i = some y := by
  unfold rd at h ⊢
  split at h
  · rename_i h0
    rw [if_pos h0, List.getElem?_set_self (List.getElem?_eq_some_iff.1 h).1]
  · cases h
theorem pkS {j a b : Nat} (h : a = b) : some (AV.sl j 0 a) = some (AV.sl j 0 b) := by rw [h]
theorem setE {y : β} {xs : List β} {n : Nat} {x : β} (h : xs[n]? = some x) : (xs.set n y)[n]? = some y := by
  have := (List.getElem?_eq_some_iff.1 h).1
  rw [List.getElem?_set_self this]
theorem lenM (f : α → β) : AV.lit (.int .i64 ((l.map f).length : Nat)) = AV.lit (.int .i64 (l.length : Nat)) := by rw [List.length_map]
/- appending -/
def app (l1 l2 : List α) : Option (List α) := if l1.length + l2.length < 1099511627776 then some (l1 ++ l2) else none
variable {l1 l2 : List α}
theorem appE (h : app l1 l2 = some l) : l1 ++ l2 = l := by unfold app at h; split at h; cases h; rfl; cases h
theorem appLt (h : app l1 l2 = some l) : l.length < 1099511627776 := by
  unfold app at h; split at h
  · cases h; rw [List.length_append]; assumption
  · cases h
theorem appT (f : α → β) (h : app l1 l2 = some l) : (l1.map f).take (l1.map f).length ++ l2.map f = l.map f := by
  rw [List.take_length, ← appE h, List.map_append]
theorem appN (f : α → β) (h : app [] l2 = some l) : [] ++ l2.map f = l.map f := by
  rw [← appE h, List.map_append]; rfl
theorem appB (f : α → β) (h : app l1 l2 = some l) {b : Nat} (hb : b ≤ 128) : (l.map f).length * b ≤ 140737488355328 := by
  have := appLt h
  rw [List.length_map]
  calc l.length * b ≤ 1099511627776 * 128 := Nat.mul_le_mul (by omega) hb
    _ = 140737488355328 := rfl
theorem appC (f : α → β) (h : app l1 l2 = some l) : (l.map f).length ≤ 140737488355328 := by
  have := appLt h
  rw [List.length_map]; omega
theorem plM {f : α → List AV} (h : ∀ x, (f x).all AV.plain = true) : (l.map f).all (fun r => r.all AV.plain) = true := by
  rw [List.all_eq_true]
  intro y hy
  obtain ⟨x, _, rfl⟩ := List.mem_map.1 hy
  exact h x
theorem appTD (f : α → β) (h : app l1 l2 = some l) : (l1.map f).take (List.length (l1.map f)) ++ (((l2.map f).drop 0).take (List.length (l2.map f))) = l.map f := by
  rw [List.drop_zero, List.take_length, List.take_length, ← appE h, List.map_append]
theorem appND (f : α → β) (h : app [] l2 = some l) : [] ++ (((l2.map f).drop 0).take (List.length (l2.map f))) = l.map f := by
  rw [List.drop_zero, List.take_length, ← appE h, List.map_append]; rfl
theorem plD {f : α → List AV} (h : ∀ x, (f x).all AV.plain = true) {a n : Nat} : (((l.map f).drop a).take n).all (fun r => r.all AV.plain) = true := by
  rw [← List.map_drop, ← List.map_take]; exact plM h
/- an own row that comes to the end of another one -/
theorem apT (f : α → β) {x : β} : (l.map f).take (l.map f).length ++ [x] = l.map f ++ [x] := by rw [List.take_length]
theorem apB (f : α → β) {x : β} {y : α} {l' : List α} (h : app l [y] = some l') {b : Nat} (hb : b ≤ 128) : (l.map f ++ [x]).length * b ≤ 140737488355328 := by
  have := appB f h hb
  rw [← appE h, List.length_map, List.length_append] at this
  rw [List.length_append, List.length_map]; exact this
theorem apC (f : α → β) {x : β} {y : α} {l' : List α} (h : app l [y] = some l') : (l.map f ++ [x]).length ≤ 140737488355328 := by
  have := appC f h
  rw [← appE h, List.length_map, List.length_append] at this
  rw [List.length_append, List.length_map]; exact this
theorem apG (f : α → β) {x : β} : (l.map f ++ [x])[l.length]? = some x := by
  rw [List.getElem?_append_right (by simp)]; simp
theorem apS (f : α → β) {x : β} {y : α} {l' : List α} (h : app l [y] = some l') : (l.map f ++ [x]).set l.length (f y) = l'.map f := by
  rw [← appE h, List.set_append_right _ _ (by simp)]
  simp
theorem apLn (f : α → β) {x : β} {y : α} {l' : List α} (h : app l [y] = some l') : List.length (l.map f ++ [x]) = List.length (l'.map f) := by
  rw [← appE h]; simp
/- handed on for reading, one level more -/
theorem rsW {τ : List (Nat × Root)} {xs zs : List (List AV)} (h : rsLL τ xs = some zs) : rsLL τ ((xs.drop 0).take xs.length) = some zs := by simpa using h
theorem rsWn {τ : List (Nat × Root)} {xs zs : List (List AV)} {n : Nat} (hn : n = xs.length) (h : rsLL τ xs = some zs) : rsLL τ ((xs.drop 0).take n) = some zs := by subst hn; simpa using h
theorem rsHole {τ : List (Nat × Root)} {T : Type} {o r : T → List AV} (ht : ∀ x, treeL (o x) = true) (hz : ∀ x, frzL (o x) = r x) {X : List T} {e : Nat} {c : List AV} {y : T} (hc : rsL τ c = some (r y)) : rsLL τ ((X.map o).set e c) = some ((X.set e y).map r) := by
  rw [List.map_set]
  exact rsLL_set hc (rsLL_map ht hz X)
theorem rs1_sl {τ : List (Nat × Root)} {j n : Nat} {R : Root} {zs : List (List AV)} (h : τ.lookup j = some R) (hw : Frz ((R.xs.drop 0).take n) zs) : rs1 τ (.sl j 0 n) = some (.ro R.sz zs) := by
  unfold rs1
  rw [if_neg (by simp [tree])]
  simp only [h]
  rw [if_pos hw.1, hw.2]
theorem rsL_c {τ : List (Nat × Root)} {c d : AV} {cs ds : List AV} (h1 : rs1 τ c = some d) (h2 : rsL τ cs = some ds) : rsL τ (c :: cs) = some (d :: ds) := by simp only [rsL, h1, h2]
/- making -/
def mk (z : α) (n : Int) : Option (List α) := if 0 ≤ n ∧ n < 1099511627776 then some (List.replicate n.toNat z) else none
variable {n : Int} {z : α}
theorem mkI (h : mk z n = some l) : 0 ≤ n ∧ n < 1099511627776 ∧ List.replicate n.toNat z = l := by
  unfold mk at h; split at h
  · cases h; rename_i hh; exact ⟨hh.1, hh.2, rfl⟩
  · cases h
theorem mkM (f : α → β) (h : mk z n = some l) : List.replicate n.toNat (f z) = l.map f := by rw [← (mkI h).2.2, List.map_replicate]
theorem mk0 (h : mk z n = some l) : 0 ≤ n := (mkI h).1
theorem mkB (h : mk z n = some l) {b : Nat} (hb : b ≤ 128) : n * (b : Int) ≤ 140737488355328 := by
  obtain ⟨h1, h2, _⟩ := mkI h
  calc n * (b : Int) ≤ 1099511627776 * 128 := Int.mul_le_mul (by omega) (by omega) (by omega) (by omega)
    _ = 140737488355328 := rfl
theorem mkC (h : mk z n = some l) : n ≤ 140737488355328 := by have := (mkI h).2.1; omega
theorem mkS (f : α → β) (h : mk z n = some l) {id : Nat} : AV.sl id 0 n.toNat = AV.sl id 0 (List.length (l.map f)) := by
  rw [← (mkI h).2.2, List.length_map, List.length_replicate]
theorem apM (f : α → β) {x y : β} : (l.map f ++ [x]).set l.length y = l.map f ++ [y] := by
  rw [List.set_append_right _ _ (by simp)]; simp
theorem setPe (f : α → β) {x z : β} {y : α} {e : Nat} (h : z = f y) : ((l.map f).set e x).set e z = (l.set e y).map f := by rw [h, List.set_set, List.map_set]
theorem setP (f : α → β) {x : β} {y : α} {e : Nat} : ((l.map f).set e x).set e (f y) = (l.set e y).map f := by rw [List.set_set, List.map_set]
def sameLen (l l' : List α) : Option Unit := if l'.length = l.length then some () else none
theorem sameLenE (f : α → β) {l2 : List α} {u : Unit} (h : sameLen l l2 = some u) : (l2.map f).length = (l.map f).length := by
  unfold sameLen at h; split at h
  · rw [List.length_map, List.length_map]; assumption
  · cases h
/- cuts -/
def slc (l : List α) (lo hi : Int) : Option (List α) := if 0 ≤ lo ∧ lo ≤ hi ∧ hi ≤ (l.length : Int) then some ((l.drop lo.toNat).take (hi.toNat - lo.toNat)) else none
variable {lo hi : Int} {l' : List α}
theorem slI (h : slc l lo hi = some l') : 0 ≤ lo ∧ lo ≤ hi ∧ hi ≤ (l.length : Int) ∧ (l.drop lo.toNat).take (hi.toNat - lo.toNat) = l' := by
  unfold slc at h; split at h
  · cases h; rename_i hh; exact ⟨hh.1, hh.2.1, hh.2.2, rfl⟩
  · cases h
theorem slM (sz : Nat) (f : α → List AV) (h : slc l lo hi = some l') : AV.ro sz (((l.map f).drop lo.toNat).take (subO hi.toNat lo.toNat)) = AV.ro sz (l'.map f) := by
  rw [← (slI h).2.2.2, subO_eq, List.map_take, List.map_drop]
theorem slM0 (sz : Nat) (f : α → List AV) (h : slc l 0 hi = some l') : AV.ro sz (((l.map f).drop (0 : Int).toNat).take (subO hi.toNat (0 : Int).toNat)) = AV.ro sz (l'.map f) := slM sz f h
theorem slMe (sz : Nat) (f : α → List AV) (h : slc l lo (l.length : Int) = some l') : AV.ro sz (((l.map f).drop lo.toNat).take (subO ((((l.map f).length : Nat) : Int)).toNat lo.toNat)) = AV.ro sz (l'.map f) := by
  rw [List.length_map]; exact slM sz f h
theorem shT (f : α → β) (h : slc l 0 hi = some l') : (l.map f).take hi.toNat = l'.map f := by
  obtain ⟨_, _, _, h4⟩ := slI h
  rw [← h4]; simp
theorem sl0 (h : slc l lo hi = some l') : 0 ≤ lo := (slI h).1
theorem sl1 (h : slc l lo hi = some l') : lo ≤ hi := (slI h).2.1
theorem sl2 (f : α → β) (h : slc l lo hi = some l') : hi ≤ ((l.map f).length : Int) := by rw [List.length_map]; exact (slI h).2.2.1
theorem sl1e (f : α → β) (h : slc l lo (l.length : Int) = some l') : lo ≤ ((l.map f).length : Int) := by rw [List.length_map]; exact (slI h).2.1
theorem winE (h : slc l lo hi = some l') : (l.drop lo.toNat).take (subO hi.toNat lo.toNat) = l' := by rw [subO_eq]; exact (slI h).2.2.2
theorem winM (f : α → β) (h : slc l lo hi = some l') : ((l.map f).drop lo.toNat).take (subO hi.toNat lo.toNat) = l'.map f := by
  rw [← List.map_drop, ← List.map_take, winE h]
theorem winM0 (f : α → β) (h : slc l 0 hi = some l') : ((l.map f).drop 0).take hi.toNat = l'.map f := by
  have := winM f h
  rw [subO_eq] at this
  simpa using this
theorem winMe (f : α → β) (h : slc l lo (l.length : Int) = some l') : ((l.map f).drop lo.toNat).take (subO ((((l.map f).length : Nat) : Int)).toNat lo.toNat) = l'.map f := by
  have := winM f h
  rw [List.length_map]; exact this
theorem winMe0 (f : α → β) (h : slc l 0 (l.length : Int) = some l') : ((l.map f).drop 0).take ((((l.map f).length : Nat) : Int)).toNat = l'.map f := by
  have := winM0 f h
  rw [List.length_map]; exact this
theorem winL (h : slc l lo hi = some l') : subO hi.toNat lo.toNat = l'.length := by
  obtain ⟨h1, h2, h3, h4⟩ := slI h
  rw [← h4, List.length_take, List.length_drop, subO_eq]; omega
theorem lenS (f : α → β) (h : slc l lo hi = some l') : AV.lit (.int .i64 ((subO hi.toNat lo.toNat : Nat) : Int)) = AV.lit (.int .i64 (l'.length : Int)) := by rw [winL h]
theorem lenS0 (f : α → β) (h : slc l 0 hi = some l') : AV.lit (.int .i64 ((hi.toNat : Nat) : Int)) = AV.lit (.int .i64 (l'.length : Int)) := by rw [← winL h, subO_eq]; simp
theorem lenSe (f : α → β) (h : slc l lo (l.length : Int) = some l') : AV.lit (.int .i64 ((subO ((((l.map f).length : Nat) : Int)).toNat lo.toNat : Nat) : Int)) = AV.lit (.int .i64 (l'.length : Int)) := by rw [List.length_map, winL h]
theorem lenSe0 (f : α → β) (h : slc l 0 (l.length : Int) = some l') : AV.lit (.int .i64 (((((l.map f).length : Nat) : Int).toNat : Nat) : Int)) = AV.lit (.int .i64 (l'.length : Int)) := by rw [← winL h, subO_eq, List.length_map]; simp
theorem appTDS (f : α → β) {l0 : List α} (h : app l0 l' = some l2) (hs : slc l lo hi = some l') : (l0.map f).take (List.length (l0.map f)) ++ (((l.map f).drop lo.toNat).take (subO hi.toNat lo.toNat)) = l2.map f := by
  rw [winM f hs, List.take_length, ← appE h, List.map_append]
theorem appTDS0 (f : α → β) {l0 : List α} (h : app l0 l' = some l2) (hs : slc l 0 hi = some l') : (l0.map f).take (List.length (l0.map f)) ++ (((l.map f).drop 0).take hi.toNat) = l2.map f := by
  rw [winM0 f hs, List.take_length, ← appE h, List.map_append]
theorem appTDSe (f : α → β) {l0 : List α} (h : app l0 l' = some l2) (hs : slc l lo (l.length : Int) = some l') : (l0.map f).take (List.length (l0.map f)) ++ (((l.map f).drop lo.toNat).take (subO ((((l.map f).length : Nat) : Int)).toNat lo.toNat)) = l2.map f := by
  rw [winMe f hs, List.take_length, ← appE h, List.map_append]
theorem appTDSe0 (f : α → β) {l0 : List α} (h : app l0 l' = some l2) (hs : slc l 0 (l.length : Int) = some l') : (l0.map f).take (List.length (l0.map f)) ++ (((l.map f).drop 0).take ((((l.map f).length : Nat) : Int)).toNat) = l2.map f := by
  rw [winMe0 f hs, List.take_length, ← appE h, List.map_append]
end
/- what is handed on, and back -/
section
variable {α : Type} {l : List α}
theorem frzF {o z : α → List AV} (ht : ∀ x, treeL (o x) = true) (hz : ∀ x, frzL (o x) = z x) : Frz (((l.map o).drop 0).take (l.map o).length) (l.map z) := by
  rw [List.drop_zero, List.take_length]
  refine ⟨?_, ?_⟩
  · rw [treeLL, List.all_eq_true]
    intro y hy
    obtain ⟨x, _, rfl⟩ := List.mem_map.1 hy
    exact ht x
  · rw [frzLL_map, List.map_map]
    refine List.map_congr_left fun x _ => ?_
    rw [← hz x, frzL_map]; rfl
theorem frzFL {o z : α → List AV} {n : Nat} (h : n = (l.map o).length) (ht : ∀ x, treeL (o x) = true) (hz : ∀ x, frzL (o x) = z x) : Frz (((l.map o).drop 0).take n) (l.map z) := by rw [h]; exact frzF ht hz
theorem frzW {o z : α → List AV} {a n : Nat} (ht : ∀ x, treeL (o x) = true) (hz : ∀ x, frzL (o x) = z x) : Frz (((l.map o).drop a).take n) (((l.drop a).take n).map z) := by
  have := frzF (l := (l.drop a).take n) ht hz
  rw [List.drop_zero, List.take_length, List.map_take, List.map_drop] at this
  exact this
theorem frzLLm {o z : α → List AV} (hz : ∀ x, frzL (o x) = z x) : frzLL (l.map o) = l.map z := by
  rw [frzLL_map, List.map_map]
  refine List.map_congr_left fun x _ => ?_
  rw [← hz x, frzL_map]; rfl
theorem treeM {o : α → List AV} (ht : ∀ x, treeL (o x) = true) : treeLL (l.map o) = true := by
  rw [treeLL, List.all_eq_true]
  intro y hy
  obtain ⟨x, _, rfl⟩ := List.mem_map.1 hy
  exact ht x
theorem treeT {o : α → List AV} (ht : ∀ x, treeL (o x) = true) : treeLL ((l.map o).take (l.map o).length) = true := by rw [List.take_length]; exact treeM ht
theorem takeM {o : α → List AV} : (l.map o).take (l.map o).length = l.map o := List.take_length
theorem treeB {o : α → List AV} (ht : ∀ x, treeL (o x) = true) (x : α) : treeLL [o x] = true := by
  simp only [treeLL, List.all_cons, List.all_nil, ht x, Bool.and_true]
theorem frzS {o z : α → List AV} {lo hi : Int} {l' : List α} (ht : ∀ x, treeL (o x) = true) (hz : ∀ x, frzL (o x) = z x) (h : slc l lo hi = some l') : Frz (((l.map o).drop lo.toNat).take (subO hi.toNat lo.toNat)) (l'.map z) := by
  have := frzF (l := l') ht hz
  rw [List.drop_zero, List.take_length] at this
  rw [winM o h]; exact this
theorem frzS0 {o z : α → List AV} {hi : Int} {l' : List α} (ht : ∀ x, treeL (o x) = true) (hz : ∀ x, frzL (o x) = z x) (h : slc l 0 hi = some l') : Frz (((l.map o).drop 0).take hi.toNat) (l'.map z) := by
  have := frzF (l := l') ht hz
  rw [List.drop_zero, List.take_length] at this
  rw [winM0 o h]; exact this
theorem frzSe {o z : α → List AV} {lo : Int} {l' : List α} (ht : ∀ x, treeL (o x) = true) (hz : ∀ x, frzL (o x) = z x) (h : slc l lo (l.length : Int) = some l') : Frz (((l.map o).drop lo.toNat).take (subO ((((l.map o).length : Nat) : Int)).toNat lo.toNat)) (l'.map z) := by
  have := frzF (l := l') ht hz
  rw [List.drop_zero, List.take_length] at this
  rw [winMe o h]; exact this
theorem frzSe0 {o z : α → List AV} {l' : List α} (ht : ∀ x, treeL (o x) = true) (hz : ∀ x, frzL (o x) = z x) (h : slc l 0 (l.length : Int) = some l') : Frz (((l.map o).drop 0).take ((((l.map o).length : Nat) : Int)).toNat) (l'.map z) := by
  have := frzF (l := l') ht hz
  rw [List.drop_zero, List.take_length] at this
  rw [winMe0 o h]; exact this
theorem treeW0 {o : α → List AV} {hi : Int} {l' : List α} (ht : ∀ x, treeL (o x) = true) (h : slc l 0 hi = some l') : treeLL ((l.map o).take hi.toNat) = true := by
  have := winM0 o h
  rw [List.drop_zero] at this
  rw [this]; exact treeM ht
theorem winT0 (o : α → List AV) {hi : Int} {l' : List α} (h : slc l 0 hi = some l') : (l.map o).take hi.toNat = l'.map o := by
  have := winM0 o h
  rwa [List.drop_zero] at this
theorem noRoM {o : α → List AV} (hn : ∀ x, noRoL (o x) = true) : noRoLL (l.map o) = true := by
  induction l with
  | nil => rfl
  | cons x l ih => simp only [List.map_cons, noRoLL, hn x, ih, Bool.and_self]
end
/- arrays -/
def rdv {α : Type} {k : Nat} (v : Vector α k) (i : Int) : Option α := if 0 ≤ i then v[i.toNat]? else none
section
variable {α : Type} {k : Nat} {v : Vector α k} {i : Int} {e : α}
theorem rv0 (h : rdv v i = some e) : 0 ≤ i := by unfold rdv at h; split at h; assumption; cases h
theorem rvE (h : rdv v i = some e) : v[i.toNat]? = some e := by unfold rdv at h; split at h; exact h; cases h
theorem rvL (h : rdv v i = some e) : i < ((k : Nat) : Int) := by
  have h1 := rv0 h
  have h2 := rvE h
  have : i.toNat < k := by
    rcases Nat.lt_or_ge i.toNat k with h3 | h3
    · exact h3
    · rw [Vector.getElem?_eq_none h3] at h2; cases h2
  omega
theorem rvM {β : Type} (f : α → β) (h : rdv v i = some e) : (v.toList.map f)[i.toNat]? = some (f e) := by
  rw [List.getElem?_map, Vector.getElem?_toList, rvE h]; rfl
theorem vecLen {β : Type} (f : α → β) : (v.toList.map f).length = k := by simp
theorem vecAgg {β : Type} (f : α → β) : ((v.toList.map f).drop 0).take k = v.toList.map f := by
  rw [List.drop_zero, List.take_of_length_le (by simp)]
theorem vecWr (f : α → AV) (y : α) (hl : i.toNat < k) : [v.toList.map f].set 0 (wr (v.toList.map f) i.toNat [f y]) = [(v.setIfInBounds i.toNat y).toList.map f] := by
  have : wr (v.toList.map f) i.toNat [f y] = (v.setIfInBounds i.toNat y).toList.map f := by
    unfold wr
    rw [Vector.toList_setIfInBounds, List.map_set, List.set_eq_take_append_cons_drop, if_pos (by simpa using hl)]
    simp
  rw [this]; rfl
theorem rvLt (h : rdv v i = some e) : i.toNat < k := by have := rvL h; have := rv0 h; omega
theorem vecLe0 {β : Type} (f : α → β) : 0 + k ≤ (v.toList.map f).length := by simp
theorem vecLit (f : α → AV) (h : ∀ x, litA (f x) = true) : litA (.agg (v.toList.map f)) = true := by
  simp only [litA]
  induction v.toList with
  | nil => rfl
  | cons x l ih => simp only [List.map_cons, litL2, h x, ih, Bool.and_self]
theorem vecLe (f : α → AV) (h : rdv v i = some e) : i.toNat + 1 ≤ (v.toList.map f).length := by have := rvLt h; simp; omega
theorem vecAll (f : α → AV) {p : AV → Bool} (h : ∀ x, p (f x) = true) : (v.toList.map f).all p = true := by
  rw [List.all_eq_true]
  intro y hy
  obtain ⟨x, _, rfl⟩ := List.mem_map.1 hy
  exact h x
theorem vecTree (f : α → AV) (h : ∀ x, tree (f x) = true) : treeL (v.toList.map f) = true := by
  induction v.toList with
  | nil => rfl
  | cons x l ih => simp only [List.map_cons, treeL, h x, ih, Bool.and_self]
theorem vecFrz (f : α → AV) (h : ∀ x, frz (f x) = f x) : frzL (v.toList.map f) = v.toList.map f := by
  induction v.toList with
  | nil => rfl
  | cons x l ih => simp only [List.map_cons, frzL, h x, ih]
theorem vecNoRo (f : α → AV) (h : ∀ x, noRo (f x) = true) : noRoL (v.toList.map f) = true := by
  induction v.toList with
  | nil => rfl
  | cons x l ih => simp only [List.map_cons, noRoL, h x, ih, Bool.and_self]
theorem wrAll {x y : List AV} (h : x.length = y.length) : wr x 0 y = y := by
  unfold wr
  rw [List.take_zero, List.nil_append, Nat.zero_add, List.drop_of_length_le (by omega), List.append_nil]
theorem vecSt {u : Vector α k} (f g : α → AV) : [v.toList.map f].set 0 (wr (v.toList.map f) 0 (u.toList.map g)) = [u.toList.map g] := by
  rw [wrAll (by simp)]; rfl
theorem vecLL {u : Vector α k} (f g : α → AV) : 0 + (v.toList.map f).length ≤ (u.toList.map g).length := by simp
theorem setV {o : Vector α k → List AV} (f : α → AV) (ho : ∀ x, o x = x.toList.map f) {l : List (Vector α k)} {n : Nat} {x y : Vector α k} : (l.map o).set n (wr (o x) 0 (o y)) = (l.set n y).map o := by
  rw [wrAll (by rw [ho, ho]; simp), List.map_set]
theorem vecZero {z : α} {u : Value} (f : α → AV) (h : f z = .lit u) : [litL (List.replicate k u)] = [(Vector.replicate k z).toList.map f] := by
  simp [litL, Vector.toList_replicate, h]
theorem vecZeroA {z : α} {u : Value} (f : α → AV) (h : f z = .lit u) : AV.agg (litL (List.replicate k u)) = AV.agg ((Vector.replicate k z).toList.map f) := by
  simp [litL, Vector.toList_replicate, h]
theorem nzA {u : Value} : AV.agg (litL (List.replicate k u)) = AV.agg (List.replicate k (AV.lit u)) := by simp [litL]
theorem nzR {u : Value} : [litL (List.replicate k u)] = [List.replicate k (AV.lit u)] := by simp [litL]
theorem nzS {a b : AV} : [List.replicate k a].set 0 (wr (List.replicate k a) 0 (List.replicate k b)) = [List.replicate k b] := by rw [wrAll (by simp)]; rfl
theorem nzL {a : AV} : (List.replicate k a).length = k := by simp
theorem nzLL {a b : AV} : 0 + (List.replicate k a).length ≤ (List.replicate k b).length := by simp
theorem nzK {a : AV} (h : okLit a = true) : (List.replicate k a).all okLit = true := by
  rw [List.all_eq_true]; intro y hy; rw [List.eq_of_mem_replicate hy]; exact h
theorem nzO {z : α} {a : AV} (f : α → AV) (h : f z = a) : [List.replicate k a] = [(Vector.replicate k z).toList.map f] := by simp [Vector.toList_replicate, h]
theorem rvS {a : AV} (f : α → AV) (h : rdv v i = some e) : ((v.toList.map f).set i.toNat a)[i.toNat]? = some a := by
  rw [List.getElem?_set_self]; simpa using rvLt h
theorem vecWr1 (f : α → AV) (a : AV) (hl : i.toNat < k) : [v.toList.map f].set 0 (wr (v.toList.map f) i.toNat [a]) = [(v.toList.map f).set i.toNat a] := by
  have : wr (v.toList.map f) i.toNat [a] = (v.toList.map f).set i.toNat a := by
    unfold wr
    rw [List.set_eq_take_append_cons_drop, if_pos (by simpa using hl)]
    simp
  rw [this]; rfl
theorem vecPk (f : α → AV) (y : α) {a : AV} : [(v.toList.map f).set i.toNat a].set 0 (((v.toList.map f).set i.toNat a).set i.toNat (f y)) = [(v.setIfInBounds i.toNat y).toList.map f] := by
  show [_] = [_]
  rw [List.set_set, Vector.toList_setIfInBounds, List.map_set]
theorem vecPi (f : α → AV) {a : AV} (h : rdv v i = some e) : [(v.toList.map f).set i.toNat a].set 0 (((v.toList.map f).set i.toNat a).set i.toNat (f e)) = [v.toList.map f] := by
  show [_] = [_]
  have h1 := rvM f h
  rw [List.set_set]
  congr 1
  apply List.ext_getElem?
  intro m
  by_cases e : i.toNat = m
  · subst e; rw [h1, List.getElem?_set_self (by simpa using rvLt h)]
  · rw [List.getElem?_set_ne e]
theorem vecPos (f : α → AV) (h : 0 < k) : 0 < (v.toList.map f).length := by simpa using h
end
theorem frI {ks : List Bool} {fr : List Nat} {m : Nat} (h : ((List.range ks.length).all fun i => !(ks[i]? == some true) || fr.contains i) = true) : ∀ i, i < m → ks[i]? = some true → i ∈ fr := by
  intro i _ hk
  have hi : i < ks.length := by
    rcases Nat.lt_or_ge i ks.length with h1 | h1
    · exact h1
    · rw [List.getElem?_eq_none_iff.2 h1] at hk; cases hk
  have := List.all_eq_true.1 h i (List.mem_range.2 hi)
  rw [hk] at this
  simpa using this
theorem rtfLV {α : Type} {k : Nat} {v : Vector α k} (f : α → AV) (h : ∀ x, litA (f x) = true) {ids : List Nat} : rtfL (v.toList.map f) ids = (v.toList.map f, [], ids) := litL2_rtf _ _ (by have := vecLit (v := v) f h; simpa only [litA] using this)
/- ------------------------------------------------ structs of plain fields, compared -/
def eqV (ti : Option TI) (u v : Value) : Option Bool :=
  match ti, u, v with
  | some ⟨_, _, .int _, _⟩, .int k a, .int k' b => if k = k' then some (a == b) else none
  | some ⟨_, _, .bool, _⟩, .bool a, .bool b => some (a == b)
  | _, _, _ => none
def eqFs (Θ : Tys) : List Field → Nat → List Value → List Value → Option Bool
  | [], _, [], [] => some true
  | f :: fs, off, u :: us, v :: vs => if f.offset == off && f.name != "_" then match eqV (Θ.lookup f.type) u v, eqFs Θ fs (off + 1) us vs with
    | some x, some y => some (x && y)
    | _, _ => none
    else none
  | _, _, _, _ => none
theorem eqFs_sound {Θ : Tys} {P : Program} (hΘ : TOK P Θ) (w : World) (xs ys : Array Value) : ∀ (fs : List Field) (us vs : List Value) (off : Nat) (r : Bool), eqFs Θ fs off us vs = some r →
    (∀ k v, us[k]? = some v → xs[off + k]? = some v) → (∀ k v, vs[k]? = some v → ys[off + k]? = some v) → (Op.eqFields 9999 xs ys fs).run P w = .ok r w
  | [], [], [], off, r, he, hx, hy => by simp only [eqFs] at he; cases he; simp [Op.eqFields]
  | f :: fs, [], _, off, r, he, hx, hy => by simp [eqFs] at he
  | f :: fs, _ :: _, [], off, r, he, hx, hy => by simp [eqFs] at he
  | [], _ :: _, _, off, r, he, hx, hy => by simp [eqFs] at he
  | [], [], _ :: _, off, r, he, hx, hy => by simp [eqFs] at he
  | f :: fs, u :: us, v :: vs, off, r, he, hx, hy => by
    simp only [eqFs] at he
    split at he
    case isFalse => cases he
    rename_i hf
    simp only [Bool.and_eq_true, beq_iff_eq, bne_iff_ne] at hf
    obtain ⟨h1, h2⟩ := hf
    split at he
    case h_2 => cases he
    rename_i x y hxy hr
    cases he
    have ax : xs[off]? = some u := by simpa using hx 0 u rfl
    have ay : ys[off]? = some v := by simpa using hy 0 v rfl
    have ih := eqFs_sound hΘ w xs ys fs us vs (off + 1) y hr (fun k v hk => by rw [show off + 1 + k = off + (k + 1) by omega]; exact hx (k + 1) v (by simpa using hk)) (fun k v hk => by rw [show off + 1 + k = off + (k + 1) by omega]; exact hy (k + 1) v (by simpa using hk))
    have key : P.plainKey f.type = true ∧ (Op.equalIn 9999 f.type u v).run P w = .ok x w := by
      unfold eqV at hxy
      split at hxy
      · rename_i hti
        have hu := tiOf_und (hΘ.get hti)
        split at hxy
        · rename_i hk; subst hk; cases hxy
          exact ⟨by simp [Program.plainKey, hu], run_equalIn_int w 9998 _ _ _ _ _ hu⟩
        · cases hxy
      · rename_i hti
        have hu := tiOf_und (hΘ.get hti)
        cases hxy
        exact ⟨by simp [Program.plainKey, hu], run_equalIn_bool' w 9998 _ _ _ hu⟩
      · cases hxy
    simp only [Op.eqFields]
    rw [if_pos h2, h1]
    simp only [Sem.run_bind, run_part_plain w key.1 ax, run_part_plain w key.1 ay, Result.andThen_ok, key.2]
    cases x
    · simp
    · simpa using ih
/- ------------------------------------------------ floats and texts, compared; floats are told but for a NaN's bits -/
theorem fNaN_read {n : Nat} (h : fNaN n = true) : ∃ s t, Ieee.double.read n = .nan s t := by
  unfold fNaN at h
  change (Ieee.Format.order Ieee.double n n).isNone = true at h
  unfold Ieee.Format.order at h
  generalize Ieee.double.read n = d at h
  cases d with
  | nan s t => exact ⟨s, t, rfl⟩
  | infinity s => simp [Ieee.Datum.order] at h
  | number s m i => simp [Ieee.Datum.order] at h
theorem fNaN_of {n : Nat} {s : Bool} {t : Nat} (h : Ieee.double.read n = .nan s t) : fNaN n = true := by
  unfold fNaN
  show (Ieee.Format.order Ieee.double n n).isNone = true
  unfold Ieee.Format.order
  rw [h]; rfl
theorem fNaN_big {n : Nat} (h : 9218868437227405312 < n % 9223372036854775808) : fNaN n = true := by
  have e : Ieee.double.read n = .nan (n / Ieee.double.signWeight % 2 == 1) (n % Ieee.double.signWeight - Ieee.double.infRung) := by
    unfold Ieee.Format.read
    have h1 : Ieee.double.signWeight = 9223372036854775808 := by decide +kernel
    have h2 : Ieee.double.binade = 4503599627370496 := by decide +kernel
    have h3 : Ieee.double.infRung = 9218868437227405312 := by decide +kernel
    simp only [h1, h2, h3]
    rw [if_neg (by omega), if_neg (by omega), if_neg (by omega)]
  exact fNaN_of e
theorem fNaN_cut {x y t : Nat} : fNaN ((Question.nanBits .f64 x y).cut t) = true := by
  refine fNaN_big ?_
  show 9218868437227405312 < ((t % 2) * 2 ^ 63 + 0x7ff0000000000000 + 1 + (t / 2) % (2 ^ 52 - 1)) % 9223372036854775808
  have h1 : (t / 2) % (2 ^ 52 - 1) < 4503599627370495 := Nat.mod_lt _ (by decide)
  have h2 : t % 2 = 0 ∨ t % 2 = 1 := by omega
  rcases h2 with h2 | h2 <;> (rw [h2]; omega)
/-- the NaN that is told -/
def qNaN : Nat := 9221120237041090561
theorem fNaN_q : fNaN qNaN = true := by decide +kernel
/-- two words of one number -/
def F1 (m n : Nat) : Prop := m = n ∨ fNaN m = true ∧ fNaN n = true
theorem isV_f {u : Value} {a : Nat} (h : IsV (FK a) u) : ∃ m, u = .float .f64 m ∧ F1 m a := by
  rcases h with ⟨v, h1, h2⟩ | ⟨vs, us, h1, _⟩
  · cases h1; exact h2.flt
  · cases h1
theorem isV_eq {x : AV} {u v : Value} (h : IsV x u) (hx : x = .lit v) (hn : nf v = true := by rfl) : u = v := by
  subst hx
  rcases h with ⟨v', h1, h2⟩ | ⟨vs, us, h1, _⟩
  · cases h1; exact h2.eq hn
  · cases h1
theorem isV_agg {vs : List Value} {u : Value} (h : IsV (.agg (litL vs)) u) (hn : vs.all nf = true) : u = .agg vs.toArray := by
  rcases h with ⟨v', h1, _⟩ | ⟨vs', us, h1, h2, h3⟩
  · cases h1
  · have e : litL vs = litL vs' := by simpa using h1
    have : vs = vs' := List.map_inj_right (f := AV.lit) (fun x y hxy => by cases hxy; rfl) |>.1 e
    subst this
    rw [h2, h3.eq hn]
theorem read_cong {α : Type} {f : Ieee.Datum → Ieee.Datum → Option α} (hl : ∀ s t d, f (.nan s t) d = none) (hr : ∀ s t d, f d (.nan s t) = none) {a b a' b' : Nat} (ha : F1 a a') (hb : F1 b b') :
    f (Ieee.double.read a) (Ieee.double.read b) = f (Ieee.double.read a') (Ieee.double.read b') := by
  rcases ha with rfl | ⟨h1, h2⟩
  · rcases hb with rfl | ⟨h1, h2⟩
    · rfl
    · obtain ⟨s, t, e1⟩ := fNaN_read h1
      obtain ⟨s2, t2, e2⟩ := fNaN_read h2
      rw [e1, e2, hr, hr]
  · obtain ⟨s, t, e1⟩ := fNaN_read h1
    obtain ⟨s2, t2, e2⟩ := fNaN_read h2
    rw [e1, e2, hl, hl]
def fcmp (a b : Nat) : Option Ordering := FloatKind.f64.format.order a b
theorem fcmp_cong {a b a' b' : Nat} (ha : F1 a a') (hb : F1 b b') : FloatKind.f64.format.order a b = fcmp a' b' :=
  read_cong (f := Ieee.Datum.order) (fun s t d => by cases d <;> rfl) (fun s t d => by cases d <;> rfl) ha hb
theorem fCmpS {P : Program} {t a b : Nat} {op : BinOp} {g : Option Ordering → Bool} (h : ∀ (m n : Nat) (w : World) (X Y : Operand), (do eqGuard op t X Y (.float .f64 m) (.float .f64 n); binOp op t (.float .f64 m) (.float .f64 n) : Sem Value).run P w = .ok (.bool (g (FloatKind.f64.format.order m n))) w) : BinS P op t (FK a) (FK b) (B (g (fcmp a b))) := by
  refine ⟨.inl ⟨_, rfl⟩, .inl ⟨_, rfl⟩, _, rfl, fun u v hu hv w X Y => ?_⟩
  obtain ⟨m, rfl, hm⟩ := isV_f hu
  obtain ⟨n, rfl, hn⟩ := isV_f hv
  exact ⟨_, w, h m n w X Y, by rw [fcmp_cong hm hn]; exact VEq.refl _, .inl rfl⟩
theorem fEql {P : Program} {t a b : Nat} : BinS P .eql t (FK a) (FK b) (B (fcmp a b == some .eq)) := fCmpS (g := fun c => c == some .eq) fun m n w X Y => by simp [eqGuard, binOp, Op.floatCmp]
theorem fNeq {P : Program} {t a b : Nat} : BinS P .neq t (FK a) (FK b) (B (fcmp a b != some .eq)) := fCmpS (g := fun c => c != some .eq) fun m n w X Y => by simp [eqGuard, binOp, Op.floatCmp]
theorem fLss {P : Program} {t a b : Nat} : BinS P .lss t (FK a) (FK b) (B (fcmp a b == some .lt)) := fCmpS (g := fun c => c == some .lt) fun m n w X Y => by simp [eqGuard, binOp, Op.floatCmp]
theorem fLeq {P : Program} {t a b : Nat} : BinS P .leq t (FK a) (FK b) (B (fcmp a b == some .lt || fcmp a b == some .eq)) := fCmpS (g := fun c => c == some .lt || c == some .eq) fun m n w X Y => by simp [eqGuard, binOp, Op.floatCmp]
theorem fGtr {P : Program} {t a b : Nat} : BinS P .gtr t (FK a) (FK b) (B (fcmp a b == some .gt)) := fCmpS (g := fun c => c == some .gt) fun m n w X Y => by simp [eqGuard, binOp, Op.floatCmp]
theorem fGeq {P : Program} {t a b : Nat} : BinS P .geq t (FK a) (FK b) (B (fcmp a b == some .gt || fcmp a b == some .eq)) := fCmpS (g := fun c => c == some .gt || c == some .eq) fun m n w X Y => by simp [eqGuard, binOp, Op.floatCmp]
theorem sK_list (l : Str) : (sK l).toList = l := by unfold sK; exact ByteArray.toList_mk l
theorem binS_val {P : Program} {op : BinOp} {t : Nat} {x y v : Value} (h : evBin op x y = some v) : BinS P op t (.lit x) (.lit y) (.lit v) :=
  ⟨.inl ⟨_, rfl⟩, .inl ⟨_, rfl⟩, _, rfl, fun u u' hu hv w X Y => by
    rw [isV_eq hu rfl (evBin_nf h).1, isV_eq hv rfl (evBin_nf h).2]
    exact ⟨_, w, evBin_sound h, VEq.refl _, .inl rfl⟩⟩
theorem sEql {P : Program} {t : Nat} {a b : Str} : BinS P .eql t (SK a) (SK b) (B (a == b)) := binS_val (by simp [evBin, sK_list])
theorem sNeq {P : Program} {t : Nat} {a b : Str} : BinS P .neq t (SK a) (SK b) (B (!(a == b))) := binS_val (by simp [evBin, sK_list])
/-- reckoned with a NaN for 'no answer' -/
def fdv (a b : Nat) : Nat := (FloatKind.f64.format.div a b).getD qNaN
def fad (a b : Nat) : Nat := (FloatKind.f64.format.add a b).getD qNaN
def fsb (a b : Nat) : Nat := (FloatKind.f64.format.sub a b).getD qNaN
def fml (a b : Nat) : Nat := (FloatKind.f64.format.mul a b).getD qNaN
theorem fArS {P : Program} {t a b : Nat} {op : BinOp} {g : Nat → Nat → Option Nat} (hc : ∀ {m n m' n' : Nat}, F1 m m' → F1 n n' → g m n = g m' n')
    (h : ∀ (m n : Nat) (w : World) (X Y : Operand), (do eqGuard op t X Y (.float .f64 m) (.float .f64 n); binOp op t (.float .f64 m) (.float .f64 n) : Sem Value).run P w = (match g m n with | some r => pure (.float .f64 r) | none => (do pure (.float .f64 (← choose (.nanBits .f64 m n)))) : Sem Value).run P w) : BinS P op t (FK a) (FK b) (FK ((g a b).getD qNaN)) := by
  refine ⟨.inl ⟨_, rfl⟩, .inl ⟨_, rfl⟩, _, rfl, fun u v hu hv w X Y => ?_⟩
  obtain ⟨m, rfl, hm⟩ := isV_f hu
  obtain ⟨n, rfl, hn⟩ := isV_f hv
  have e := hc hm hn
  rw [h m n w X Y, e]
  cases hg : g a b with
  | some r => exact ⟨_, w, by simp, VEq.refl _, .inl rfl⟩
  | none =>
    refine ⟨.float .f64 ((Question.nanBits .f64 m n).cut (w.tape w.drawn (.nanBits .f64 m n))), w.drew, ?_, .inr ⟨_, rfl, fNaN_cut, fNaN_q⟩, .inr rfl⟩
    rfl
theorem fQuo {P : Program} {t a b : Nat} : BinS P .quo t (FK a) (FK b) (FK (fdv a b)) := fArS (g := fun m n => FloatKind.f64.format.div m n) (fun hm hn => congrArg (fun d => Option.map Ieee.double.write d) (read_cong (f := fun d e => d.quotient (Ieee.double.fractionBits + 2) e) (fun s t d => by cases d <;> rfl) (fun s t d => by cases d <;> rfl) hm hn)) fun m n w X Y => by simp [eqGuard, binOp, Op.floatArith]; rfl
theorem fAdd {P : Program} {t a b : Nat} : BinS P .add t (FK a) (FK b) (FK (fad a b)) := fArS (g := fun m n => FloatKind.f64.format.add m n) (fun hm hn => congrArg (fun d => Option.map Ieee.double.write d) (read_cong (f := Ieee.Datum.sum) (fun s t d => by cases d <;> rfl) (fun s t d => by cases d <;> rfl) hm hn)) fun m n w X Y => by simp [eqGuard, binOp, Op.floatArith]; rfl
theorem fSub {P : Program} {t a b : Nat} : BinS P .sub t (FK a) (FK b) (FK (fsb a b)) := fArS (g := fun m n => FloatKind.f64.format.sub m n) (fun hm hn => congrArg (fun d => Option.map Ieee.double.write d) (read_cong (f := fun d e => d.sum e.opposite) (fun s t d => by cases d <;> rfl) (fun s t d => by cases d <;> rfl) hm hn)) fun m n w X Y => by simp [eqGuard, binOp, Op.floatArith]; rfl
theorem fMul {P : Program} {t a b : Nat} : BinS P .mul t (FK a) (FK b) (FK (fml a b)) := fArS (g := fun m n => FloatKind.f64.format.mul m n) (fun hm hn => congrArg (fun d => Option.map Ieee.double.write d) (read_cong (f := Ieee.Datum.product) (fun s t d => by cases d <;> rfl) (fun s t d => by cases d <;> rfl) hm hn)) fun m n w X Y => by simp [eqGuard, binOp, Op.floatArith]; rfl
def fOf (n : Int) : Nat := FloatKind.f64.nearest n
theorem cIF {P : Program} {src dst sz bt sz2 bt2 : Nat} {z z2 : List Value} {k : IntKind} {n : Int} (h1 : tiOf P src = some ⟨sz, bt, .int k, z⟩) (h2 : tiOf P dst = some ⟨sz2, bt2, .float .f64, z2⟩) : CnvS P src dst (IK k n) (FK (fOf n)) :=
  ⟨.inl ⟨_, rfl⟩, _, rfl, fun u hu w => ⟨_, w, by rw [isV_eq hu rfl]; simp only [convert, Sem.run_bind, run_underlying (tiOf_und h1), run_underlying (tiOf_und h2), Result.andThen_ok, Conv.intToFloat, Sem.run_pure]; rfl, VEq.refl _, .inl rfl⟩⟩
/-- a float made a whole number, where the language fixes one -/
def fTo (a : Nat) : Option Int := match (Ieee.double.read a).toInt .zero with
  | some n => if IntKind.i64.min ≤ n ∧ n ≤ IntKind.i64.max then some n else none
  | none => none
theorem cFI {P : Program} {src dst sz bt sz2 bt2 : Nat} {z z2 : List Value} {a : Nat} {n : Int} (h1 : tiOf P src = some ⟨sz, bt, .float .f64, z⟩) (h2 : tiOf P dst = some ⟨sz2, bt2, .int .i64, z2⟩) (h : fTo a = some n) : CnvS P src dst (FK a) (IK .i64 n) :=
  ⟨.inl ⟨_, rfl⟩, _, rfl, fun u hu w => by
    obtain ⟨m, rfl, hm⟩ := isV_f hu
    unfold fTo at h
    have e : Ieee.double.read m = Ieee.double.read a := by
      rcases hm with rfl | ⟨_, h2⟩
      · rfl
      · obtain ⟨s, t, e2⟩ := fNaN_read h2
        rw [e2] at h
        simp [Ieee.Datum.toInt, Ieee.Datum.integral] at h
    rw [← e] at h
    split at h
    · rename_i n' hn
      split at h
      · rename_i hb
        cases h
        refine ⟨_, w, ?_, VEq.refl _, .inl rfl⟩
        have hn2 : (FloatKind.f64.decode m).toInt .zero = some n := hn
        simp only [convert, Sem.run_bind, run_underlying (tiOf_und h1), run_underlying (tiOf_und h2), Result.andThen_ok, Conv.floatToInt, hn2, if_pos hb, Sem.run_pure]
      · cases h
    · cases h⟩
theorem xBits {P : Program} {f : FuncId} {fn : Func} {a : Nat} (hf : P.funcs[f]? = some fn) (hname : (fn.name == "runtime.NumGoroutine") = false) (hb : fn.body.isNone = true) (hn : Extern.findNext fn = none) (he : Extern.find fn = some Extern.MathFloatBits.float64bits) (ha : fNaN a = false) : ExtS P f (FK a) (IK .u64 (a : Int)) :=
  ⟨.inl ⟨_, rfl⟩, _, rfl, fun u hu w => by
    obtain ⟨m, rfl, rfl | ⟨_, h2⟩⟩ := isV_f hu
    · exact ⟨_, w, by rw [run_callFunc_extern hf hname hb hn he]; rfl, VEq.refl _, .inl rfl⟩
    · rw [h2] at ha; cases ha⟩
theorem xFrom {P : Program} {f : FuncId} {fn : Func} {a : Int} (hf : P.funcs[f]? = some fn) (hname : (fn.name == "runtime.NumGoroutine") = false) (hb : fn.body.isNone = true) (hn : Extern.findNext fn = none) (he : Extern.find fn = some Extern.MathFloatBits.float64frombits) : ExtS P f (IK .u64 a) (FK a.toNat) :=
  ⟨.inl ⟨_, rfl⟩, _, rfl, fun u hu w => ⟨_, w, by rw [isV_eq hu rfl, run_callFunc_extern hf hname hb hn he]; rfl, VEq.refl _, .inl rfl⟩⟩
theorem struct_run {Θ : Tys} {P : Program} (hΘ : TOK P Θ) {t sz bt : Nat} {fs : Array Field} {z : List Value} (ht : tiOf P t = some ⟨sz, bt, .struct fs, z⟩) (hp : P.stoodInHeld t = false) {us vs : List Value} {r : Bool} (he : eqFs Θ fs.toList 0 us vs = some r) (w : World) :
    (Op.equalIn 10000 t (.agg us.toArray) (.agg vs.toArray)).run P w = .ok r w := by
  have hu := tiOf_und ht
  have hf : P.fieldsOf t = fs := by simp [Program.fieldsOf, hu]
  rw [run_equalIn_agg w 9999 t _ _ (by rw [hf]; exact hu) hp, hf]
  exact eqFs_sound hΘ w _ _ _ us vs 0 r he (fun k v hk => by simpa using hk) (fun k v hk => by simpa using hk)
theorem eqS {Θ : Tys} {P : Program} (hΘ : TOK P Θ) {t sz bt : Nat} {fs : Array Field} {z : List Value} (ht : tiOf P t = some ⟨sz, bt, .struct fs, z⟩) (hp : P.stoodInHeld t = false) (hg : P.eqGuardType P.depth t = false) {us vs : List Value} {r r' : Bool} (he : eqFs Θ fs.toList 0 us vs = some r) (hr : r = r') (hnu : us.all nf = true := by rfl) (hnv : vs.all nf = true := by rfl) :
    BinS P .eql t (.agg (litL us)) (.agg (litL vs)) (B r') := by
  subst hr
  refine ⟨.inr ⟨us, rfl⟩, .inr ⟨vs, rfl⟩, _, rfl, fun u v hu hv w X Y => ⟨_, w, ?_, VEq.refl _, .inl rfl⟩⟩
  rw [isV_agg hu hnu, isV_agg hv hnv, Sem.run_bind, run_eqGuard_agg w .eql t X Y _ _ hg, Result.andThen_ok, run_eql_struct, struct_run hΘ ht hp he]
  rfl
theorem neS {Θ : Tys} {P : Program} (hΘ : TOK P Θ) {t sz bt : Nat} {fs : Array Field} {z : List Value} (ht : tiOf P t = some ⟨sz, bt, .struct fs, z⟩) (hp : P.stoodInHeld t = false) (hg : P.eqGuardType P.depth t = false) {us vs : List Value} {r r' : Bool} (he : eqFs Θ fs.toList 0 us vs = some r) (hr : r = r') (hnu : us.all nf = true := by rfl) (hnv : vs.all nf = true := by rfl) :
    BinS P .neq t (.agg (litL us)) (.agg (litL vs)) (B (!r')) := by
  subst hr
  refine ⟨.inr ⟨us, rfl⟩, .inr ⟨vs, rfl⟩, _, rfl, fun u v hu hv w X Y => ⟨_, w, ?_, VEq.refl _, .inl rfl⟩⟩
  rw [isV_agg hu hnu, isV_agg hv hnv, Sem.run_bind, run_eqGuard_agg w .neq t X Y _ _ hg, Result.andThen_ok, run_neq_struct, struct_run hΘ ht hp he]
  rfl
/-- cut to a whole number -/
def fTr (a : Nat) : Nat := Ieee.double.write ((Ieee.double.read a).integral .zero)
theorem trunc_pure {m : Nat} {nm : String} (hd : (FloatKind.f64.decode m).isNaN = false) : Extern.MathFloor.toIntegral nm .zero #[.float .f64 m] = pure (.float .f64 (fTr m)) := by
  have e : Extern.MathFloor.toIntegral nm .zero #[.float .f64 m] = (match FloatKind.f64.decode m with
    | .nan s t =>
      if FloatKind.f64.format.quiet t = t then pure (.float .f64 m) else do
      let kept ← choose (.extern "math.Floor,Ceil,Trunc,RoundToEven.signallingNaN kept" 2)
      pure (.float .f64 (if kept == 1 then m else FloatKind.f64.encode (.nan s (FloatKind.f64.format.quiet t))))
    | d => pure (.float .f64 (FloatKind.f64.encode (d.integral .zero)))) := rfl
  have e2 : fTr m = FloatKind.f64.encode ((FloatKind.f64.decode m).integral .zero) := rfl
  rw [e, e2]
  cases hq : FloatKind.f64.decode m with
  | nan s t => rw [hq] at hd; cases hd
  | infinity s => rfl
  | number s k i => rfl
theorem xTrunc {P : Program} {f : FuncId} {fn : Func} {a : Nat} (hf : P.funcs[f]? = some fn) (hname : (fn.name == "runtime.NumGoroutine") = false) (hb : fn.body.isNone = true) (hn : Extern.findNext fn = none) (he : Extern.find fn = some (Extern.MathFloor.toIntegral "math.archTrunc" .zero)) (ha : fNaN a = false) : ExtS P f (FK a) (FK (fTr a)) :=
  ⟨.inl ⟨_, rfl⟩, _, rfl, fun u hu w => by
    obtain ⟨m, rfl, rfl | ⟨_, h2⟩⟩ := isV_f hu
    · refine ⟨_, w, ?_, VEq.refl _, .inl rfl⟩
      rw [run_callFunc_extern hf hname hb hn he]
      have hd : (FloatKind.f64.decode m).isNaN = false := by
        cases hq : FloatKind.f64.decode m with
        | nan s t => rw [fNaN_of (n := m) (s := s) (t := t) hq] at ha; cases ha
        | infinity s => rfl
        | number s k i => rfl
      rw [trunc_pure hd]; rfl
    · rw [h2] at ha; cases ha⟩
def nNaN (a : Nat) : Option Unit := if fNaN a then none else some ()
theorem nNaNE {a : Nat} {q : Unit} (h : nNaN a = some q) : fNaN a = false := by unfold nNaN at h; cases h2 : fNaN a <;> simp [h2] at h ⊢
theorem clB {T : Type} (f : T → List AV) {l l' : List T} {lo hi : Int} (h : slc l lo hi = some l') : lo.toNat + subO hi.toNat lo.toNat ≤ (l.map f).length := by
  obtain ⟨h0, h1, h2, _⟩ := slI h
  rw [subO_eq, List.length_map]; omega
theorem clBe {T : Type} (f : T → List AV) {l l' : List T} {lo : Int} (h : slc l lo (l.length : Int) = some l') : lo.toNat + subO (Int.toNat (((l.map f).length : Nat) : Int)) lo.toNat ≤ (l.map f).length := by
  obtain ⟨h0, h1, h2, _⟩ := slI h
  rw [subO_eq, List.length_map]; omega
theorem clrT_len {T : Type} {l : List T} {z : T} {a n : Nat} (h : a + n ≤ l.length) : (clrT l z a n).length = l.length := by
  unfold clrT ovT; simp; omega
theorem lnClr {T : Type} (f : T → List AV) {l l' : List T} {lo hi : Int} {z : T} (h : slc l lo hi = some l') : (l.map f).length = ((clrT l z lo.toNat (subO hi.toNat lo.toNat)).map f).length := by
  have := clB f h
  rw [List.length_map] at this
  rw [List.length_map, List.length_map, clrT_len this]
theorem lnClre {T : Type} (f : T → List AV) {l l' : List T} {lo : Int} {z : T} (h : slc l lo (l.length : Int) = some l') : (l.map f).length = ((clrT l z lo.toNat (subO (Int.toNat (((l.map f).length : Nat) : Int)) lo.toNat)).map f).length := by
  have := clBe f h
  have e : (l.map f).length = l.length := List.length_map _
  have h2 : lo.toNat + subO (Int.toNat (((l.map f).length : Nat) : Int)) lo.toNat ≤ l.length := by omega
  have e3 := clrT_len (z := z) h2
  have e4 : ((clrT l z lo.toNat (subO (Int.toNat (((l.map f).length : Nat) : Int)) lo.toNat)).map f).length = (clrT l z lo.toNat (subO (Int.toNat (((l.map f).length : Nat) : Int)) lo.toNat)).length := List.length_map _
  omega
theorem setHH {α : Type} {l : List α} {i : Nat} {a b c : α} (h : b = c) : (l.set i a).set i b = l.set i c := by rw [h, List.set_set]
end Go.T

set_option linter.unusedVariables false
namespace Go.T
open Go Go.RowKit Go.Proofs Go.Shelf Go.Sort

/- ------------------------------------------------ worlds -/
theorem grow_of {w w' : World} (hb : Go.RowKit.Below w.heap.size w w') (hd : w.drawn ≤ w'.drawn) : ∃ q os', w' = grow (w.drewN q) os' := by
  refine ⟨w'.drawn - w.drawn, w'.heap.extract w.heap.size w'.heap.size, ?_⟩
  obtain ⟨h1, h2, h3, h4, h5⟩ := hb
  obtain ⟨heap, tape, drawn, os, output⟩ := w
  obtain ⟨heap', tape', drawn', os', output'⟩ := w'
  simp only at h1 h2 h3 h4 h5 hd
  subst h1 h2 h3
  simp only [grow, World.drewN, World.mk.injEq, and_true, true_and]
  refine ⟨?_, by omega⟩
  apply Array.ext_getElem?
  intro i
  rw [Array.getElem?_append]
  split
  · rename_i h; exact h5 i h
  · rename_i h
    rw [Array.getElem?_extract]
    split
    · rw [show heap.size + (i - heap.size) = i by omega]
    · exact Array.getElem?_eq_none (by omega)
/-- a call by its contract over trees, where two read-only rows go in and a number or a bool comes out -/
theorem meets_calls {P : Program} {f : FuncId} {args : List AV} {z : Value} (hm : Meets P f args (.lit z)) (hz : nf z = true) {w : World} {vals : List Value} (hr : repL w (fun b => b < w.heap.size) args vals []) :
    Calls P f vals.toArray w fun e w' => e = .returned z ∧ ∃ q os', w' = grow (w.drewN q) os' := by
  refine (hm.2 w _ vals hr (fun _ h => h)).mono ?_
  rintro e w' ⟨v, fp, rfl, hb, hd, hr, _⟩
  simp only [rep] at hr
  exact ⟨by rw [hr.2.eq hz], grow_of hb hd⟩
/- ------------------------------------------------ lists in their order -/
/-- -1, 0, 1 -/
def cmpL : List Int → List Int → Int
  | [], [] => 0
  | [], _ :: _ => -1
  | _ :: _, [] => 1
  | x :: a, y :: b => if x < y then -1 else if x > y then 1 else cmpL a b
def ltL (a b : List Int) : Bool := decide (cmpL a b < 0)
theorem cmpL_anti : ∀ a b, cmpL b a = -cmpL a b
  | [], [] => rfl
  | [], _ :: _ => rfl
  | _ :: _, [] => rfl
  | x :: a, y :: b => by
    simp only [cmpL]
    rcases Int.lt_trichotomy x y with h | h | h
    · rw [if_neg (show ¬ y < x by omega), if_pos (show y > x by omega), if_pos h]; rfl
    · subst h
      have h0 : ¬ x < x := by omega
      simp only [gt_iff_lt, h0, if_false]
      exact cmpL_anti a b
    · rw [if_pos h, if_neg (show ¬ x < y by omega), if_pos (show x > y by omega)]
theorem cmpL_zero : ∀ a b, cmpL a b = 0 → a = b
  | [], [], _ => rfl
  | [], _ :: _, h => by simp [cmpL] at h
  | _ :: _, [], h => by simp [cmpL] at h
  | x :: a, y :: b, h => by
    simp only [cmpL] at h
    split at h
    · cases h
    · split at h
      · cases h
      · rw [cmpL_zero a b h, show x = y by omega]
theorem cmpL_self : ∀ a, cmpL a a = 0
  | [] => rfl
  | x :: a => by simp [cmpL, cmpL_self a]
theorem cmpL_trans : ∀ a b c, cmpL a b < 0 → cmpL b c ≤ 0 → cmpL a c < 0
  | [], [], _, h, _ => by simp [cmpL] at h
  | [], _ :: _, [], _, h => by simp [cmpL] at h
  | [], _ :: _, _ :: _, _, _ => by simp [cmpL]
  | _ :: _, [], _, h, _ => by simp [cmpL] at h
  | x :: a, y :: b, [], _, h => by simp [cmpL] at h
  | x :: a, y :: b, z :: c, h1, h2 => by
    simp only [cmpL] at h1 h2 ⊢
    have ih := cmpL_trans a b c
    split at h1
    · split at h2
      · rw [if_pos (by omega)]; omega
      · split at h2
        · omega
        · rw [if_pos (by omega)]; omega
    · split at h1
      · omega
      · split at h2
        · rw [if_pos (by omega)]; omega
        · split at h2
          · omega
          · rw [if_neg (by omega), if_neg (by omega)]; exact ih h1 h2
theorem ltL_irr (a : List Int) : ltL a a = false := by simp [ltL, cmpL_self]
theorem ltL_trans {a b c : List Int} (h1 : ltL a b = true) (h2 : ltL b c = true) : ltL a c = true := by
  simp only [ltL, decide_eq_true_eq] at *
  exact cmpL_trans a b c h1 (by omega)
theorem ltL_n {a b : List Int} (h : ltL a b = false) : b = a ∨ ltL b a = true := by
  simp only [ltL, decide_eq_false_iff_not, decide_eq_true_eq] at *
  have := cmpL_anti a b
  by_cases h0 : cmpL b a = 0
  · exact .inl (cmpL_zero _ _ h0)
  · right; omega
theorem ltL_nn {a b c : List Int} (h1 : ltL a b = false) (h2 : ltL b c = false) : ltL a c = false := by
  rcases ltL_n h1 with rfl | h1'
  · exact h2
  · rcases ltL_n h2 with rfl | h2'
    · exact h1
    · have := ltL_trans h2' h1'
      cases h : ltL a c
      · rfl
      · have := ltL_trans this h
        rw [ltL_irr] at this; cases this
theorem swoL {α : Type} (con : α → List Int) : SWO (ltOf fun x y => cmpL (con x) (con y)) where
  irrefl x := ltL_irr (con x)
  trans x y z h1 h2 := ltL_trans (a := con x) (b := con y) (c := con z) h1 h2
  ntrans x y z h1 h2 := ltL_nn (a := con x) (b := con y) (c := con z) h1 h2
/-- rising, each once: told by its elements -/
theorem rise_eq : ∀ (a b : List (List Int)), a.Pairwise (fun x y => ltL x y = true) → b.Pairwise (fun x y => ltL x y = true) → (∀ x, x ∈ a ↔ x ∈ b) → a = b
  | [], [], _, _, _ => rfl
  | [], y :: b, _, _, h => by have := (h y).2 List.mem_cons_self; cases this
  | x :: a, [], _, _, h => by have := (h x).1 List.mem_cons_self; cases this
  | x :: a, y :: b, ha, hb, h => by
    rw [List.pairwise_cons] at ha hb
    have hxy : x = y := by
      rcases List.mem_cons.1 ((h x).1 List.mem_cons_self) with rfl | h1
      · rfl
      · rcases List.mem_cons.1 ((h y).2 List.mem_cons_self) with rfl | h2
        · rfl
        · have := ltL_trans (ha.1 y h2) (hb.1 x h1)
          rw [ltL_irr] at this; cases this
    subst hxy
    rw [rise_eq a b ha.2 hb.2 fun z => ?_]
    constructor
    · intro hz
      rcases List.mem_cons.1 ((h z).1 (List.mem_cons_of_mem _ hz)) with rfl | h1
      · have := ha.1 z hz; rw [ltL_irr] at this; cases this
      · exact h1
    · intro hz
      rcases List.mem_cons.1 ((h z).2 (List.mem_cons_of_mem _ hz)) with rfl | h1
      · have := hb.1 z hz; rw [ltL_irr] at this; cases this
      · exact h1
/-- put to its place, once -/
def putLL (x : List Int) : List (List Int) → List (List Int)
  | [] => [x]
  | y :: l => if ltL x y then x :: y :: l else if x = y then y :: l else y :: putLL x l
def sdL (l : List (List Int)) : List (List Int) := l.foldr putLL []
theorem mem_putLL {x z : List Int} : ∀ {l : List (List Int)}, z ∈ putLL x l ↔ z = x ∨ z ∈ l
  | [] => by simp [putLL]
  | y :: l => by
    unfold putLL
    split
    · simp
    · split
      · rename_i h; subst h; simp
      · simp only [List.mem_cons, mem_putLL (l := l)]
        constructor
        · rintro (h | h | h) <;> simp [h]
        · rintro (h | h | h) <;> simp [h]
theorem putLL_rise {x : List Int} : ∀ {l : List (List Int)}, l.Pairwise (fun x y => ltL x y = true) → (putLL x l).Pairwise (fun x y => ltL x y = true)
  | [], _ => by simp [putLL]
  | y :: l, h => by
    unfold putLL
    rw [List.pairwise_cons] at h
    split
    · rename_i hx
      rw [List.pairwise_cons, List.pairwise_cons]
      exact ⟨fun z hz => by
        rcases List.mem_cons.1 hz with rfl | hz
        · exact hx
        · exact ltL_trans hx (h.1 z hz), h⟩
    · rename_i hx
      split
      · exact List.pairwise_cons.2 h
      · rename_i hne
        rw [List.pairwise_cons]
        refine ⟨fun z hz => ?_, putLL_rise h.2⟩
        rcases mem_putLL.1 hz with rfl | hz
        · rcases ltL_n (by simpa using hx : ltL z y = false) with e | h2
          · exact absurd e.symm hne
          · exact h2
        · exact h.1 z hz
theorem sdL_rise : ∀ l, (sdL l).Pairwise (fun x y => ltL x y = true)
  | [] => List.Pairwise.nil
  | x :: l => putLL_rise (sdL_rise l)
theorem mem_sdL {z : List Int} : ∀ {l : List (List Int)}, z ∈ sdL l ↔ z ∈ l
  | [] => by simp [sdL]
  | x :: l => by
    show z ∈ putLL x (sdL l) ↔ _
    rw [mem_putLL, mem_sdL (l := l), List.mem_cons]
end Go.T
namespace Go.T
open Go Go.RowKit Go.Proofs Go.Shelf Go.Sort
/- ------------------------------------------------ rows of rows, by places -/
abbrev nilV : Value := .slice none 0 0
def vAtL (vals : List Value) (i : Nat) : Value := vals.getD i nilV
def cAtL (ls : List (List Int)) (i : Nat) : List Int := ls.getD i []
def intR' (x : List Int) : List (List AV) := x.map fun n => [AV.lit (.int .i64 n)]
theorem frz_intR (x : List Int) : frzLL (intR' x) = intR' x := by
  rw [frzLL_map]
  unfold intR'
  rw [List.map_map]
  exact List.map_congr_left fun n _ => rfl
theorem repLL_own {w : World} {S : Nat → Prop} {T : Nat} : ∀ (ls : List (List Int)) (vals : List Value) (fp : List Nat), repLL w S 1 (ls.map fun x => [AV.own T 1 (intR' x)]) vals fp →
    vals.length = ls.length ∧ ∃ fs : List (List Nat), fs.length = ls.length ∧ fp = fs.flatten ∧ ∀ i, i < ls.length → rep w S (.own T 1 (intR' (cAtL ls i))) (vAtL vals i) (fs.getD i []) ∧ (vAtL vals i).oneCell' = true
  | [], vals, fp, h => by
    simp only [List.map_nil, repLL] at h
    obtain ⟨rfl, rfl⟩ := h
    exact ⟨rfl, [], rfl, rfl, fun i hi => absurd hi (Nat.not_lt_zero _)⟩
  | x :: ls, vals, fp, h => by
    simp only [List.map_cons, repLL, repL] at h
    obtain ⟨us, us', f1, f2, rfl, rfl, hl, h1, ⟨u, us2, g1, g2, rfl, rfl, hu, rfl, rfl⟩, h2⟩ := h
    obtain ⟨e1, fs, e2, rfl, e3⟩ := repLL_own ls us' f2 h2
    refine ⟨by simp [e1], g1 :: fs, by simp [e2], by simp, fun i hi => ?_⟩
    cases i with
    | zero => exact ⟨hu, h1 u (by simp)⟩
    | succ i => exact e3 i (by simpa using hi)
theorem repLL_mk {w : World} {S : Nat → Prop} {T : Nat} {con : Nat → List Int} {enc : Nat → Value} {f : Nat → List Nat} (h1 : ∀ i, (enc i).oneCell' = true) : ∀ (K : List Nat), (∀ i ∈ K, rep w S (.own T 1 (intR' (con i))) (enc i) (f i)) →
    repLL w S 1 ((K.map con).map fun x => [AV.own T 1 (intR' x)]) (K.map enc) ((K.map f).flatten)
  | [], _ => by simp [repLL]
  | k :: K, h => by
    simp only [List.map_cons, repLL, repL, List.flatten_cons]
    exact ⟨[enc k], _, f k, _, rfl, rfl, rfl, by simpa using h1 k, ⟨enc k, [], f k, [], rfl, by simp, h k List.mem_cons_self, rfl, rfl⟩, repLL_mk h1 K fun i hi => h i (List.mem_cons_of_mem _ hi)⟩
theorem nodup_pick {fs : List (List Nat)} (hn : fs.flatten.Nodup) : ∀ {K : List Nat}, K.Nodup → (K.map fun i => fs.getD i []).flatten.Nodup := by
  have hd : ∀ i j b, b ∈ fs.getD i [] → b ∈ fs.getD j [] → i = j := by
    intro i j b hi hj
    rw [List.Nodup, List.pairwise_flatten] at hn
    rw [List.getD_eq_getElem?_getD] at hi hj
    by_cases h1 : i < fs.length
    · by_cases h2 : j < fs.length
      · rw [List.getElem?_eq_getElem h1] at hi
        rw [List.getElem?_eq_getElem h2] at hj
        rcases Nat.lt_trichotomy i j with h | h | h
        · have := (List.pairwise_iff_getElem.1 hn.2) i j h1 h2 h
          exact absurd rfl (this b hi b hj)
        · exact h
        · have := (List.pairwise_iff_getElem.1 hn.2) j i h2 h1 h
          exact absurd rfl (this b hj b hi)
      · rw [List.getElem?_eq_none (by omega)] at hj; cases hj
    · rw [List.getElem?_eq_none (by omega)] at hi; cases hi
  have h1 : ∀ i, (fs.getD i []).Nodup := by
    intro i
    rw [List.getD_eq_getElem?_getD]
    by_cases h1 : i < fs.length
    · rw [List.getElem?_eq_getElem h1]
      exact (List.pairwise_flatten.1 hn).1 _ (List.getElem_mem h1)
    · rw [List.getElem?_eq_none (by omega)]; exact List.nodup_nil
  intro K
  induction K with
  | nil => intro _; simp
  | cons k K ih =>
    intro hK
    rw [List.nodup_cons] at hK
    simp only [List.map_cons, List.flatten_cons]
    rw [List.nodup_append]
    refine ⟨h1 k, ih hK.2, fun a ha b hb e => ?_⟩
    subst e
    rw [List.mem_flatten] at hb
    obtain ⟨l, hl, hb⟩ := hb
    obtain ⟨i, hi, rfl⟩ := List.mem_map.1 hl
    exact hK.1 (hd k i a ha hb ▸ hi)
theorem mem_getD_flatten {fs : List (List Nat)} {i b : Nat} (h : b ∈ fs.getD i []) : b ∈ fs.flatten := by
  rw [List.getD_eq_getElem?_getD] at h
  by_cases h1 : i < fs.length
  · rw [List.getElem?_eq_getElem h1] at h
    exact List.mem_flatten.2 ⟨_, List.getElem_mem h1, h⟩
  · rw [List.getElem?_eq_none (by omega)] at h; cases h
theorem holds_block {w : World} {g : Nat} {cur : Array Value} {e : TypeId} {vals : List Value} {n : Nat} (hn : vals.length = n) (hb : w.heap[g]? = some (.cells cur e (0, 0))) (ht : cur.toList.take n = vals) : Holds (vAtL vals) w g 0 (Array.range n) := by
  intro j hj
  have hj' : j < n := by simpa using hj
  refine ⟨?_, by simp [World.frozen?, hb]⟩
  have h1 : (cur.toList.take n)[j]? = vals[j]? := by rw [ht]
  rw [List.getElem?_take_of_lt hj'] at h1
  simp only [World.cell?, hb, Nat.zero_add]
  simp only [Option.isSome_none, Bool.false_eq_true, if_false]
  rw [← Array.getElem?_toList, h1]
  have : (Array.range n)[j]! = j := by rw [getElem!_pos _ _ (by simpa using hj')]; simp
  rw [this, vAtL, List.getD_eq_getElem?_getD, List.getElem?_eq_getElem (by omega)]; rfl
theorem nd_len : ∀ (n : Nat) (K : List Nat), K.Nodup → (∀ i ∈ K, i < n) → K.length ≤ n
  | 0, [], _, _ => by simp
  | 0, k :: K, _, h => absurd (h k List.mem_cons_self) (Nat.not_lt_zero _)
  | n + 1, K, hn, h => by
    have h1 := nd_len n (K.erase n) (hn.erase n) (fun i hi => by
      have h2 := h i (List.mem_of_mem_erase hi)
      have h3 : i ≠ n := fun e => by subst e; exact (List.Nodup.not_mem_erase hn) hi
      omega)
    have := List.length_erase (a := n) (l := K)
    split at this <;> omega
theorem heap_sorted {enc : Nat → Value} {w : World} {g n : Nat} {os : Array Obj} {cur : Array Value} {e : TypeId} {fr : Nat × Nat} {d : Array Nat} (hb : w.heap[g]? = some (.cells cur e fr)) (hg : g < w.heap.size) :
    (sortWorld enc w g 0 n d os).heap[g]? = some (.cells (putCells enc 0 d cur) e fr) := by
  unfold sortWorld
  rw [heap_grow_old _ _ (by simpa using hg)]
  simp [putRow, mapBlock, Sort.ahead, Array.getElem?_modify, hb, onCells]
theorem take_putCells_K {enc : Nat → Value} {cur : Array Value} {K r : List Nat} (h : K.length ≤ cur.size) : (putCells enc 0 (K ++ r).toArray cur).toList.take K.length = K.map enc := by
  apply List.ext_getElem?
  intro j
  by_cases hj : j < K.length
  · rw [List.getElem?_take_of_lt hj, Array.getElem?_toList]
    simp [putCells, hj, show j < cur.size by omega, show j < K.length + r.length by omega, List.getElem_append]
  · rw [List.getElem?_take_eq_none (by omega), List.getElem?_eq_none (by simp; omega)]
/-- what a call that sorts rows and strikes repetitions does, told by the places of the rows -/
def SortsRows (P : Program) (f : FuncId) : Prop :=
  (∀ (A : Option Addr) (cap : Nat) (w : World), Calls P f #[.slice A 0 cap] w fun e w' => e = .returned (.slice A 0 cap) ∧ w' = w) ∧
  ∀ (enc : Nat → Value) (con : Nat → List Int) (g cap n : Nat) (w : World), (∀ i, (enc i).oneCell' = true) → Holds enc w g 0 (Array.range n) → g < w.heap.size → 0 < n → n < 4611686018427387904 → n ≤ cap → enc n = nilV →
    (∀ i, (con i).length < 1099511627776) → (∀ (dk : Array Nat) (W : World), SW enc w g 0 dk W → dk.size = n → ∀ i, rep W (fun b => b < W.heap.size) (.ro 1 (intR' (con i))) (enc i) []) →
    Calls P f #[.slice (some ⟨g, 0, none⟩) n cap] w fun e w' => ∃ K : List Nat, e = .returned (.slice (some ⟨g, 0, none⟩) K.length cap) ∧ K.map con = sdL ((List.range n).map con) ∧ K.Nodup ∧ (∀ i ∈ K, i < n) ∧ SW enc w g 0 (K ++ List.replicate (n - K.length) n).toArray w'
noncomputable def lstL (p : List (List Int)) : Option (List (List Int)) := if p.length < 4611686018427387904 ∧ ∀ x ∈ p, x.length < 1099511627776 then some (sdL p) else none
theorem cAt_range (ls : List (List Int)) : (List.range ls.length).map (cAtL ls) = ls := by
  apply List.ext_getElem?
  intro i
  by_cases h : i < ls.length
  · simp [cAtL, h]
  · simp [h]
theorem meetsR_lists {P : Program} {f : FuncId} {T : Nat} {T2 : Nat} (hE : Enters P f) (hc : SortsRows P f) (ls : List (List Int)) (hz : ls.length < 4611686018427387904) (hzz : ∀ x ∈ ls, x.length < 1099511627776) :
    MeetsR P f [⟨T, 1, ls.map fun x => [AV.own T2 1 (intR' x)]⟩] [.sl 0 0 (List.length (ls.map fun x => [AV.own T2 1 (intR' x)]))] [false] [⟨T, 1, ls.map fun x => [AV.own T2 1 (intR' x)]⟩] (.own T 1 ((sdL ls).map fun x => [AV.own T2 1 (intR' x)])) := by
  refine ⟨hE, ?_⟩
  intro w S hd fp vals hr hnone hdis hS hSb hargs
  obtain ⟨_, ⟨vs, fp', hown, hrep, hfp⟩, hnd⟩ := hr 0 _ rfl
  simp only at hown hrep
  obtain ⟨hvl, fs, hfl, rfl, hel⟩ := repLL_own ls vs fp' hrep
  simp only [repRL] at hargs
  obtain ⟨u, us', f1, f2, rfl, hf, hu, rfl, rfl⟩ := hargs
  obtain ⟨rfl, _⟩ := List.append_eq_nil_iff.1 hf.symm
  simp only [repR] at hu
  obtain ⟨_, _, hu⟩ := hu
  obtain ⟨_, ⟨A, cap, rfl, hcap, hA0, hA⟩, _⟩ := hu (hd 0) (ls.map fun x => [AV.own T2 1 (intR' x)]).length 1 rfl
  have e3 : (List.length (ls.map fun x => [AV.own T2 1 (intR' x)]) : Nat) = ls.length := List.length_map _
  rw [e3] at hown hcap hA
  have hfp0 : ∀ i b, b ∈ fp i → i = 0 := by
    intro i b hb
    cases i with
    | zero => rfl
    | succ i => rw [hnone (i + 1) (by simp)] at hb; cases hb
  by_cases hn : ls.length = 0
  · have hls : ls = [] := List.eq_nil_of_length_eq_zero hn
    subst hls
    refine Calls.mono (hc.1 A cap w) ?_
    rintro e w' ⟨rfl, rfl⟩
    have hA0' : A = none ∧ cap = 0 ∨ ∃ b, A = some ⟨b, 0, none⟩ ∧ ∃ cur, w'.heap[b]? = some (.cells cur T (0, 0)) ∧ cur.size = cap * 1 ∧ cap ≤ maxLen := by
      obtain ⟨m, hm⟩ := hA0 rfl
      rcases hown.2 with ⟨h0, _⟩ | ⟨g, cap2, cur, h0, hb0, hg, r1, r2, r3, r4⟩
      · rw [h0] at hm; cases hm; exact .inl ⟨rfl, rfl⟩
      · rw [h0] at hm; cases hm
        exact .inr ⟨g, rfl, cur, hg, r3, r2⟩
    have hob : (hd 0).ownBlock = (Value.slice A 0 cap).ownBlock := by
      obtain ⟨m, hm⟩ := hA0 rfl
      rw [hm]; cases A <;> rfl
    refine ⟨_, fun _ => [], (Value.slice A 0 cap).ownBlock.toList, rfl, rfl, Tp.refl _, rfl, Nat.le_refl _, fun k _ _ => rfl, ?_, fun _ _ => rfl, by simp, ?_, ?_, ?_, by simp, by simp⟩
    · intro i R' hR' hk
      cases i with
      | zero => cases hk
      | succ i => simp at hR'
    · simp only [repR, rep]
      refine ⟨[], [], ⟨rfl, ?_⟩, by simp [sdL, repLL], by simp⟩
      rcases hA0' with ⟨rfl, rfl⟩ | ⟨b, rfl, cur, h1, h2, h3⟩
      · exact .inl ⟨rfl, rfl⟩
      · exact .inr ⟨b, cap, cur, rfl, Nat.zero_le _, h1, Nat.zero_le _, h3, h2, by simp [sdL]⟩
    · cases A <;> simp [Value.ownBlock]
    · intro b hb
      rw [← hob] at hb
      have hm : b ∈ fp 0 := by rw [hfp]; exact List.mem_append_left _ hb
      exact ⟨.inl ⟨0, hm⟩, ownsRow_lt hown b hb⟩
  · rcases hown.2 with ⟨_, h0⟩ | ⟨g, cap2, cur, h0, hbase, hg, r1, r2, r3, r4⟩
    · exact absurd h0 hn
    · obtain ⟨b, m, c, hh, rfl⟩ := hA (by omega)
      rw [h0] at hh
      cases hh
      obtain ⟨m2, hm2⟩ := hA0 rfl
      rw [h0] at hm2
      cases hm2
      simp only [Nat.zero_mul, Nat.mul_one] at *
      have hH := holds_block hvl hg r4
      have hgl : g < w.heap.size := (Array.getElem?_eq_some_iff.1 hg).1
      have hgf : g ∉ fs.flatten := by
        rw [hfp, h0] at hnd
        simp only [Value.ownBlock, Option.toList, List.cons_append, List.nil_append, List.nodup_cons] at hnd
        exact hnd.1
      have hfn : fs.flatten.Nodup := by
        rw [hfp, h0] at hnd
        simp only [Value.ownBlock, Option.toList, List.cons_append, List.nil_append, List.nodup_cons] at hnd
        exact hnd.2
      have hflt : ∀ b ∈ fs.flatten, b < w.heap.size := repLL_lt 1 _ _ _ hrep
      have hone : ∀ i, (vAtL vs i).oneCell' = true := fun i => by
        by_cases hi : i < ls.length
        · exact (hel i hi).2
        · rw [vAtL, List.getD_eq_getElem?_getD, List.getElem?_eq_none (by omega)]; rfl
      have hblk : ∀ (dk : Array Nat) (W : World), SW (vAtL vs) w g 0 dk W → ∀ b, b ≠ g → b < w.heap.size → W.heap[b]? = w.heap[b]? := by
        rintro dk W ⟨q, os, rfl⟩ b hb hl
        unfold sortWorld
        rw [heap_grow_old _ _ (by rw [Go.Sort.size_putRow]; exact hl)]
        show (w.heap.modify g _)[b]? = _
        rw [Array.getElem?_modify, if_neg (fun e => hb e.symm)]
      have hown2 : ∀ (dk : Array Nat) (W : World), SW (vAtL vs) w g 0 dk W → ∀ i, i < ls.length → rep W NS (.own T2 1 (intR' (cAtL ls i))) (vAtL vs i) (fs.getD i []) := fun dk W hW i hi =>
        rep_frame _ _ _ (hel i hi).1 (fun _ h => h) (fun _ h => h.elim) (fun b hb => hblk dk W hW b (fun e => hgf (e ▸ mem_getD_flatten hb)) (hflt b (mem_getD_flatten hb)))
      have hro : ∀ (dk : Array Nat) (W : World), SW (vAtL vs) w g 0 dk W → dk.size = ls.length → ∀ i, rep W (fun b => b < W.heap.size) (.ro 1 (intR' (cAtL ls i))) (vAtL vs i) [] := by
        intro dk W hW _ i
        by_cases hi : i < ls.length
        · have := rep_frz (S2 := fun b => b < W.heap.size) _ _ _ (hown2 dk W hW i hi) (fun _ h => h.elim) (fun b hb => rep_lt _ _ _ (hown2 dk W hW i hi) b hb)
          simpa only [frz, frz_intR] using this
        · rw [vAtL, cAtL, List.getD_eq_getElem?_getD, List.getElem?_eq_none (by omega), List.getD_eq_getElem?_getD, List.getElem?_eq_none (by omega)]
          simp only [Option.getD_none, intR', List.map_nil, rep]
          exact ⟨trivial, none, 0, rfl, Nat.le_refl _, .inl trivial⟩
      have hlen : ∀ i, (cAtL ls i).length < 1099511627776 := fun i => by
        by_cases hi : i < ls.length
        · rw [cAtL, List.getD_eq_getElem?_getD, List.getElem?_eq_getElem hi]; exact hzz _ (List.getElem_mem hi)
        · rw [cAtL, List.getD_eq_getElem?_getD, List.getElem?_eq_none (by omega)]; simp
      have hnil : vAtL vs ls.length = nilV := by rw [vAtL, List.getD_eq_getElem?_getD, List.getElem?_eq_none (by omega)]; rfl
      have := hc.2 (vAtL vs) (cAtL ls) g cap ls.length w hone hH hgl (by omega) hz r1 hnil hlen hro
      rw [e3]
      refine Calls.mono this ?_
      rintro e w' ⟨K, rfl, hK1, hK2, hK3, hSW⟩
      rw [cAt_range] at hK1
      have hKl : K.length ≤ ls.length := nd_len _ _ hK2 hK3
      have hf0 : fp 0 = g :: fs.flatten := by rw [hfp, h0]; rfl
      obtain ⟨q, os, rfl⟩ := id hSW
      have hsz' : w.heap.size ≤ (sortWorld (vAtL vs) w g 0 q (K ++ List.replicate (ls.length - K.length) ls.length).toArray os).heap.size := hSW.le
      have hKf : ∀ b ∈ (K.map fun i => fs.getD i []).flatten, b ∈ fs.flatten := fun b hb => by
        obtain ⟨l, hl, hb⟩ := List.mem_flatten.1 hb
        obtain ⟨i, _, rfl⟩ := List.mem_map.1 hl
        exact mem_getD_flatten hb
      refine ⟨_, fun _ => [], g :: (K.map fun i => fs.getD i []).flatten, rfl, rfl, ⟨rfl, Nat.le_add_right _ _⟩, rfl, hsz', fun k hk hn2 => hblk _ _ hSW k (fun e => hn2 0 (by rw [hf0, e]; exact List.mem_cons_self)) hk, ?_, fun _ _ => rfl, by simp, ?_, ?_, ?_, by simp, by simp⟩
      · intro i R' hR' hk
        cases i with
        | zero => cases hk
        | succ i => simp at hR'
      · simp only [repR, rep]
        refine ⟨K.map (vAtL vs), (K.map fun i => fs.getD i []).flatten, ?_, ?_, rfl⟩
        · have e5 : ((sdL ls).map fun x => [AV.own T2 1 (intR' x)]).length = K.length := by rw [List.length_map, ← hK1, List.length_map]
          rw [e5]
          refine ⟨by simp, .inr ⟨g, cap, _, rfl, Nat.zero_le _, heap_sorted hg hgl, by omega, r2, by simp [putCells, r3], ?_⟩⟩
          rw [Nat.mul_one]
          exact take_putCells_K (by omega)
        · rw [← hK1]
          exact repLL_mk hone K fun i hi => hown2 _ _ hSW i (hK3 i hi)
      · rw [List.nodup_cons]
        exact ⟨fun h => hgf (hKf g h), nodup_pick hfn hK2⟩
      · intro b hb
        have : b ∈ fp 0 := by
          rw [hf0]
          rcases List.mem_cons.1 hb with rfl | hb
          · exact List.mem_cons_self
          · exact List.mem_cons_of_mem _ (hKf b hb)
        refine ⟨.inl ⟨0, this⟩, Nat.lt_of_lt_of_le ?_ hsz'⟩
        rw [hf0] at this
        rcases List.mem_cons.1 this with rfl | h
        · exact hgl
        · exact hflt b h
/-- a place is kept: no equal one right ahead of it -/
def kpE (eqf : Nat → Nat → Bool) (d : Array Nat) (j : Nat) : Bool := j == 0 || !(eqf d[j]! d[j - 1]!)
theorem SW.set {enc : Nat → Value} {w0 W : World} {g off : Nat} {dk : Array Nat} (h : SW enc w0 g off dk W) (hg : g < w0.heap.size) (i u : Nat) (hi : i < dk.size) : SW enc w0 g off (dk.setIfInBounds i u) (W.setCell ⟨g, off + i, none⟩ (enc u)) := by
  obtain ⟨n, os, rfl⟩ := h
  refine ⟨n, os, ?_⟩
  unfold sortWorld
  rw [← putRow_grow enc (Sort.ahead w0 n) os g off dk hg, putRow_set enc _ g off dk i u hi, putRow_grow enc (Sort.ahead w0 n) os g off _ hg]
theorem SW.sets {enc : Nat → Value} {w0 W : World} {g off : Nat} {dk : Array Nat} (h : SW enc w0 g off dk W) (hg : g < w0.heap.size) (k : Nat) (xs : List Nat) (hi : k + xs.length ≤ dk.size) : SW enc w0 g off (Lib.lay dk k xs) (W.setCells g (off + k) (xs.map enc)) := by
  obtain ⟨n, os, rfl⟩ := h
  refine ⟨n, os, ?_⟩
  unfold sortWorld
  rw [setCells_grow os g _ _ _ (by simpa using hg), Lib.putRow_setCells enc _ g off xs dk k hi]
theorem sortNone {P : Program} {ρ : Ren} (L : SlLaysF.n6 P ρ) (p : Option Addr) (cap : Nat) (fv : Value) (w : World) : Calls P (ρ.f 6) #[.slice p 0 cap, fv] w fun e w' => e = .returned (.tuple #[]) ∧ w' = w := AnyF.slices_SortFunc_none (P := P) (ρ := ρ) { L with } p cap fv w
theorem kept_map {kp : Nat → Bool} {d : Array Nat} {m : Nat} : Lib.keptUpTo kp d m = ((List.range m).filter kp).map (d[·]!) := rfl
/-- sorted rows, repetitions struck -/
theorem compact_sd {con : Nat → List Int} {n : Nat} {d : Array Nat} (hp : PermIn 0 n (Array.range n) d) (hs : SortedIn (ltOf fun i j => cmpL (con i) (con j)) 0 n d) :
    d.size = n ∧ (Lib.keptUpTo (kpE (fun i j => con i == con j) d) d d.size).map con = sdL ((List.range n).map con) ∧ (Lib.keptUpTo (kpE (fun i j => con i == con j) d) d d.size).Nodup ∧ ∀ i ∈ Lib.keptUpTo (kpE (fun i j => con i == con j) d) d d.size, i < n := by
  obtain ⟨h1, _, h3⟩ := hp
  have hsz : d.size = n := by rw [h1, Array.size_range]
  have h4 : d.toList.Perm (List.range n) := by
    have e1 : (d.extract 0 n).toList = d.toList := by rw [← hsz]; simp
    have e2 : ((Array.range n).extract 0 n).toList = List.range n := by
      have : (Array.range n).extract 0 n = Array.range n := by
        have h := Array.extract_size (xs := Array.range n)
        rwa [Array.size_range] at h
      rw [this, Array.toList_range]
    rwa [e1, e2] at h3
  have hdl : d.toList = (List.range d.size).map (d[·]!) := (Lib.range_map_get d).symm
  have hat : ∀ j, j < n → d[j]! ∈ d.toList := fun j hj => by rw [hdl]; exact List.mem_map.2 ⟨j, List.mem_range.2 (by omega), rfl⟩
  have hle : ∀ i j, i < j → j < n → ltL (con d[j]!) (con d[i]!) = false := fun i j hij hj => hs i j (Nat.zero_le _) hij hj
  have hmem : ∀ i, i ∈ Lib.keptUpTo (kpE (fun i j => con i == con j) d) d d.size → i ∈ d.toList := by
    intro i hi
    rw [kept_map] at hi
    obtain ⟨j, hj, rfl⟩ := List.mem_map.1 hi
    exact hat j (by have := List.mem_range.1 (List.mem_filter.1 hj).1; omega)
  refine ⟨hsz, ?_, ?_, ?_⟩
  · refine rise_eq _ _ ?_ (sdL_rise _) fun z => ?_
    · rw [kept_map, List.map_map, List.pairwise_map]
      refine List.Pairwise.imp_of_mem (R := fun a b => a < b) ?_ (List.pairwise_lt_range.filter _)
      intro a b ha hb hab
      obtain ⟨hb1, hb2⟩ := List.mem_filter.1 hb
      have hbn := List.mem_range.1 hb1
      simp only [kpE, Bool.or_eq_true, beq_iff_eq, Bool.not_eq_true', beq_eq_false_iff_ne] at hb2
      have hne : con d[b]! ≠ con d[b - 1]! := by
        rcases hb2 with h | h
        · omega
        · exact h
      have h1 : ltL (con d[b - 1]!) (con d[b]!) = true := by
        rcases ltL_n (hle (b - 1) b (by omega) (by omega)) with h | h
        · exact absurd h.symm hne
        · exact h
      by_cases e : a = b - 1
      · subst e; exact h1
      · rcases ltL_n (hle a (b - 1) (by omega) (by omega)) with h | h
        · show ltL (con d[a]!) (con d[b]!) = true
          rw [h]; exact h1
        · exact ltL_trans h h1
    · rw [mem_sdL]
      constructor
      · intro hz
        obtain ⟨i, hi, rfl⟩ := List.mem_map.1 hz
        exact List.mem_map.2 ⟨i, (h4.mem_iff).1 (hmem i hi), rfl⟩
      · intro hz
        obtain ⟨i, hi, rfl⟩ := List.mem_map.1 hz
        have hi2 := (h4.mem_iff).2 hi
        rw [hdl] at hi2
        obtain ⟨j, hj, rfl⟩ := List.mem_map.1 hi2
        have key : ∀ j, j < d.size → ∃ k, k < d.size ∧ kpE (fun i j => con i == con j) d k = true ∧ con d[k]! = con d[j]! := by
          intro j
          induction j with
          | zero => intro h; exact ⟨0, h, rfl, rfl⟩
          | succ j ih =>
            intro h
            by_cases e : con d[j + 1]! = con d[j]!
            · obtain ⟨k, k1, k2, k3⟩ := ih (by omega)
              exact ⟨k, k1, k2, by rw [k3, e]⟩
            · refine ⟨j + 1, h, ?_, rfl⟩
              simp [kpE, e]
        obtain ⟨k, k1, k2, k3⟩ := key j (List.mem_range.1 hj)
        rw [kept_map, List.map_map]
        exact List.mem_map.2 ⟨k, List.mem_filter.2 ⟨List.mem_range.2 k1, k2⟩, k3⟩
  · have hsub : (Lib.keptUpTo (kpE (fun i j => con i == con j) d) d d.size).Sublist d.toList := by
      rw [hdl, kept_map]
      exact List.filter_sublist.map _
    exact (h4.nodup_iff.2 List.nodup_range).sublist hsub
  · intro i hi
    exact List.mem_range.1 (h4.mem_iff.1 (hmem i hi))
end Go.T

/- Plain facts about the words that the printed functions are made of; no condition. -/

set_option linter.unusedVariables false
namespace Go.T
open Go

theorem w64_id {n : Int} (h : -9223372036854775808 ≤ n ∧ n < 9223372036854775808) : w64 n = n := by
  show IntKind.i64.wrap n = n
  rw [IntKind.wrap_i64]; omega
theorem w64_s {k : Nat} (h : k < 4611686018427387904) : w64 ((k : Int) + 1) = ((k + 1 : Nat) : Int) := by rw [w64_id (by omega)]; omega
theorem w64_p {k : Nat} (h : k < 4611686018427387904) : w64 ((k : Int) - 1) = (k : Int) - 1 := by rw [w64_id (by omega)]
section
variable {α β : Type}
theorem rd_at {l : List α} {k : Nat} (h : k < l.length) : rd l (k : Int) = some l[k] := by simp [rd, h]
theorem rd_nat {l : List α} {k : Nat} : rd l (k : Int) = l[k]? := by simp [rd]
theorem rd_eq {l : List α} {i : Int} {x : α} (h0 : 0 ≤ i) (h : l[i.toNat]? = some x) : rd l i = some x := by simp [rd, h0, h]
theorem rdv_at {k : Nat} {v : Vector α k} {i : Nat} (h : i < k) : rdv v (i : Int) = some v[i] := by simp [rdv, h]
theorem rdv_ok {k : Nat} {v : Vector α k} {i : Int} (h0 : 0 ≤ i) (h : i.toNat < k) : rdv v i = some v[i.toNat] := by simp [rdv, h0, h]
theorem app_ok {a b : List α} (h : a.length + b.length < 1099511627776) : app a b = some (a ++ b) := by simp [app, h]
theorem mk_ok {z : α} {n : Nat} (h : n < 1099511627776) : mk z (n : Int) = some (List.replicate n z) := by
  unfold mk; rw [if_pos (by omega)]; rfl
theorem slc_take {l : List α} {k : Nat} (h : k ≤ l.length) : slc l 0 (k : Int) = some (l.take k) := by
  unfold slc; rw [if_pos (by omega)]; simp [List.take_of_length_le]
theorem slc_drop {l : List α} {k : Nat} (h : k ≤ l.length) : slc l (k : Int) (l.length : Int) = some (l.drop k) := by
  unfold slc; rw [if_pos (by omega)]; simp [List.take_of_length_le]
theorem sameLen_ok {a b : List α} (h : b.length = a.length) : sameLen a b = some () := by simp [sameLen, h]
theorem ltD {a b : Nat} : (decide ((a : Int) < (b : Int))) = decide (a < b) := by
  by_cases h : a < b
  · rw [decide_eq_true (by omega), decide_eq_true h]
  · rw [decide_eq_false (by omega), decide_eq_false h]
end
/-- the fuel of a loop that counts a list's places -/
theorem FU_gt {n : Nat} (h : n < 1099511627776) : n < FU := by rw [FU_eq]; omega
theorem FU_gt0 {n : Nat} (h : n < 4611686018427387904) : n < FU := by rw [FU_eq]; omega
/-- a list by its places -/
def tbl {α : Type} (f : Nat → α) (n : Nat) : List α := (List.range n).map f
section
variable {α : Type} {f g : Nat → α} {n : Nat}
theorem tbl_len : (tbl f n).length = n := by simp [tbl]
theorem tbl_rd {k : Nat} (h : k < n) : rd (tbl f n) (k : Int) = some (f k) := by rw [rd_nat]; simp [tbl, h]
theorem tbl_get {k : Nat} (h : k < n) : (tbl f n)[k]? = some (f k) := by simp [tbl, h]
theorem tbl_congr (h : ∀ k, k < n → f k = g k) : tbl f n = tbl g n := List.map_congr_left (fun k hk => h k (List.mem_range.1 hk))
theorem tbl_set {i : Nat} {x : α} : (tbl f n).set i x = tbl (fun j => if j = i then x else f j) n := by
  apply List.ext_getElem?
  intro k
  rw [List.getElem?_set]
  by_cases hk : k < n
  · rw [tbl_get hk, tbl_get hk, tbl_len]
    by_cases h : i = k
    · subst h; simp [hk]
    · have h' : ¬ k = i := fun e => h e.symm
      simp [h, h']
  · have h1 : (tbl f n)[k]? = none := List.getElem?_eq_none (by rw [tbl_len]; omega)
    have h2 : (tbl (fun j => if j = i then x else f j) n)[k]? = none := List.getElem?_eq_none (by rw [tbl_len]; omega)
    rw [h1, h2, tbl_len]
    split <;> simp; omega
theorem tbl_rep {x : α} : List.replicate n x = tbl (fun _ => x) n := by
  apply List.ext_getElem?
  intro k
  by_cases hk : k < n
  · rw [tbl_get hk]; simp [hk]
  · rw [List.getElem?_eq_none (by simp; omega), List.getElem?_eq_none (by rw [tbl_len]; omega)]
/-- one of the numbers from a on, m of them -/
def exi (f : Nat → Bool) (a : Nat) : Nat → Bool
  | 0 => false
  | m + 1 => f a || exi f (a + 1) m
theorem exi_congr {f g : Nat → Bool} : ∀ (m a : Nat), (∀ k, a ≤ k → k < a + m → f k = g k) → exi f a m = exi g a m
  | 0, a, h => rfl
  | m + 1, a, h => by rw [exi, exi, h a (by omega) (by omega), exi_congr m (a + 1) (fun k h1 h2 => h k (by omega) (by omega))]
theorem exi_true {f : Nat → Bool} : ∀ (m a : Nat), exi f a m = true ↔ ∃ k, a ≤ k ∧ k < a + m ∧ f k = true
  | 0, a => by simp [exi]; intro k h1 h2; omega
  | m + 1, a => by
    rw [exi, Bool.or_eq_true, exi_true m (a + 1)]
    constructor
    · rintro (h | ⟨k, h1, h2, h3⟩)
      · exact ⟨a, Nat.le_refl _, by omega, h⟩
      · exact ⟨k, by omega, by omega, h3⟩
    · rintro ⟨k, h1, h2, h3⟩
      by_cases h : k = a
      · subst h; exact .inl h3
      · exact .inr ⟨k, by omega, by omega, h3⟩
end
theorem PS : (∀ {a b : Nat}, decide ((a : Int) < (b : Int)) = decide (a < b)) ∧ (∀ (h : Decidable True), @decide True h = true) ∧ (∀ (h : Decidable False), @decide False h = false)
    ∧ (∀ {β : Type} (h : Decidable True) (x y : β), @ite β True h x y = x) ∧ (∀ {β : Type} (h : Decidable False) (x y : β), @ite β False h x y = y) ∧ ((false = true) = False) ∧ ((true = false) = False)
    ∧ (∀ {α β : Type} (a : α) (f : α → Option β), (some a).bind f = f a) ∧ ((!true) = false) ∧ ((!false) = true) ∧ (∀ n : Nat, ((n : Int)).toNat = n) ∧ (∀ {α : Type} [BEq α] [LawfulBEq α] (a : α), (a == a) = true) ∧ (∀ {α : Type} [BEq α] [LawfulBEq α] (a : α), (a != a) = false) :=
  ⟨ltD, fun h => decide_true h, fun h => decide_false h, fun h x y => if_pos trivial, fun h x y => if_neg id, Bool.false_eq_true, Bool.true_eq_false, fun a f => rfl, rfl, rfl, Int.toNat_natCast, fun a => beq_self_eq_true a, fun a => bne_self_eq_false a⟩
end Go.T
