/- Lemmas for FnExactAddPairs; no condition. -/

import Derived.Test.YtihgcgccajikpaaBN
import Derived.KernelRfl
import Derived.Laws.StructEq
import Derived.Laws.Externs
import Derived.ChangeKeysEq
set_option linter.unusedVariables false
namespace Go.T
open Go Go.RowKit Go.Proofs

abbrev I (n : Int) : AV := .lit (.int .i64 n)
abbrev IK (k : IntKind) (n : Int) : AV := .lit (.int k n)
abbrev B (b : Bool) : AV := .lit (.bool b)
abbrev w64 (n : Int) : Int := IntKind.i64.wrap n
/-- how many rounds a loop may have -/
theorem FU_ex : ∃ n : Nat, n = 4611686018427387904 := ⟨_, rfl⟩
noncomputable def FU : Nat := FU_ex.choose
theorem FU_eq : FU = 4611686018427387904 := FU_ex.choose_spec

theorem bnS {α β : Type} {o : Option α} {f : α → Option β} {r : β} (h : o.bind f = some r) : ∃ x, o = some x ∧ f x = some r := by
  cases o with
  | none => simp at h
  | some x => exact ⟨x, rfl, h⟩
theorem itS {β : Type} {b : Bool} {x y : Option β} {r : β} (h : (if b = true then x else y) = some r) : (b = true ∧ x = some r) ∨ (b = false ∧ y = some r) := by
  cases b
  · right; exact ⟨rfl, by simpa using h⟩
  · left; exact ⟨rfl, by simpa using h⟩

open Classical in
noncomputable def both {α : Type} (x y : Option α) : Option α := if x = y then x else none
theorem both_self {α : Type} (x : Option α) : both x x = x := if_pos rfl
theorem bothE {α : Type} {x y : Option α} {r : α} (h : both x y = some r) : x = some r ∧ y = some r := by
  unfold both at h
  split at h
  · rename_i e; subst e; exact ⟨h, h⟩
  · cases h
/-- a row is held against nil: where it is empty, both ways come to one -/
noncomputable def nilS {α β : Type} (xs : List α) (X Y : Option β) : Option β := if xs.isEmpty = true then both X Y else Y
theorem nilSE {α β : Type} {xs : List α} {X Y : Option β} {r : β} (h : nilS xs X Y = some r) : (xs = [] → X = some r) ∧ Y = some r := by
  unfold nilS at h
  split at h
  · obtain ⟨h1, h2⟩ := bothE h; exact ⟨fun _ => h1, h2⟩
  · rename_i hn; exact ⟨fun e => by subst e; exact absurd rfl hn, h⟩
abbrev Str := List UInt8
def sK (l : Str) : ByteArray := ⟨l.toArray⟩
abbrev SK (l : Str) : AV := .lit (.string (sK l))
abbrev FK (n : Nat) : AV := .lit (.float .f64 n)
def nz (b : Int) : Option Unit := if b = 0 then none else some ()
theorem nzE {b : Int} {u : Unit} (h : nz b = some u) : b ≠ 0 := by unfold nz at h; split at h; cases h; assumption
def ge0 (b : Int) : Option Unit := if b < 0 then none else some ()
theorem ge0E {b : Int} {u : Unit} (h : ge0 b = some u) : ¬ b < 0 := by unfold ge0 at h; split at h; cases h; assumption
def ixor (k : IntKind) (a b : Int) : Int := k.wrap (BitVec.ofInt k.bits a ^^^ BitVec.ofInt k.bits b).toNat
def iandn (k : IntKind) (a b : Int) : Int := k.wrap (BitVec.ofInt k.bits a &&& ~~~BitVec.ofInt k.bits b).toNat
def iand (k : IntKind) (a b : Int) : Int := k.wrap (BitVec.ofInt k.bits a &&& BitVec.ofInt k.bits b).toNat
def ior (k : IntKind) (a b : Int) : Int := k.wrap (BitVec.ofInt k.bits a ||| BitVec.ofInt k.bits b).toNat
def imax (a b : Int) : Int := if b > a then b else a
def imin (a b : Int) : Int := if b < a then b else a

/- reading -/
def rd {α : Type} (l : List α) (i : Int) : Option α := if 0 ≤ i then l[i.toNat]? else none
section
variable {α β : Type} {l : List α} {i : Int} {e : α}
theorem rd0 (h : rd l i = some e) : 0 ≤ i := by unfold rd at h; split at h; assumption; cases h
theorem rdE (h : rd l i = some e) : l[i.toNat]? = some e := by unfold rd at h; split at h; exact h; cases h
theorem rdM (f : α → β) (h : rd l i = some e) : (l.map f)[i.toNat]? = some (f e) := by rw [List.getElem?_map, rdE h]; rfl
theorem rdL (f : α → β) (h : rd l i = some e) : i < ((l.map f).length : Int) := by
  have h1 := rd0 h
  have h2 := (List.getElem?_eq_some_iff.1 (rdE h)).1
  rw [List.length_map]
  omega
theorem setM (f : α → β) {y : α} : (l.map f).set i.toNat (f y) = (l.set i.toNat y).map f := List.map_set.symm
theorem setMr (f : α → β) {y : α} {ys : β} (h : ys = f y) : (l.map f).set i.toNat ys = (l.set i.toNat y).map f := by rw [h]; exact List.map_set.symm
/-- reading a cut of a row: its start, its length, the place in it -/
def rdc (l : List α) (o n : Nat) (i : Int) : Option α := if 0 ≤ i ∧ i < (n : Int) then l[addO o i.toNat]? else none
theorem rdc0 {o n : Nat} (h : rdc l o n i = some e) : 0 ≤ i := by unfold rdc at h; split at h; rename_i h1; exact h1.1; cases h
theorem rdcL {o n : Nat} (h : rdc l o n i = some e) : i < (n : Int) := by unfold rdc at h; split at h; rename_i h1; exact h1.2; cases h
theorem rdcR {o n : Nat} (h : rdc l o n i = some e) : rd l ((addO o i.toNat : Nat) : Int) = some e := by
  unfold rdc at h; split at h
  · rw [rd, if_pos (Int.natCast_nonneg _), Int.toNat_natCast]; exact h
  · cases h
theorem rdcR0 {n : Nat} (h : rdc l 0 n i = some e) : rd l i = some e := by
  have h0 := rdc0 h
  unfold rdc at h; split at h
  · unfold rd; rw [if_pos h0]; simpa [addO] using h
  · cases h
theorem lnSet (f : α → β) {n : Nat} {y : α} : (l.map f).length = ((l.set n y).map f).length := by simp
theorem lnSet2 (f : α → β) {n m : Nat} {x y : α} : ((l.set n x).map f).length = ((l.set m y).map f).length := by simp
/- two rows of one root, open at once -/
theorem setN {xs : List β} {n m : Nat} {x y : β} (hne : n ≠ m) (h : xs[m]? = some x) : (xs.set n y)[m]? = some x := by rw [List.getElem?_set_ne hne]; exact h
theorem rdL1 (f : α → β) {n : Nat} {y : β} (h : rd l i = some e) : i < ((((l.map f).set n y).length : Nat) : Int) := by rw [List.length_set]; exact rdL f h
theorem rdL2 (f : α → β) {n m : Nat} {y z : β} (h : rd l i = some e) : i < (((((l.map f).set n y).set m z).length : Nat) : Int) := by rw [List.length_set, List.length_set]; exact rdL f h
theorem setP2 (f : α → β) {x1 x2 : β} {y : α} {n m : Nat} (hne : n ≠ m) : ((((l.map f).set n x1).set m x2).set m (f y)) = ((l.set m y).map f).set n x1 := by
  rw [List.set_set, List.set_comm _ _ hne, List.map_set]
theorem setP1 (f : α → β) {x1 x2 : β} {y : α} {n m : Nat} (hne : n ≠ m) : ((((l.map f).set n x1).set m x2).set n (f y)) = ((l.set n y).map f).set m x2 := by
  rw [List.set_comm _ _ (Ne.symm hne), List.set_set, List.map_set]
theorem set_id {n : Nat} {y : β} {l : List β} (h : l[n]? = some y) : l.set n y = l := by
  apply List.ext_getElem?
  intro k
  rw [List.getElem?_set]
  split
  · rename_i e; subst e
    split
    · exact h.symm
    · rename_i h2; rw [List.getElem?_eq_none (by omega)] at h; cases h
  · rfl
theorem setPi (f : α → β) {x : β} {y : α} (h : rd l i = some y) : ((l.map f).set i.toNat x).set i.toNat (f y) = l.map f := by
  rw [List.set_set, ← List.map_set, set_id (rdE h)]
theorem setP2i (f : α → β) {x1 x2 : β} {y : α} {n : Nat} (hne : n ≠ i.toNat) (h : rd l i = some y) : ((((l.map f).set n x1).set i.toNat x2).set i.toNat (f y)) = (l.map f).set n x1 := by
  rw [setP2 f hne, set_id (rdE h)]
theorem setP1i (f : α → β) {x1 x2 : β} {y : α} {m : Nat} (hne : i.toNat ≠ m) (h : rd l i = some y) : ((((l.map f).set i.toNat x1).set m x2).set i.toNat (f y)) = (l.map f).set m x2 := by
  rw [setP1 f hne, set_id (rdE h)]
def neI (i j : Int) : Option Unit := if i = j then none else some ()
theorem neN {a b : Int} {u : Unit} (h : neI a b = some u) (ha : 0 ≤ a) (hb : 0 ≤ b) : a.toNat ≠ b.toNat := by
  unfold neI at h
  split at h
  · cases h
  · omega
theorem rdSN {j : Int} {x : α} {y : α} (hne : i.toNat ≠ j.toNat) (h : rd l j = some x) : rd (l.set i.toNat y) j = some x := by
  unfold rd at h ⊢
  split at h
  · rename_i h0; rw [if_pos h0, List.getElem?_set_ne hne]; exact h
  · cases h
theorem rok {π : List (Nat × Nat)} {xs : List (List AV)} (h : treeLL xs = true) : RenOK π xs := .inl h
theorem renSet {π : List (Nat × Nat)} {xs : List (List AV)} {n : Nat} {x : List AV} (h : RenOK π xs) (hx : renL π x = x) : RenOK π (xs.set n x) := .inr (by
  have h1 := h.eq
  unfold renLL at h1 ⊢
  rw [List.map_set, h1, hx])
theorem setSS (f : α → β) {x y : α} {ys : β} (h : ys = f y) : ((l.set i.toNat x).map f).set i.toNat ys = (l.set i.toNat y).map f := by rw [h, ← List.map_set, List.set_set]
theorem rdS {x y : α} (h : rd l i = some x) : rd (l.set i.toNat y) i = some y := by
  unfold rd at h ⊢
  split at h
  · rename_i h0
    rw [if_pos h0, List.getElem?_set_self (List.getElem?_eq_some_iff.1 h).1]
  · cases h
theorem pkS {j a b : Nat} (h : a = b) : some (AV.sl j 0 a) = some (AV.sl j 0 b) := by rw [h]
theorem setE {y : β} {xs : List β} {n : Nat} {x : β} (h : xs[n]? = some x) : (xs.set n y)[n]? = some y := by
  have := (List.getElem?_eq_some_iff.1 h).1
  rw [List.getElem?_set_self this]
theorem lenM (f : α → β) : AV.lit (.int .i64 ((l.map f).length : Nat)) = AV.lit (.int .i64 (l.length : Nat)) := by rw [List.length_map]
/- appending -/
def app (l1 l2 : List α) : Option (List α) := if l1.length + l2.length < 1099511627776 then some (l1 ++ l2) else none
variable {l1 l2 : List α}
theorem appE (h : app l1 l2 = some l) : l1 ++ l2 = l := by unfold app at h; split at h; cases h; rfl; cases h
theorem appLt (h : app l1 l2 = some l) : l.length < 1099511627776 := by
  unfold app at h; split at h
  · cases h; rw [List.length_append]; assumption
  · cases h
theorem appT (f : α → β) (h : app l1 l2 = some l) : (l1.map f).take (l1.map f).length ++ l2.map f = l.map f := by
  rw [List.take_length, ← appE h, List.map_append]
theorem appN (f : α → β) (h : app [] l2 = some l) : [] ++ l2.map f = l.map f := by
  rw [← appE h, List.map_append]; rfl
theorem appB (f : α → β) (h : app l1 l2 = some l) {b : Nat} (hb : b ≤ 128) : (l.map f).length * b ≤ 140737488355328 := by
  have := appLt h
  rw [List.length_map]
  calc l.length * b ≤ 1099511627776 * 128 := Nat.mul_le_mul (by omega) hb
    _ = 140737488355328 := rfl
theorem appC (f : α → β) (h : app l1 l2 = some l) : (l.map f).length ≤ 140737488355328 := by
  have := appLt h
  rw [List.length_map]; omega
theorem plM {f : α → List AV} (h : ∀ x, (f x).all AV.plain = true) : (l.map f).all (fun r => r.all AV.plain) = true := by
  rw [List.all_eq_true]
  intro y hy
  obtain ⟨x, _, rfl⟩ := List.mem_map.1 hy
  exact h x
theorem appTD (f : α → β) (h : app l1 l2 = some l) : (l1.map f).take (List.length (l1.map f)) ++ (((l2.map f).drop 0).take (List.length (l2.map f))) = l.map f := by
  rw [List.drop_zero, List.take_length, List.take_length, ← appE h, List.map_append]
theorem appND (f : α → β) (h : app [] l2 = some l) : [] ++ (((l2.map f).drop 0).take (List.length (l2.map f))) = l.map f := by
  rw [List.drop_zero, List.take_length, ← appE h, List.map_append]; rfl
theorem plD {f : α → List AV} (h : ∀ x, (f x).all AV.plain = true) {a n : Nat} : (((l.map f).drop a).take n).all (fun r => r.all AV.plain) = true := by
  rw [← List.map_drop, ← List.map_take]; exact plM h
/- an own row that comes to the end of another one -/
theorem apT (f : α → β) {x : β} : (l.map f).take (l.map f).length ++ [x] = l.map f ++ [x] := by rw [List.take_length]
theorem apB (f : α → β) {x : β} {y : α} {l' : List α} (h : app l [y] = some l') {b : Nat} (hb : b ≤ 128) : (l.map f ++ [x]).length * b ≤ 140737488355328 := by
  have := appB f h hb
  rw [← appE h, List.length_map, List.length_append] at this
  rw [List.length_append, List.length_map]; exact this
theorem apC (f : α → β) {x : β} {y : α} {l' : List α} (h : app l [y] = some l') : (l.map f ++ [x]).length ≤ 140737488355328 := by
  have := appC f h
  rw [← appE h, List.length_map, List.length_append] at this
  rw [List.length_append, List.length_map]; exact this
theorem apG (f : α → β) {x : β} : (l.map f ++ [x])[l.length]? = some x := by
  rw [List.getElem?_append_right (by simp)]; simp
theorem apS (f : α → β) {x : β} {y : α} {l' : List α} (h : app l [y] = some l') : (l.map f ++ [x]).set l.length (f y) = l'.map f := by
  rw [← appE h, List.set_append_right _ _ (by simp)]
  simp
theorem apLn (f : α → β) {x : β} {y : α} {l' : List α} (h : app l [y] = some l') : List.length (l.map f ++ [x]) = List.length (l'.map f) := by
  rw [← appE h]; simp
/- making -/
def mk (z : α) (n : Int) : Option (List α) := if 0 ≤ n ∧ n < 1099511627776 then some (List.replicate n.toNat z) else none
variable {n : Int} {z : α}
theorem mkI (h : mk z n = some l) : 0 ≤ n ∧ n < 1099511627776 ∧ List.replicate n.toNat z = l := by
  unfold mk at h; split at h
  · cases h; rename_i hh; exact ⟨hh.1, hh.2, rfl⟩
  · cases h
theorem mkM (f : α → β) (h : mk z n = some l) : List.replicate n.toNat (f z) = l.map f := by rw [← (mkI h).2.2, List.map_replicate]
theorem mk0 (h : mk z n = some l) : 0 ≤ n := (mkI h).1
theorem mkB (h : mk z n = some l) {b : Nat} (hb : b ≤ 128) : n * (b : Int) ≤ 140737488355328 := by
  obtain ⟨h1, h2, _⟩ := mkI h
  calc n * (b : Int) ≤ 1099511627776 * 128 := Int.mul_le_mul (by omega) (by omega) (by omega) (by omega)
    _ = 140737488355328 := rfl
theorem mkC (h : mk z n = some l) : n ≤ 140737488355328 := by have := (mkI h).2.1; omega
theorem mkS (f : α → β) (h : mk z n = some l) {id : Nat} : AV.sl id 0 n.toNat = AV.sl id 0 (List.length (l.map f)) := by
  rw [← (mkI h).2.2, List.length_map, List.length_replicate]
theorem apM (f : α → β) {x y : β} : (l.map f ++ [x]).set l.length y = l.map f ++ [y] := by
  rw [List.set_append_right _ _ (by simp)]; simp
theorem setPe (f : α → β) {x z : β} {y : α} {e : Nat} (h : z = f y) : ((l.map f).set e x).set e z = (l.set e y).map f := by rw [h, List.set_set, List.map_set]
theorem setP (f : α → β) {x : β} {y : α} {e : Nat} : ((l.map f).set e x).set e (f y) = (l.set e y).map f := by rw [List.set_set, List.map_set]
def sameLen (l l' : List α) : Option Unit := if l'.length = l.length then some () else none
theorem sameLenE (f : α → β) {l2 : List α} {u : Unit} (h : sameLen l l2 = some u) : (l2.map f).length = (l.map f).length := by
  unfold sameLen at h; split at h
  · rw [List.length_map, List.length_map]; assumption
  · cases h
/- cuts -/
def slc (l : List α) (lo hi : Int) : Option (List α) := if 0 ≤ lo ∧ lo ≤ hi ∧ hi ≤ (l.length : Int) then some ((l.drop lo.toNat).take (hi.toNat - lo.toNat)) else none
variable {lo hi : Int} {l' : List α}
theorem slI (h : slc l lo hi = some l') : 0 ≤ lo ∧ lo ≤ hi ∧ hi ≤ (l.length : Int) ∧ (l.drop lo.toNat).take (hi.toNat - lo.toNat) = l' := by
  unfold slc at h; split at h
  · cases h; rename_i hh; exact ⟨hh.1, hh.2.1, hh.2.2, rfl⟩
  · cases h
theorem slM (sz : Nat) (f : α → List AV) (h : slc l lo hi = some l') : AV.ro sz (((l.map f).drop lo.toNat).take (subO hi.toNat lo.toNat)) = AV.ro sz (l'.map f) := by
  rw [← (slI h).2.2.2, subO_eq, List.map_take, List.map_drop]
theorem slM0 (sz : Nat) (f : α → List AV) (h : slc l 0 hi = some l') : AV.ro sz (((l.map f).drop (0 : Int).toNat).take (subO hi.toNat (0 : Int).toNat)) = AV.ro sz (l'.map f) := slM sz f h
theorem slMe (sz : Nat) (f : α → List AV) (h : slc l lo (l.length : Int) = some l') : AV.ro sz (((l.map f).drop lo.toNat).take (subO ((((l.map f).length : Nat) : Int)).toNat lo.toNat)) = AV.ro sz (l'.map f) := by
  rw [List.length_map]; exact slM sz f h
theorem sl0 (h : slc l lo hi = some l') : 0 ≤ lo := (slI h).1
theorem sl1 (h : slc l lo hi = some l') : lo ≤ hi := (slI h).2.1
theorem sl2 (f : α → β) (h : slc l lo hi = some l') : hi ≤ ((l.map f).length : Int) := by rw [List.length_map]; exact (slI h).2.2.1
theorem sl1e (f : α → β) (h : slc l lo (l.length : Int) = some l') : lo ≤ ((l.map f).length : Int) := by rw [List.length_map]; exact (slI h).2.1
theorem winE (h : slc l lo hi = some l') : (l.drop lo.toNat).take (subO hi.toNat lo.toNat) = l' := by rw [subO_eq]; exact (slI h).2.2.2
theorem winM (f : α → β) (h : slc l lo hi = some l') : ((l.map f).drop lo.toNat).take (subO hi.toNat lo.toNat) = l'.map f := by
  rw [← List.map_drop, ← List.map_take, winE h]
theorem winM0 (f : α → β) (h : slc l 0 hi = some l') : ((l.map f).drop 0).take hi.toNat = l'.map f := by
  have := winM f h
  rw [subO_eq] at this
  simpa using this
theorem winMe (f : α → β) (h : slc l lo (l.length : Int) = some l') : ((l.map f).drop lo.toNat).take (subO ((((l.map f).length : Nat) : Int)).toNat lo.toNat) = l'.map f := by
  have := winM f h
  rw [List.length_map]; exact this
theorem winMe0 (f : α → β) (h : slc l 0 (l.length : Int) = some l') : ((l.map f).drop 0).take ((((l.map f).length : Nat) : Int)).toNat = l'.map f := by
  have := winM0 f h
  rw [List.length_map]; exact this
theorem winL (h : slc l lo hi = some l') : subO hi.toNat lo.toNat = l'.length := by
  obtain ⟨h1, h2, h3, h4⟩ := slI h
  rw [← h4, List.length_take, List.length_drop, subO_eq]; omega
theorem lenS (f : α → β) (h : slc l lo hi = some l') : AV.lit (.int .i64 ((subO hi.toNat lo.toNat : Nat) : Int)) = AV.lit (.int .i64 (l'.length : Int)) := by rw [winL h]
theorem lenS0 (f : α → β) (h : slc l 0 hi = some l') : AV.lit (.int .i64 ((hi.toNat : Nat) : Int)) = AV.lit (.int .i64 (l'.length : Int)) := by rw [← winL h, subO_eq]; simp
theorem lenSe (f : α → β) (h : slc l lo (l.length : Int) = some l') : AV.lit (.int .i64 ((subO ((((l.map f).length : Nat) : Int)).toNat lo.toNat : Nat) : Int)) = AV.lit (.int .i64 (l'.length : Int)) := by rw [List.length_map, winL h]
theorem lenSe0 (f : α → β) (h : slc l 0 (l.length : Int) = some l') : AV.lit (.int .i64 (((((l.map f).length : Nat) : Int).toNat : Nat) : Int)) = AV.lit (.int .i64 (l'.length : Int)) := by rw [← winL h, subO_eq, List.length_map]; simp
theorem appTDS (f : α → β) {l0 : List α} (h : app l0 l' = some l2) (hs : slc l lo hi = some l') : (l0.map f).take (List.length (l0.map f)) ++ (((l.map f).drop lo.toNat).take (subO hi.toNat lo.toNat)) = l2.map f := by
  rw [winM f hs, List.take_length, ← appE h, List.map_append]
theorem appTDS0 (f : α → β) {l0 : List α} (h : app l0 l' = some l2) (hs : slc l 0 hi = some l') : (l0.map f).take (List.length (l0.map f)) ++ (((l.map f).drop 0).take hi.toNat) = l2.map f := by
  rw [winM0 f hs, List.take_length, ← appE h, List.map_append]
theorem appTDSe (f : α → β) {l0 : List α} (h : app l0 l' = some l2) (hs : slc l lo (l.length : Int) = some l') : (l0.map f).take (List.length (l0.map f)) ++ (((l.map f).drop lo.toNat).take (subO ((((l.map f).length : Nat) : Int)).toNat lo.toNat)) = l2.map f := by
  rw [winMe f hs, List.take_length, ← appE h, List.map_append]
theorem appTDSe0 (f : α → β) {l0 : List α} (h : app l0 l' = some l2) (hs : slc l 0 (l.length : Int) = some l') : (l0.map f).take (List.length (l0.map f)) ++ (((l.map f).drop 0).take ((((l.map f).length : Nat) : Int)).toNat) = l2.map f := by
  rw [winMe0 f hs, List.take_length, ← appE h, List.map_append]
end
/- what is handed on, and back -/
section
variable {α : Type} {l : List α}
theorem frzF {o z : α → List AV} (ht : ∀ x, treeL (o x) = true) (hz : ∀ x, frzL (o x) = z x) : Frz (((l.map o).drop 0).take (l.map o).length) (l.map z) := by
  rw [List.drop_zero, List.take_length]
  refine ⟨?_, ?_⟩
  · rw [treeLL, List.all_eq_true]
    intro y hy
    obtain ⟨x, _, rfl⟩ := List.mem_map.1 hy
    exact ht x
  · rw [frzLL_map, List.map_map]
    refine List.map_congr_left fun x _ => ?_
    rw [← hz x, frzL_map]; rfl
theorem frzFL {o z : α → List AV} {n : Nat} (h : n = (l.map o).length) (ht : ∀ x, treeL (o x) = true) (hz : ∀ x, frzL (o x) = z x) : Frz (((l.map o).drop 0).take n) (l.map z) := by rw [h]; exact frzF ht hz
theorem frzW {o z : α → List AV} {a n : Nat} (ht : ∀ x, treeL (o x) = true) (hz : ∀ x, frzL (o x) = z x) : Frz (((l.map o).drop a).take n) (((l.drop a).take n).map z) := by
  have := frzF (l := (l.drop a).take n) ht hz
  rw [List.drop_zero, List.take_length, List.map_take, List.map_drop] at this
  exact this
theorem frzLLm {o z : α → List AV} (hz : ∀ x, frzL (o x) = z x) : frzLL (l.map o) = l.map z := by
  rw [frzLL_map, List.map_map]
  refine List.map_congr_left fun x _ => ?_
  rw [← hz x, frzL_map]; rfl
theorem treeM {o : α → List AV} (ht : ∀ x, treeL (o x) = true) : treeLL (l.map o) = true := by
  rw [treeLL, List.all_eq_true]
  intro y hy
  obtain ⟨x, _, rfl⟩ := List.mem_map.1 hy
  exact ht x
theorem treeT {o : α → List AV} (ht : ∀ x, treeL (o x) = true) : treeLL ((l.map o).take (l.map o).length) = true := by rw [List.take_length]; exact treeM ht
theorem takeM {o : α → List AV} : (l.map o).take (l.map o).length = l.map o := List.take_length
theorem treeB {o : α → List AV} (ht : ∀ x, treeL (o x) = true) (x : α) : treeLL [o x] = true := by
  simp only [treeLL, List.all_cons, List.all_nil, ht x, Bool.and_true]
theorem frzS {o z : α → List AV} {lo hi : Int} {l' : List α} (ht : ∀ x, treeL (o x) = true) (hz : ∀ x, frzL (o x) = z x) (h : slc l lo hi = some l') : Frz (((l.map o).drop lo.toNat).take (subO hi.toNat lo.toNat)) (l'.map z) := by
  have := frzF (l := l') ht hz
  rw [List.drop_zero, List.take_length] at this
  rw [winM o h]; exact this
theorem frzS0 {o z : α → List AV} {hi : Int} {l' : List α} (ht : ∀ x, treeL (o x) = true) (hz : ∀ x, frzL (o x) = z x) (h : slc l 0 hi = some l') : Frz (((l.map o).drop 0).take hi.toNat) (l'.map z) := by
  have := frzF (l := l') ht hz
  rw [List.drop_zero, List.take_length] at this
  rw [winM0 o h]; exact this
theorem frzSe {o z : α → List AV} {lo : Int} {l' : List α} (ht : ∀ x, treeL (o x) = true) (hz : ∀ x, frzL (o x) = z x) (h : slc l lo (l.length : Int) = some l') : Frz (((l.map o).drop lo.toNat).take (subO ((((l.map o).length : Nat) : Int)).toNat lo.toNat)) (l'.map z) := by
  have := frzF (l := l') ht hz
  rw [List.drop_zero, List.take_length] at this
  rw [winMe o h]; exact this
theorem frzSe0 {o z : α → List AV} {l' : List α} (ht : ∀ x, treeL (o x) = true) (hz : ∀ x, frzL (o x) = z x) (h : slc l 0 (l.length : Int) = some l') : Frz (((l.map o).drop 0).take ((((l.map o).length : Nat) : Int)).toNat) (l'.map z) := by
  have := frzF (l := l') ht hz
  rw [List.drop_zero, List.take_length] at this
  rw [winMe0 o h]; exact this
theorem treeW0 {o : α → List AV} {hi : Int} {l' : List α} (ht : ∀ x, treeL (o x) = true) (h : slc l 0 hi = some l') : treeLL ((l.map o).take hi.toNat) = true := by
  have := winM0 o h
  rw [List.drop_zero] at this
  rw [this]; exact treeM ht
theorem winT0 (o : α → List AV) {hi : Int} {l' : List α} (h : slc l 0 hi = some l') : (l.map o).take hi.toNat = l'.map o := by
  have := winM0 o h
  rwa [List.drop_zero] at this
theorem noRoM {o : α → List AV} (hn : ∀ x, noRoL (o x) = true) : noRoLL (l.map o) = true := by
  induction l with
  | nil => rfl
  | cons x l ih => simp only [List.map_cons, noRoLL, hn x, ih, Bool.and_self]
end
/- arrays -/
def rdv {α : Type} {k : Nat} (v : Vector α k) (i : Int) : Option α := if 0 ≤ i then v[i.toNat]? else none
section
variable {α : Type} {k : Nat} {v : Vector α k} {i : Int} {e : α}
theorem rv0 (h : rdv v i = some e) : 0 ≤ i := by unfold rdv at h; split at h; assumption; cases h
theorem rvE (h : rdv v i = some e) : v[i.toNat]? = some e := by unfold rdv at h; split at h; exact h; cases h
theorem rvL (h : rdv v i = some e) : i < ((k : Nat) : Int) := by
  have h1 := rv0 h
  have h2 := rvE h
  have : i.toNat < k := by
    rcases Nat.lt_or_ge i.toNat k with h3 | h3
    · exact h3
    · rw [Vector.getElem?_eq_none h3] at h2; cases h2
  omega
theorem rvM {β : Type} (f : α → β) (h : rdv v i = some e) : (v.toList.map f)[i.toNat]? = some (f e) := by
  rw [List.getElem?_map, Vector.getElem?_toList, rvE h]; rfl
theorem vecLen {β : Type} (f : α → β) : (v.toList.map f).length = k := by simp
theorem vecAgg {β : Type} (f : α → β) : ((v.toList.map f).drop 0).take k = v.toList.map f := by
  rw [List.drop_zero, List.take_of_length_le (by simp)]
theorem vecWr (f : α → AV) (y : α) (hl : i.toNat < k) : [v.toList.map f].set 0 (wr (v.toList.map f) i.toNat [f y]) = [(v.setIfInBounds i.toNat y).toList.map f] := by
  have : wr (v.toList.map f) i.toNat [f y] = (v.setIfInBounds i.toNat y).toList.map f := by
    unfold wr
    rw [Vector.toList_setIfInBounds, List.map_set, List.set_eq_take_append_cons_drop, if_pos (by simpa using hl)]
    simp
  rw [this]; rfl
theorem rvLt (h : rdv v i = some e) : i.toNat < k := by have := rvL h; have := rv0 h; omega
theorem vecLe0 {β : Type} (f : α → β) : 0 + k ≤ (v.toList.map f).length := by simp
theorem vecLit (f : α → AV) (h : ∀ x, litA (f x) = true) : litA (.agg (v.toList.map f)) = true := by
  simp only [litA]
  induction v.toList with
  | nil => rfl
  | cons x l ih => simp only [List.map_cons, litL2, h x, ih, Bool.and_self]
theorem vecLe (f : α → AV) (h : rdv v i = some e) : i.toNat + 1 ≤ (v.toList.map f).length := by have := rvLt h; simp; omega
theorem vecAll (f : α → AV) {p : AV → Bool} (h : ∀ x, p (f x) = true) : (v.toList.map f).all p = true := by
  rw [List.all_eq_true]
  intro y hy
  obtain ⟨x, _, rfl⟩ := List.mem_map.1 hy
  exact h x
theorem vecTree (f : α → AV) (h : ∀ x, tree (f x) = true) : treeL (v.toList.map f) = true := by
  induction v.toList with
  | nil => rfl
  | cons x l ih => simp only [List.map_cons, treeL, h x, ih, Bool.and_self]
theorem vecFrz (f : α → AV) (h : ∀ x, frz (f x) = f x) : frzL (v.toList.map f) = v.toList.map f := by
  induction v.toList with
  | nil => rfl
  | cons x l ih => simp only [List.map_cons, frzL, h x, ih]
theorem vecNoRo (f : α → AV) (h : ∀ x, noRo (f x) = true) : noRoL (v.toList.map f) = true := by
  induction v.toList with
  | nil => rfl
  | cons x l ih => simp only [List.map_cons, noRoL, h x, ih, Bool.and_self]
theorem wrAll {x y : List AV} (h : x.length = y.length) : wr x 0 y = y := by
  unfold wr
  rw [List.take_zero, List.nil_append, Nat.zero_add, List.drop_of_length_le (by omega), List.append_nil]
theorem vecSt {u : Vector α k} (f g : α → AV) : [v.toList.map f].set 0 (wr (v.toList.map f) 0 (u.toList.map g)) = [u.toList.map g] := by
  rw [wrAll (by simp)]; rfl
theorem vecLL {u : Vector α k} (f g : α → AV) : 0 + (v.toList.map f).length ≤ (u.toList.map g).length := by simp
theorem setV {o : Vector α k → List AV} (f : α → AV) (ho : ∀ x, o x = x.toList.map f) {l : List (Vector α k)} {n : Nat} {x y : Vector α k} : (l.map o).set n (wr (o x) 0 (o y)) = (l.set n y).map o := by
  rw [wrAll (by rw [ho, ho]; simp), List.map_set]
theorem vecZero {z : α} {u : Value} (f : α → AV) (h : f z = .lit u) : [litL (List.replicate k u)] = [(Vector.replicate k z).toList.map f] := by
  simp [litL, Vector.toList_replicate, h]
theorem vecZeroA {z : α} {u : Value} (f : α → AV) (h : f z = .lit u) : AV.agg (litL (List.replicate k u)) = AV.agg ((Vector.replicate k z).toList.map f) := by
  simp [litL, Vector.toList_replicate, h]
theorem vecPos (f : α → AV) (h : 0 < k) : 0 < (v.toList.map f).length := by simpa using h
end
theorem frI {ks : List Bool} {fr : List Nat} {m : Nat} (h : ((List.range ks.length).all fun i => !(ks[i]? == some true) || fr.contains i) = true) : ∀ i, i < m → ks[i]? = some true → i ∈ fr := by
  intro i _ hk
  have hi : i < ks.length := by
    rcases Nat.lt_or_ge i ks.length with h1 | h1
    · exact h1
    · rw [List.getElem?_eq_none_iff.2 h1] at hk; cases hk
  have := List.all_eq_true.1 h i (List.mem_range.2 hi)
  rw [hk] at this
  simpa using this
theorem rtfLV {α : Type} {k : Nat} {v : Vector α k} (f : α → AV) (h : ∀ x, litA (f x) = true) {ids : List Nat} : rtfL (v.toList.map f) ids = (v.toList.map f, [], ids) := litL2_rtf _ _ (by have := vecLit (v := v) f h; simpa only [litA] using this)
/- ------------------------------------------------ structs of plain fields, compared -/
def eqV (ti : Option TI) (u v : Value) : Option Bool :=
  match ti, u, v with
  | some ⟨_, _, .int _, _⟩, .int k a, .int k' b => if k = k' then some (a == b) else none
  | some ⟨_, _, .bool, _⟩, .bool a, .bool b => some (a == b)
  | _, _, _ => none
def eqFs (Θ : Tys) : List Field → Nat → List Value → List Value → Option Bool
  | [], _, [], [] => some true
  | f :: fs, off, u :: us, v :: vs => if f.offset == off && f.name != "_" then match eqV (Θ.lookup f.type) u v, eqFs Θ fs (off + 1) us vs with
    | some x, some y => some (x && y)
    | _, _ => none
    else none
  | _, _, _, _ => none
theorem eqFs_sound {Θ : Tys} {P : Program} (hΘ : TOK P Θ) (w : World) (xs ys : Array Value) : ∀ (fs : List Field) (us vs : List Value) (off : Nat) (r : Bool), eqFs Θ fs off us vs = some r →
    (∀ k v, us[k]? = some v → xs[off + k]? = some v) → (∀ k v, vs[k]? = some v → ys[off + k]? = some v) → (Op.eqFields 9999 xs ys fs).run P w = .ok r w
  | [], [], [], off, r, he, hx, hy => by simp only [eqFs] at he; cases he; simp [Op.eqFields]
  | f :: fs, [], _, off, r, he, hx, hy => by simp [eqFs] at he
  | f :: fs, _ :: _, [], off, r, he, hx, hy => by simp [eqFs] at he
  | [], _ :: _, _, off, r, he, hx, hy => by simp [eqFs] at he
  | [], [], _ :: _, off, r, he, hx, hy => by simp [eqFs] at he
  | f :: fs, u :: us, v :: vs, off, r, he, hx, hy => by
    simp only [eqFs] at he
    split at he
    case isFalse => cases he
    rename_i hf
    simp only [Bool.and_eq_true, beq_iff_eq, bne_iff_ne] at hf
    obtain ⟨h1, h2⟩ := hf
    split at he
    case h_2 => cases he
    rename_i x y hxy hr
    cases he
    have ax : xs[off]? = some u := by simpa using hx 0 u rfl
    have ay : ys[off]? = some v := by simpa using hy 0 v rfl
    have ih := eqFs_sound hΘ w xs ys fs us vs (off + 1) y hr (fun k v hk => by rw [show off + 1 + k = off + (k + 1) by omega]; exact hx (k + 1) v (by simpa using hk)) (fun k v hk => by rw [show off + 1 + k = off + (k + 1) by omega]; exact hy (k + 1) v (by simpa using hk))
    have key : P.plainKey f.type = true ∧ (Op.equalIn 9999 f.type u v).run P w = .ok x w := by
      unfold eqV at hxy
      split at hxy
      · rename_i hti
        have hu := tiOf_und (hΘ.get hti)
        split at hxy
        · rename_i hk; subst hk; cases hxy
          exact ⟨by simp [Program.plainKey, hu], run_equalIn_int w 9998 _ _ _ _ _ hu⟩
        · cases hxy
      · rename_i hti
        have hu := tiOf_und (hΘ.get hti)
        cases hxy
        exact ⟨by simp [Program.plainKey, hu], run_equalIn_bool' w 9998 _ _ _ hu⟩
      · cases hxy
    simp only [Op.eqFields]
    rw [if_pos h2, h1]
    simp only [Sem.run_bind, run_part_plain w key.1 ax, run_part_plain w key.1 ay, Result.andThen_ok, key.2]
    cases x
    · simp
    · simpa using ih
/- ------------------------------------------------ floats and texts, compared; floats are told but for a NaN's bits -/
theorem fNaN_read {n : Nat} (h : fNaN n = true) : ∃ s t, Ieee.double.read n = .nan s t := by
  unfold fNaN at h
  change (Ieee.Format.order Ieee.double n n).isNone = true at h
  unfold Ieee.Format.order at h
  generalize Ieee.double.read n = d at h
  cases d with
  | nan s t => exact ⟨s, t, rfl⟩
  | infinity s => simp [Ieee.Datum.order] at h
  | number s m i => simp [Ieee.Datum.order] at h
theorem fNaN_of {n : Nat} {s : Bool} {t : Nat} (h : Ieee.double.read n = .nan s t) : fNaN n = true := by
  unfold fNaN
  show (Ieee.Format.order Ieee.double n n).isNone = true
  unfold Ieee.Format.order
  rw [h]; rfl
theorem fNaN_big {n : Nat} (h : 9218868437227405312 < n % 9223372036854775808) : fNaN n = true := by
  have e : Ieee.double.read n = .nan (n / Ieee.double.signWeight % 2 == 1) (n % Ieee.double.signWeight - Ieee.double.infRung) := by
    unfold Ieee.Format.read
    have h1 : Ieee.double.signWeight = 9223372036854775808 := by decide +kernel
    have h2 : Ieee.double.binade = 4503599627370496 := by decide +kernel
    have h3 : Ieee.double.infRung = 9218868437227405312 := by decide +kernel
    simp only [h1, h2, h3]
    rw [if_neg (by omega), if_neg (by omega), if_neg (by omega)]
  exact fNaN_of e
theorem fNaN_cut {x y t : Nat} : fNaN ((Question.nanBits .f64 x y).cut t) = true := by
  refine fNaN_big ?_
  show 9218868437227405312 < ((t % 2) * 2 ^ 63 + 0x7ff0000000000000 + 1 + (t / 2) % (2 ^ 52 - 1)) % 9223372036854775808
  have h1 : (t / 2) % (2 ^ 52 - 1) < 4503599627370495 := Nat.mod_lt _ (by decide)
  have h2 : t % 2 = 0 ∨ t % 2 = 1 := by omega
  rcases h2 with h2 | h2 <;> (rw [h2]; omega)
/-- the NaN that is told -/
def qNaN : Nat := 9221120237041090561
theorem fNaN_q : fNaN qNaN = true := by decide +kernel
/-- two words of one number -/
def F1 (m n : Nat) : Prop := m = n ∨ fNaN m = true ∧ fNaN n = true
theorem isV_f {u : Value} {a : Nat} (h : IsV (FK a) u) : ∃ m, u = .float .f64 m ∧ F1 m a := by
  rcases h with ⟨v, h1, h2⟩ | ⟨vs, us, h1, _⟩
  · cases h1; exact h2.flt
  · cases h1
theorem isV_eq {x : AV} {u v : Value} (h : IsV x u) (hx : x = .lit v) (hn : nf v = true := by rfl) : u = v := by
  subst hx
  rcases h with ⟨v', h1, h2⟩ | ⟨vs, us, h1, _⟩
  · cases h1; exact h2.eq hn
  · cases h1
theorem isV_agg {vs : List Value} {u : Value} (h : IsV (.agg (litL vs)) u) (hn : vs.all nf = true) : u = .agg vs.toArray := by
  rcases h with ⟨v', h1, _⟩ | ⟨vs', us, h1, h2, h3⟩
  · cases h1
  · have e : litL vs = litL vs' := by simpa using h1
    have : vs = vs' := List.map_inj_right (f := AV.lit) (fun x y hxy => by cases hxy; rfl) |>.1 e
    subst this
    rw [h2, h3.eq hn]
theorem read_cong {α : Type} {f : Ieee.Datum → Ieee.Datum → Option α} (hl : ∀ s t d, f (.nan s t) d = none) (hr : ∀ s t d, f d (.nan s t) = none) {a b a' b' : Nat} (ha : F1 a a') (hb : F1 b b') :
    f (Ieee.double.read a) (Ieee.double.read b) = f (Ieee.double.read a') (Ieee.double.read b') := by
  rcases ha with rfl | ⟨h1, h2⟩
  · rcases hb with rfl | ⟨h1, h2⟩
    · rfl
    · obtain ⟨s, t, e1⟩ := fNaN_read h1
      obtain ⟨s2, t2, e2⟩ := fNaN_read h2
      rw [e1, e2, hr, hr]
  · obtain ⟨s, t, e1⟩ := fNaN_read h1
    obtain ⟨s2, t2, e2⟩ := fNaN_read h2
    rw [e1, e2, hl, hl]
def fcmp (a b : Nat) : Option Ordering := FloatKind.f64.format.order a b
theorem fcmp_cong {a b a' b' : Nat} (ha : F1 a a') (hb : F1 b b') : FloatKind.f64.format.order a b = fcmp a' b' :=
  read_cong (f := Ieee.Datum.order) (fun s t d => by cases d <;> rfl) (fun s t d => by cases d <;> rfl) ha hb
theorem fCmpS {P : Program} {t a b : Nat} {op : BinOp} {g : Option Ordering → Bool} (h : ∀ (m n : Nat) (w : World) (X Y : Operand), (do eqGuard op t X Y (.float .f64 m) (.float .f64 n); binOp op t (.float .f64 m) (.float .f64 n) : Sem Value).run P w = .ok (.bool (g (FloatKind.f64.format.order m n))) w) : BinS P op t (FK a) (FK b) (B (g (fcmp a b))) := by
  refine ⟨.inl ⟨_, rfl⟩, .inl ⟨_, rfl⟩, _, rfl, fun u v hu hv w X Y => ?_⟩
  obtain ⟨m, rfl, hm⟩ := isV_f hu
  obtain ⟨n, rfl, hn⟩ := isV_f hv
  exact ⟨_, w, h m n w X Y, by rw [fcmp_cong hm hn]; exact VEq.refl _, .inl rfl⟩
theorem fEql {P : Program} {t a b : Nat} : BinS P .eql t (FK a) (FK b) (B (fcmp a b == some .eq)) := fCmpS (g := fun c => c == some .eq) fun m n w X Y => by simp [eqGuard, binOp, Op.floatCmp]
theorem fNeq {P : Program} {t a b : Nat} : BinS P .neq t (FK a) (FK b) (B (fcmp a b != some .eq)) := fCmpS (g := fun c => c != some .eq) fun m n w X Y => by simp [eqGuard, binOp, Op.floatCmp]
theorem fLss {P : Program} {t a b : Nat} : BinS P .lss t (FK a) (FK b) (B (fcmp a b == some .lt)) := fCmpS (g := fun c => c == some .lt) fun m n w X Y => by simp [eqGuard, binOp, Op.floatCmp]
theorem fLeq {P : Program} {t a b : Nat} : BinS P .leq t (FK a) (FK b) (B (fcmp a b == some .lt || fcmp a b == some .eq)) := fCmpS (g := fun c => c == some .lt || c == some .eq) fun m n w X Y => by simp [eqGuard, binOp, Op.floatCmp]
theorem fGtr {P : Program} {t a b : Nat} : BinS P .gtr t (FK a) (FK b) (B (fcmp a b == some .gt)) := fCmpS (g := fun c => c == some .gt) fun m n w X Y => by simp [eqGuard, binOp, Op.floatCmp]
theorem fGeq {P : Program} {t a b : Nat} : BinS P .geq t (FK a) (FK b) (B (fcmp a b == some .gt || fcmp a b == some .eq)) := fCmpS (g := fun c => c == some .gt || c == some .eq) fun m n w X Y => by simp [eqGuard, binOp, Op.floatCmp]
theorem sK_list (l : Str) : (sK l).toList = l := by unfold sK; exact ByteArray.toList_mk l
theorem binS_val {P : Program} {op : BinOp} {t : Nat} {x y v : Value} (h : evBin op x y = some v) : BinS P op t (.lit x) (.lit y) (.lit v) :=
  ⟨.inl ⟨_, rfl⟩, .inl ⟨_, rfl⟩, _, rfl, fun u u' hu hv w X Y => by
    rw [isV_eq hu rfl (evBin_nf h).1, isV_eq hv rfl (evBin_nf h).2]
    exact ⟨_, w, evBin_sound h, VEq.refl _, .inl rfl⟩⟩
theorem sEql {P : Program} {t : Nat} {a b : Str} : BinS P .eql t (SK a) (SK b) (B (a == b)) := binS_val (by simp [evBin, sK_list])
theorem sNeq {P : Program} {t : Nat} {a b : Str} : BinS P .neq t (SK a) (SK b) (B (!(a == b))) := binS_val (by simp [evBin, sK_list])
/-- reckoned with a NaN for 'no answer' -/
def fdv (a b : Nat) : Nat := (FloatKind.f64.format.div a b).getD qNaN
def fad (a b : Nat) : Nat := (FloatKind.f64.format.add a b).getD qNaN
def fsb (a b : Nat) : Nat := (FloatKind.f64.format.sub a b).getD qNaN
def fml (a b : Nat) : Nat := (FloatKind.f64.format.mul a b).getD qNaN
theorem fArS {P : Program} {t a b : Nat} {op : BinOp} {g : Nat → Nat → Option Nat} (hc : ∀ {m n m' n' : Nat}, F1 m m' → F1 n n' → g m n = g m' n')
    (h : ∀ (m n : Nat) (w : World) (X Y : Operand), (do eqGuard op t X Y (.float .f64 m) (.float .f64 n); binOp op t (.float .f64 m) (.float .f64 n) : Sem Value).run P w = (match g m n with | some r => pure (.float .f64 r) | none => (do pure (.float .f64 (← choose (.nanBits .f64 m n)))) : Sem Value).run P w) : BinS P op t (FK a) (FK b) (FK ((g a b).getD qNaN)) := by
  refine ⟨.inl ⟨_, rfl⟩, .inl ⟨_, rfl⟩, _, rfl, fun u v hu hv w X Y => ?_⟩
  obtain ⟨m, rfl, hm⟩ := isV_f hu
  obtain ⟨n, rfl, hn⟩ := isV_f hv
  have e := hc hm hn
  rw [h m n w X Y, e]
  cases hg : g a b with
  | some r => exact ⟨_, w, by simp, VEq.refl _, .inl rfl⟩
  | none =>
    refine ⟨.float .f64 ((Question.nanBits .f64 m n).cut (w.tape w.drawn (.nanBits .f64 m n))), w.drew, ?_, .inr ⟨_, rfl, fNaN_cut, fNaN_q⟩, .inr rfl⟩
    rfl
theorem fQuo {P : Program} {t a b : Nat} : BinS P .quo t (FK a) (FK b) (FK (fdv a b)) := fArS (g := fun m n => FloatKind.f64.format.div m n) (fun hm hn => congrArg (fun d => Option.map Ieee.double.write d) (read_cong (f := fun d e => d.quotient (Ieee.double.fractionBits + 2) e) (fun s t d => by cases d <;> rfl) (fun s t d => by cases d <;> rfl) hm hn)) fun m n w X Y => by simp [eqGuard, binOp, Op.floatArith]; rfl
theorem fAdd {P : Program} {t a b : Nat} : BinS P .add t (FK a) (FK b) (FK (fad a b)) := fArS (g := fun m n => FloatKind.f64.format.add m n) (fun hm hn => congrArg (fun d => Option.map Ieee.double.write d) (read_cong (f := Ieee.Datum.sum) (fun s t d => by cases d <;> rfl) (fun s t d => by cases d <;> rfl) hm hn)) fun m n w X Y => by simp [eqGuard, binOp, Op.floatArith]; rfl
theorem fSub {P : Program} {t a b : Nat} : BinS P .sub t (FK a) (FK b) (FK (fsb a b)) := fArS (g := fun m n => FloatKind.f64.format.sub m n) (fun hm hn => congrArg (fun d => Option.map Ieee.double.write d) (read_cong (f := fun d e => d.sum e.opposite) (fun s t d => by cases d <;> rfl) (fun s t d => by cases d <;> rfl) hm hn)) fun m n w X Y => by simp [eqGuard, binOp, Op.floatArith]; rfl
theorem fMul {P : Program} {t a b : Nat} : BinS P .mul t (FK a) (FK b) (FK (fml a b)) := fArS (g := fun m n => FloatKind.f64.format.mul m n) (fun hm hn => congrArg (fun d => Option.map Ieee.double.write d) (read_cong (f := Ieee.Datum.product) (fun s t d => by cases d <;> rfl) (fun s t d => by cases d <;> rfl) hm hn)) fun m n w X Y => by simp [eqGuard, binOp, Op.floatArith]; rfl
def fOf (n : Int) : Nat := FloatKind.f64.nearest n
theorem cIF {P : Program} {src dst sz bt sz2 bt2 : Nat} {z z2 : List Value} {k : IntKind} {n : Int} (h1 : tiOf P src = some ⟨sz, bt, .int k, z⟩) (h2 : tiOf P dst = some ⟨sz2, bt2, .float .f64, z2⟩) : CnvS P src dst (IK k n) (FK (fOf n)) :=
  ⟨.inl ⟨_, rfl⟩, _, rfl, fun u hu w => ⟨_, w, by rw [isV_eq hu rfl]; simp only [convert, Sem.run_bind, run_underlying (tiOf_und h1), run_underlying (tiOf_und h2), Result.andThen_ok, Conv.intToFloat, Sem.run_pure]; rfl, VEq.refl _, .inl rfl⟩⟩
/-- a float made a whole number, where the language fixes one -/
def fTo (a : Nat) : Option Int := match (Ieee.double.read a).toInt .zero with
  | some n => if IntKind.i64.min ≤ n ∧ n ≤ IntKind.i64.max then some n else none
  | none => none
theorem cFI {P : Program} {src dst sz bt sz2 bt2 : Nat} {z z2 : List Value} {a : Nat} {n : Int} (h1 : tiOf P src = some ⟨sz, bt, .float .f64, z⟩) (h2 : tiOf P dst = some ⟨sz2, bt2, .int .i64, z2⟩) (h : fTo a = some n) : CnvS P src dst (FK a) (IK .i64 n) :=
  ⟨.inl ⟨_, rfl⟩, _, rfl, fun u hu w => by
    obtain ⟨m, rfl, hm⟩ := isV_f hu
    unfold fTo at h
    have e : Ieee.double.read m = Ieee.double.read a := by
      rcases hm with rfl | ⟨_, h2⟩
      · rfl
      · obtain ⟨s, t, e2⟩ := fNaN_read h2
        rw [e2] at h
        simp [Ieee.Datum.toInt, Ieee.Datum.integral] at h
    rw [← e] at h
    split at h
    · rename_i n' hn
      split at h
      · rename_i hb
        cases h
        refine ⟨_, w, ?_, VEq.refl _, .inl rfl⟩
        have hn2 : (FloatKind.f64.decode m).toInt .zero = some n := hn
        simp only [convert, Sem.run_bind, run_underlying (tiOf_und h1), run_underlying (tiOf_und h2), Result.andThen_ok, Conv.floatToInt, hn2, if_pos hb, Sem.run_pure]
      · cases h
    · cases h⟩
theorem xBits {P : Program} {f : FuncId} {fn : Func} {a : Nat} (hf : P.funcs[f]? = some fn) (hname : (fn.name == "runtime.NumGoroutine") = false) (hb : fn.body.isNone = true) (hn : Extern.findNext fn = none) (he : Extern.find fn = some Extern.MathFloatBits.float64bits) (ha : fNaN a = false) : ExtS P f (FK a) (IK .u64 (a : Int)) :=
  ⟨.inl ⟨_, rfl⟩, _, rfl, fun u hu w => by
    obtain ⟨m, rfl, rfl | ⟨_, h2⟩⟩ := isV_f hu
    · exact ⟨_, w, by rw [run_callFunc_extern hf hname hb hn he]; rfl, VEq.refl _, .inl rfl⟩
    · rw [h2] at ha; cases ha⟩
theorem xFrom {P : Program} {f : FuncId} {fn : Func} {a : Int} (hf : P.funcs[f]? = some fn) (hname : (fn.name == "runtime.NumGoroutine") = false) (hb : fn.body.isNone = true) (hn : Extern.findNext fn = none) (he : Extern.find fn = some Extern.MathFloatBits.float64frombits) : ExtS P f (IK .u64 a) (FK a.toNat) :=
  ⟨.inl ⟨_, rfl⟩, _, rfl, fun u hu w => ⟨_, w, by rw [isV_eq hu rfl, run_callFunc_extern hf hname hb hn he]; rfl, VEq.refl _, .inl rfl⟩⟩
theorem struct_run {Θ : Tys} {P : Program} (hΘ : TOK P Θ) {t sz bt : Nat} {fs : Array Field} {z : List Value} (ht : tiOf P t = some ⟨sz, bt, .struct fs, z⟩) (hp : P.stoodInHeld t = false) {us vs : List Value} {r : Bool} (he : eqFs Θ fs.toList 0 us vs = some r) (w : World) :
    (Op.equalIn 10000 t (.agg us.toArray) (.agg vs.toArray)).run P w = .ok r w := by
  have hu := tiOf_und ht
  have hf : P.fieldsOf t = fs := by simp [Program.fieldsOf, hu]
  rw [run_equalIn_agg w 9999 t _ _ (by rw [hf]; exact hu) hp, hf]
  exact eqFs_sound hΘ w _ _ _ us vs 0 r he (fun k v hk => by simpa using hk) (fun k v hk => by simpa using hk)
theorem eqS {Θ : Tys} {P : Program} (hΘ : TOK P Θ) {t sz bt : Nat} {fs : Array Field} {z : List Value} (ht : tiOf P t = some ⟨sz, bt, .struct fs, z⟩) (hp : P.stoodInHeld t = false) (hg : P.eqGuardType P.depth t = false) {us vs : List Value} {r r' : Bool} (he : eqFs Θ fs.toList 0 us vs = some r) (hr : r = r') (hnu : us.all nf = true := by rfl) (hnv : vs.all nf = true := by rfl) :
    BinS P .eql t (.agg (litL us)) (.agg (litL vs)) (B r') := by
  subst hr
  refine ⟨.inr ⟨us, rfl⟩, .inr ⟨vs, rfl⟩, _, rfl, fun u v hu hv w X Y => ⟨_, w, ?_, VEq.refl _, .inl rfl⟩⟩
  rw [isV_agg hu hnu, isV_agg hv hnv, Sem.run_bind, run_eqGuard_agg w .eql t X Y _ _ hg, Result.andThen_ok, run_eql_struct, struct_run hΘ ht hp he]
  rfl
theorem neS {Θ : Tys} {P : Program} (hΘ : TOK P Θ) {t sz bt : Nat} {fs : Array Field} {z : List Value} (ht : tiOf P t = some ⟨sz, bt, .struct fs, z⟩) (hp : P.stoodInHeld t = false) (hg : P.eqGuardType P.depth t = false) {us vs : List Value} {r r' : Bool} (he : eqFs Θ fs.toList 0 us vs = some r) (hr : r = r') (hnu : us.all nf = true := by rfl) (hnv : vs.all nf = true := by rfl) :
    BinS P .neq t (.agg (litL us)) (.agg (litL vs)) (B (!r')) := by
  subst hr
  refine ⟨.inr ⟨us, rfl⟩, .inr ⟨vs, rfl⟩, _, rfl, fun u v hu hv w X Y => ⟨_, w, ?_, VEq.refl _, .inl rfl⟩⟩
  rw [isV_agg hu hnu, isV_agg hv hnv, Sem.run_bind, run_eqGuard_agg w .neq t X Y _ _ hg, Result.andThen_ok, run_neq_struct, struct_run hΘ ht hp he]
  rfl
/-- cut to a whole number -/
def fTr (a : Nat) : Nat := Ieee.double.write ((Ieee.double.read a).integral .zero)
theorem trunc_pure {m : Nat} {nm : String} (hd : (FloatKind.f64.decode m).isNaN = false) : Extern.MathFloor.toIntegral nm .zero #[.float .f64 m] = pure (.float .f64 (fTr m)) := by
  have e : Extern.MathFloor.toIntegral nm .zero #[.float .f64 m] = (match FloatKind.f64.decode m with
    | .nan s t =>
      if FloatKind.f64.format.quiet t = t then pure (.float .f64 m) else do
      let kept ← choose (.extern "math.Floor,Ceil,Trunc,RoundToEven.signallingNaN kept" 2)
      pure (.float .f64 (if kept == 1 then m else FloatKind.f64.encode (.nan s (FloatKind.f64.format.quiet t))))
    | d => pure (.float .f64 (FloatKind.f64.encode (d.integral .zero)))) := rfl
  have e2 : fTr m = FloatKind.f64.encode ((FloatKind.f64.decode m).integral .zero) := rfl
  rw [e, e2]
  cases hq : FloatKind.f64.decode m with
  | nan s t => rw [hq] at hd; cases hd
  | infinity s => rfl
  | number s k i => rfl
theorem xTrunc {P : Program} {f : FuncId} {fn : Func} {a : Nat} (hf : P.funcs[f]? = some fn) (hname : (fn.name == "runtime.NumGoroutine") = false) (hb : fn.body.isNone = true) (hn : Extern.findNext fn = none) (he : Extern.find fn = some (Extern.MathFloor.toIntegral "math.archTrunc" .zero)) (ha : fNaN a = false) : ExtS P f (FK a) (FK (fTr a)) :=
  ⟨.inl ⟨_, rfl⟩, _, rfl, fun u hu w => by
    obtain ⟨m, rfl, rfl | ⟨_, h2⟩⟩ := isV_f hu
    · refine ⟨_, w, ?_, VEq.refl _, .inl rfl⟩
      rw [run_callFunc_extern hf hname hb hn he]
      have hd : (FloatKind.f64.decode m).isNaN = false := by
        cases hq : FloatKind.f64.decode m with
        | nan s t => rw [fNaN_of (n := m) (s := s) (t := t) hq] at ha; cases ha
        | infinity s => rfl
        | number s k i => rfl
      rw [trunc_pure hd]; rfl
    · rw [h2] at ha; cases ha⟩
def nNaN (a : Nat) : Option Unit := if fNaN a then none else some ()
theorem nNaNE {a : Nat} {q : Unit} (h : nNaN a = some q) : fNaN a = false := by unfold nNaN at h; cases h2 : fNaN a <;> simp [h2] at h ⊢
theorem clB {T : Type} (f : T → List AV) {l l' : List T} {lo hi : Int} (h : slc l lo hi = some l') : lo.toNat + subO hi.toNat lo.toNat ≤ (l.map f).length := by
  obtain ⟨h0, h1, h2, _⟩ := slI h
  rw [subO_eq, List.length_map]; omega
theorem clBe {T : Type} (f : T → List AV) {l l' : List T} {lo : Int} (h : slc l lo (l.length : Int) = some l') : lo.toNat + subO (Int.toNat (((l.map f).length : Nat) : Int)) lo.toNat ≤ (l.map f).length := by
  obtain ⟨h0, h1, h2, _⟩ := slI h
  rw [subO_eq, List.length_map]; omega
theorem clrT_len {T : Type} {l : List T} {z : T} {a n : Nat} (h : a + n ≤ l.length) : (clrT l z a n).length = l.length := by
  unfold clrT ovT; simp; omega
theorem lnClr {T : Type} (f : T → List AV) {l l' : List T} {lo hi : Int} {z : T} (h : slc l lo hi = some l') : (l.map f).length = ((clrT l z lo.toNat (subO hi.toNat lo.toNat)).map f).length := by
  have := clB f h
  rw [List.length_map] at this
  rw [List.length_map, List.length_map, clrT_len this]
theorem lnClre {T : Type} (f : T → List AV) {l l' : List T} {lo : Int} {z : T} (h : slc l lo (l.length : Int) = some l') : (l.map f).length = ((clrT l z lo.toNat (subO (Int.toNat (((l.map f).length : Nat) : Int)) lo.toNat)).map f).length := by
  have := clBe f h
  have e : (l.map f).length = l.length := List.length_map _
  have h2 : lo.toNat + subO (Int.toNat (((l.map f).length : Nat) : Int)) lo.toNat ≤ l.length := by omega
  have e3 := clrT_len (z := z) h2
  have e4 : ((clrT l z lo.toNat (subO (Int.toNat (((l.map f).length : Nat) : Int)) lo.toNat)).map f).length = (clrT l z lo.toNat (subO (Int.toNat (((l.map f).length : Nat) : Int)) lo.toNat)).length := List.length_map _
  omega
theorem setHH {α : Type} {l : List α} {i : Nat} {a b c : α} (h : b = c) : (l.set i a).set i b = l.set i c := by rw [h, List.set_set]
end Go.T
