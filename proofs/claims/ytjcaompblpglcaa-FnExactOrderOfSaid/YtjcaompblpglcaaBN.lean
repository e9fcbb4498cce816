/- Lemmas for FnExactOrderOf; no condition. -/

import Derived.Test.YtjcaompblpglcaaBM
import Derived.Laws.Cover3
import Derived.KernelRfl
import Derived.Laws.StructEq
import Derived.Laws.Externs
import Derived.ChangeKeysEq
import Derived.Test.YtjcaompblpglcaaTO
import Derived.Sort.OwnSortedInts
import Derived.Shelf.SortM.Plain
import Derived.Shelf.SortM.SortNone
set_option linter.unusedVariables false
namespace Go.T
open Go Go.RowKit Go.Proofs
end Go.T
set_option linter.unusedVariables false
namespace Go.T
open Go Go.RowKit Go.Proofs
abbrev I (n : Int) : AV := .lit (.int .i64 n)
abbrev IK (k : IntKind) (n : Int) : AV := .lit (.int k n)
abbrev B (b : Bool) : AV := .lit (.bool b)
abbrev w64 (n : Int) : Int := IntKind.i64.wrap n
theorem Xdw : ∃ n : Nat, n = 4611686018427387904 := ⟨_, rfl⟩
noncomputable def FU : Nat := Xdw.choose
theorem FU_eq : FU = 4611686018427387904 := Xdw.choose_spec
theorem bnS {α β : Type} {o : Option α} {f : α → Option β} {r : β} (h : o.bind f = some r) : ∃ x, o = some x ∧ f x = some r := by
 cases o with
 | none => simp at h
 | some x => exact ⟨x, rfl, h⟩
theorem itS {β : Type} {b : Bool} {x y : Option β} {r : β} (h : (if b = true then x else y) = some r) : (b = true ∧ x = some r) ∨ (b = false ∧ y = some r) := by
 cases b
 ·right; exact ⟨rfl, by simpa using h⟩
 ·left; exact ⟨rfl, by simpa using h⟩
def rd {α : Type} (l : List α) (i : Int) : Option α := if 0 ≤ i then l[i.toNat]? else none
section
variable {α β : Type} {l : List α} {i : Int} {e : α}
theorem rd0 (h : rd l i = some e) : 0 ≤ i := by unfold rd at h; split at h; assumption; cases h
theorem rdE (h : rd l i = some e) : l[i.toNat]? = some e := by unfold rd at h; split at h; exact h; cases h
theorem rdM (f : α → β) (h : rd l i = some e) : (l.map f)[i.toNat]? = some (f e) := by rw [List.getElem?_map, rdE h]; rfl
theorem rdL (f : α → β) (h : rd l i = some e) : i < ((l.map f).length : Int) := by
 have h1 := rd0 h
 have h2 := (List.getElem?_eq_some_iff.1 (rdE h)).1
 rw [List.length_map]
 omega
theorem setM (f : α → β) {y : α} : (l.map f).set i.toNat (f y) = (l.set i.toNat y).map f := List.map_set.symm
theorem setMr (f : α → β) {y : α} {ys : β} (h : ys = f y) : (l.map f).set i.toNat ys = (l.set i.toNat y).map f := by rw [h]; exact List.map_set.symm
def rdc (l : List α) (o n : Nat) (i : Int) : Option α := if 0 ≤ i ∧ i < (n : Int) then l[Qwd o i.toNat]? else none
theorem rdc0 {o n : Nat} (h : rdc l o n i = some e) : 0 ≤ i := by unfold rdc at h; split at h; rename_i h1; exact h1.1; cases h
theorem rdcL {o n : Nat} (h : rdc l o n i = some e) : i < (n : Int) := by unfold rdc at h; split at h; rename_i h1; exact h1.2; cases h
theorem rdcR {o n : Nat} (h : rdc l o n i = some e) : rd l ((Qwd o i.toNat : Nat) : Int) = some e := by
 unfold rdc at h; split at h
 ·rw [rd, if_pos (Int.natCast_nonneg _), Int.toNat_natCast]; exact h
 ·cases h
theorem lnSet (f : α → β) {n : Nat} {y : α} : (l.map f).length = ((l.set n y).map f).length := by simp
theorem Xd8 (f : α → β) {n m : Nat} {x y : α} : ((l.set n x).map f).length = ((l.set m y).map f).length := by simp
theorem Xe5 {n : Nat} {y : β} {l : List β} (h : l[n]? = some y) : l.set n y = l := by
 apply List.ext_getElem?
 intro k
 rw [List.getElem?_set]
 split
 ·rename_i e; subst e
  split
  ·exact h.symm
  ·rename_i h2; rw [List.getElem?_eq_none (by omega)] at h; cases h
 ·rfl
theorem Xc7 (f : α → β) {x : β} {y : α} (h : rd l i = some y) : ((l.map f).set i.toNat x).set i.toNat (f y) = l.map f := by
 rw [List.set_set, ← List.map_set, Xe5 (rdE h)]
section
variable {o r : α → List AV} {A : List α} {q q' : Unit}
end
theorem rok {π : List (Nat × Nat)} {xs : List (List AV)} (h : Qac xs = true) : Qa5 π xs := .inl h
theorem Qpz {π : List (Nat × Nat)} {xs : List (List AV)} {n : Nat} {x : List AV} (h : Qa5 π xs) (hx : Qxo π x = x) : Qa5 π (xs.set n x) := .inr (by
  have h1 := h.eq
  unfold Qml at h1 ⊢
  rw [List.map_set, h1, hx])
theorem setSS (f : α → β) {x y : α} {ys : β} (h : ys = f y) : ((l.set i.toNat x).map f).set i.toNat ys = (l.set i.toNat y).map f := by rw [h, ← List.map_set, List.set_set]
theorem rdS {x y : α} (h : rd l i = some x) : rd (l.set i.toNat y) i = some y := by
 unfold rd at h ⊢
 split at h
 ·rename_i h0
  rw [if_pos h0, List.getElem?_set_self (List.getElem?_eq_some_iff.1 h).1]
 ·cases h
theorem Xck {y : β} {xs : List β} {n : Nat} {x : β} (h : xs[n]? = some x) : (xs.set n y)[n]? = some y := by
 have := (List.getElem?_eq_some_iff.1 h).1
 rw [List.getElem?_set_self this]
theorem Qej (f : α → β) : AV.lit (.int .i64 ((l.map f).length : Nat)) = AV.lit (.int .i64 (l.length : Nat)) := by rw [List.length_map]
def app (l1 l2 : List α) : Option (List α) := if l1.length + l2.length < 1099511627776 then some (l1 ++ l2) else none
variable {l1 l2 : List α}
theorem Qyq (h : app l1 l2 = some l) : l1 ++ l2 = l := by unfold app at h; split at h; cases h; rfl; cases h
theorem Xe3 (h : app l1 l2 = some l) : l.length < 1099511627776 := by
 unfold app at h; split at h
 ·cases h; rw [List.length_append]; assumption
 ·cases h
theorem appT (f : α → β) (h : app l1 l2 = some l) : (l1.map f).take (l1.map f).length ++ l2.map f = l.map f := by
 rw [List.take_length, ← Qyq h, List.map_append]
theorem Quf (f : α → β) (h : app l1 l2 = some l) {b : Nat} (hb : b ≤ 128) : (l.map f).length * b ≤ 140737488355328 := by
 have := Xe3 h
 rw [List.length_map]
 calc l.length * b ≤ 1099511627776 * 128 := Nat.mul_le_mul (by omega) hb
  _ = 140737488355328 := rfl
theorem Qux (f : α → β) (h : app l1 l2 = some l) : (l.map f).length ≤ 140737488355328 := by
 have := Xe3 h
 rw [List.length_map]; omega
theorem plM {f : α → List AV} (h : ∀ x, (f x).all AV.plain = true) : (l.map f).all (fun r => r.all AV.plain) = true := by
 rw [List.all_eq_true]
 intro y hy
 obtain ⟨x, _, rfl⟩ := List.mem_map.1 hy
 exact h x
theorem Qp6 (f : α → β) (h : app l1 l2 = some l) : (l1.map f).take (List.length (l1.map f)) ++ (((l2.map f).drop 0).take (List.length (l2.map f))) = l.map f := by
 rw [List.drop_zero, List.take_length, List.take_length, ← Qyq h, List.map_append]
theorem plD {f : α → List AV} (h : ∀ x, (f x).all AV.plain = true) {a n : Nat} : (((l.map f).drop a).take n).all (fun r => r.all AV.plain) = true := by
 rw [← List.map_drop, ← List.map_take]; exact plM h
theorem apT (f : α → β) {x : β} : (l.map f).take (l.map f).length ++ [x] = l.map f ++ [x] := by rw [List.take_length]
theorem apB (f : α → β) {x : β} {y : α} {l' : List α} (h : app l [y] = some l') {b : Nat} (hb : b ≤ 128) : (l.map f ++ [x]).length * b ≤ 140737488355328 := by
 have := Quf f h hb
 rw [← Qyq h, List.length_map, List.length_append] at this
 rw [List.length_append, List.length_map]; exact this
theorem apC (f : α → β) {x : β} {y : α} {l' : List α} (h : app l [y] = some l') : (l.map f ++ [x]).length ≤ 140737488355328 := by
 have := Qux f h
 rw [← Qyq h, List.length_map, List.length_append] at this
 rw [List.length_append, List.length_map]; exact this
theorem apG (f : α → β) {x : β} : (l.map f ++ [x])[l.length]? = some x := by
 rw [List.getElem?_append_right (by simp)]; simp
theorem apS (f : α → β) {x : β} {y : α} {l' : List α} (h : app l [y] = some l') : (l.map f ++ [x]).set l.length (f y) = l'.map f := by
 rw [← Qyq h, List.set_append_right _ _ (by simp)]
 simp
theorem apLn (f : α → β) {x : β} {y : α} {l' : List α} (h : app l [y] = some l') : List.length (l.map f ++ [x]) = List.length (l'.map f) := by
 rw [← Qyq h]; simp
theorem rsW {τ : List (Nat × Qao)} {xs zs : List (List AV)} (h : Qzq τ xs = some zs) : Qzq τ ((xs.drop 0).take xs.length) = some zs := by simpa using h
theorem Xe4 {τ : List (Nat × Qao)} {j n : Nat} {R : Qao} {zs : List (List AV)} (h : τ.lookup j = some R) (hw : Frz ((R.xs.drop 0).take n) zs) : rs1 τ (.sl j 0 n) = some (.ro R.sz zs) := by
 unfold rs1
 rw [if_neg (by simp [Qov])]
 simp only [h]
 rw [if_pos hw.1, hw.2]
theorem Xcv {τ : List (Nat × Qao)} {c d : AV} {cs ds : List AV} (h1 : rs1 τ c = some d) (h2 : rsL τ cs = some ds) : rsL τ (c :: cs) = some (d :: ds) := by simp only [rsL, h1, h2]
theorem Quc {τ : List (Nat × Qao)} : ∀ {x y : List AV}, Qdq x = true → Ql6 x = y → rsL τ x = some y
 | [], y, _, h => by simp only [Ql6] at h; subst h; rfl
 | c :: cs, y, ht, h => by
  simp only [Qdq, Bool.and_eq_true] at ht
  simp only [Ql6] at h
  subst h
  exact Xcv (by unfold rs1; rw [if_pos ht.1]) (Quc ht.2 rfl)
def mk (z : α) (n : Int) : Option (List α) := if 0 ≤ n ∧ n < 1099511627776 then some (List.replicate n.toNat z) else none
variable {n : Int} {z : α}
theorem mkI (h : mk z n = some l) : 0 ≤ n ∧ n < 1099511627776 ∧ List.replicate n.toNat z = l := by
 unfold mk at h; split at h
 ·cases h; rename_i hh; exact ⟨hh.1, hh.2, rfl⟩
 ·cases h
theorem mkM (f : α → β) (h : mk z n = some l) : List.replicate n.toNat (f z) = l.map f := by rw [← (mkI h).2.2, List.map_replicate]
theorem mk0 (h : mk z n = some l) : 0 ≤ n := (mkI h).1
theorem mkB (h : mk z n = some l) {b : Nat} (hb : b ≤ 128) : n * (b : Int) ≤ 140737488355328 := by
 obtain ⟨h1, h2, _⟩ := mkI h
 calc n * (b : Int) ≤ 1099511627776 * 128 := Int.mul_le_mul (by omega) (by omega) (by omega) (by omega)
  _ = 140737488355328 := rfl
theorem mkC (h : mk z n = some l) : n ≤ 140737488355328 := by have := (mkI h).2.1; omega
theorem mkS (f : α → β) (h : mk z n = some l) {id : Nat} : AV.sl id 0 n.toNat = AV.sl id 0 (List.length (l.map f)) := by
 rw [← (mkI h).2.2, List.length_map, List.length_replicate]
theorem setP (f : α → β) {x : β} {y : α} {e : Nat} : ((l.map f).set e x).set e (f y) = (l.set e y).map f := by rw [List.set_set, List.map_set]
def Qji (l l' : List α) : Option Unit := if l'.length = l.length then some () else none
theorem Qkj (f : α → β) {l2 : List α} {u : Unit} (h : Qji l l2 = some u) : (l2.map f).length = (l.map f).length := by
 unfold Qji at h; split at h
 ·rw [List.length_map, List.length_map]; assumption
 ·cases h
def slc (l : List α) (lo hi : Int) : Option (List α) := if 0 ≤ lo ∧ lo ≤ hi ∧ hi ≤ (l.length : Int) then some ((l.drop lo.toNat).take (hi.toNat - lo.toNat)) else none
variable {lo hi : Int} {l' : List α}
theorem slI (h : slc l lo hi = some l') : 0 ≤ lo ∧ lo ≤ hi ∧ hi ≤ (l.length : Int) ∧ (l.drop lo.toNat).take (hi.toNat - lo.toNat) = l' := by
 unfold slc at h; split at h
 ·cases h; rename_i hh; exact ⟨hh.1, hh.2.1, hh.2.2, rfl⟩
 ·cases h
theorem slM (sz : Nat) (f : α → List AV) (h : slc l lo hi = some l') : AV.ro sz (((l.map f).drop lo.toNat).take (Qh4 hi.toNat lo.toNat)) = AV.ro sz (l'.map f) := by
 rw [← (slI h).2.2.2, Qgh, List.map_take, List.map_drop]
theorem sl0 (h : slc l lo hi = some l') : 0 ≤ lo := (slI h).1
theorem sl1 (h : slc l lo hi = some l') : lo ≤ hi := (slI h).2.1
theorem sl2 (f : α → β) (h : slc l lo hi = some l') : hi ≤ ((l.map f).length : Int) := by rw [List.length_map]; exact (slI h).2.2.1
theorem sl1e (f : α → β) (h : slc l lo (l.length : Int) = some l') : lo ≤ ((l.map f).length : Int) := by rw [List.length_map]; exact (slI h).2.1
theorem winE (h : slc l lo hi = some l') : (l.drop lo.toNat).take (Qh4 hi.toNat lo.toNat) = l' := by rw [Qgh]; exact (slI h).2.2.2
theorem winM (f : α → β) (h : slc l lo hi = some l') : ((l.map f).drop lo.toNat).take (Qh4 hi.toNat lo.toNat) = l'.map f := by
 rw [← List.map_drop, ← List.map_take, winE h]
theorem Xbh (f : α → β) (h : slc l 0 hi = some l') : ((l.map f).drop 0).take hi.toNat = l'.map f := by
 have := winM f h
 rw [Qgh] at this
 simpa using this
theorem winMe (f : α → β) (h : slc l lo (l.length : Int) = some l') : ((l.map f).drop lo.toNat).take (Qh4 ((((l.map f).length : Nat) : Int)).toNat lo.toNat) = l'.map f := by
 have := winM f h
 rw [List.length_map]; exact this
theorem Xc0 (f : α → β) {l0 : List α} (h : app l0 l' = some l2) (hs : slc l 0 hi = some l') : (l0.map f).take (List.length (l0.map f)) ++ (((l.map f).drop 0).take hi.toNat) = l2.map f := by
 rw [Xbh f hs, List.take_length, ← Qyq h, List.map_append]
theorem Xb9 (f : α → β) {l0 : List α} (h : app l0 l' = some l2) (hs : slc l lo (l.length : Int) = some l') : (l0.map f).take (List.length (l0.map f)) ++ (((l.map f).drop lo.toNat).take (Qh4 ((((l.map f).length : Nat) : Int)).toNat lo.toNat)) = l2.map f := by
 rw [winMe f hs, List.take_length, ← Qyq h, List.map_append]
end
section
variable {α : Type} {l : List α}
theorem Qoz {o z : α → List AV} (ht : ∀ x, Qdq (o x) = true) (hz : ∀ x, Ql6 (o x) = z x) : Frz (((l.map o).drop 0).take (l.map o).length) (l.map z) := by
 rw [List.drop_zero, List.take_length]
 refine ⟨?_, ?_⟩
 ·rw [Qac, List.all_eq_true]
  intro y hy
  obtain ⟨x, _, rfl⟩ := List.mem_map.1 hy
  exact ht x
 ·rw [Qkz, List.map_map]
  refine List.map_congr_left fun x _ => ?_
  rw [← hz x, Qmt]; rfl
theorem Xak {o z : α → List AV} (hz : ∀ x, Ql6 (o x) = z x) : Qit (l.map o) = l.map z := by
 rw [Qkz, List.map_map]
 refine List.map_congr_left fun x _ => ?_
 rw [← hz x, Qmt]; rfl
theorem Qa6 {o : α → List AV} (ht : ∀ x, Qdq (o x) = true) : Qac (l.map o) = true := by
 rw [Qac, List.all_eq_true]
 intro y hy
 obtain ⟨x, _, rfl⟩ := List.mem_map.1 hy
 exact ht x
theorem Qgc {o : α → List AV} (ht : ∀ x, Qdq (o x) = true) : Qac ((l.map o).take (l.map o).length) = true := by rw [List.take_length]; exact Qa6 ht
theorem Qgi {o : α → List AV} : (l.map o).take (l.map o).length = l.map o := List.take_length
theorem Qis {o : α → List AV} (ht : ∀ x, Qdq (o x) = true) (x : α) : Qac [o x] = true := by
 simp only [Qac, List.all_cons, List.all_nil, ht x, Bool.and_true]
theorem Xdg {o : α → List AV} {hi : Int} {l' : List α} (ht : ∀ x, Qdq (o x) = true) (h : slc l 0 hi = some l') : Qac ((l.map o).take hi.toNat) = true := by
 have := Xbh o h
 rw [List.drop_zero] at this
 rw [this]; exact Qa6 ht
theorem winT0 (o : α → List AV) {hi : Int} {l' : List α} (h : slc l 0 hi = some l') : (l.map o).take hi.toNat = l'.map o := by
 have := Xbh o h
 rwa [List.drop_zero] at this
theorem Qbd {o : α → List AV} (hn : ∀ x, Qdn (o x) = true) : Qaz (l.map o) = true := by
 induction l with
 | nil => rfl
 | cons x l ih => simp only [List.map_cons, Qaz, hn x, ih, Bool.and_self]
end
def rdv {α : Type} {k : Nat} (v : Vector α k) (i : Int) : Option α := if 0 ≤ i then v[i.toNat]? else none
section
variable {α : Type} {k : Nat} {v : Vector α k} {i : Int} {e : α}
theorem rv0 (h : rdv v i = some e) : 0 ≤ i := by unfold rdv at h; split at h; assumption; cases h
theorem rvE (h : rdv v i = some e) : v[i.toNat]? = some e := by unfold rdv at h; split at h; exact h; cases h
theorem rvL (h : rdv v i = some e) : i < ((k : Nat) : Int) := by
 have h1 := rv0 h
 have h2 := rvE h
 have : i.toNat < k := by
  rcases Nat.lt_or_ge i.toNat k with h3 | h3
  ·exact h3
  ·rw [Vector.getElem?_eq_none h3] at h2; cases h2
 omega
theorem rvM {β : Type} (f : α → β) (h : rdv v i = some e) : (v.toList.map f)[i.toNat]? = some (f e) := by
 rw [List.getElem?_map, Vector.getElem?_toList, rvE h]; rfl
theorem Xd0 {β : Type} (f : α → β) : (v.toList.map f).length = k := by simp
theorem Xe9 {β : Type} (f : α → β) : ((v.toList.map f).drop 0).take k = v.toList.map f := by
 rw [List.drop_zero, List.take_of_length_le (by simp)]
theorem Xd4 (f : α → AV) (y : α) (hl : i.toNat < k) : [v.toList.map f].set 0 (wr (v.toList.map f) i.toNat [f y]) = [(v.setIfInBounds i.toNat y).toList.map f] := by
 have : wr (v.toList.map f) i.toNat [f y] = (v.setIfInBounds i.toNat y).toList.map f := by
  unfold wr
  rw [Vector.toList_setIfInBounds, List.map_set, List.set_eq_take_append_cons_drop, if_pos (by simpa using hl)]
  simp
 rw [this]; rfl
theorem rvLt (h : rdv v i = some e) : i.toNat < k := by have := rvL h; have := rv0 h; omega
theorem Xdf {β : Type} (f : α → β) : 0 + k ≤ (v.toList.map f).length := by simp
theorem Xdz (f : α → AV) (h : rdv v i = some e) : i.toNat + 1 ≤ (v.toList.map f).length := by have := rvLt h; simp; omega
theorem Xav (f : α → AV) {p : AV → Bool} (h : ∀ x, p (f x) = true) : (v.toList.map f).all p = true := by
 rw [List.all_eq_true]
 intro y hy
 obtain ⟨x, _, rfl⟩ := List.mem_map.1 hy
 exact h x
theorem Xbl (f : α → AV) (h : ∀ x, Qov (f x) = true) : Qdq (v.toList.map f) = true := by
 induction v.toList with
 | nil => rfl
 | cons x l ih => simp only [List.map_cons, Qdq, h x, ih, Bool.and_self]
theorem wrAll {x y : List AV} (h : x.length = y.length) : wr x 0 y = y := by
 unfold wr
 rw [List.take_zero, List.nil_append, Nat.zero_add, List.drop_of_length_le (by omega), List.append_nil]
theorem vecSt {u : Vector α k} (f g : α → AV) : [v.toList.map f].set 0 (wr (v.toList.map f) 0 (u.toList.map g)) = [u.toList.map g] := by
 rw [wrAll (by simp)]; rfl
theorem vecLL {u : Vector α k} (f g : α → AV) : 0 + (v.toList.map f).length ≤ (u.toList.map g).length := by simp
theorem Xbm {z : α} {u : Value} (f : α → AV) (h : f z = .lit u) : [Qf9 (List.replicate k u)] = [(Vector.replicate k z).toList.map f] := by
 simp [Qf9, Vector.toList_replicate, h]
theorem Qzp {z : α} {u : Value} (f : α → AV) (h : f z = .lit u) : AV.agg (Qf9 (List.replicate k u)) = AV.agg ((Vector.replicate k z).toList.map f) := by
 simp [Qf9, Vector.toList_replicate, h]
end
section
variable {α : Type} {k s : Nat} {v : Vector α k} {i : Int} {x y : α} {o : α → List AV}
end
theorem frI {ks : List Bool} {fr : List Nat} {m : Nat} (h : ((List.range ks.length).all fun i => !(ks[i]? == some true) || fr.contains i) = true) : ∀ i, i < m → ks[i]? = some true → i ∈ fr := by
 intro i _ hk
 have hi : i < ks.length := by
  rcases Nat.lt_or_ge i ks.length with h1 | h1
  ·exact h1
  ·rw [List.getElem?_eq_none_iff.2 h1] at hk; cases hk
 have := List.all_eq_true.1 h i (List.mem_range.2 hi)
 rw [hk] at this
 simpa using this
theorem clBe {T : Type} (f : T → List AV) {l l' : List T} {lo : Int} (h : slc l lo (l.length : Int) = some l') : lo.toNat + Qh4 (Int.toNat (((l.map f).length : Nat) : Int)) lo.toNat ≤ (l.map f).length := by
 obtain ⟨h0, h1, h2, _⟩ := slI h
 rw [Qgh, List.length_map]; omega
theorem Qv4 {T : Type} {l : List T} {z : T} {a n : Nat} (h : a + n ≤ l.length) : (Qud l z a n).length = l.length := by
 unfold Qud ovT; simp; omega
theorem Xdd {T : Type} (f : T → List AV) {l l' : List T} {lo : Int} {z : T} (h : slc l lo (l.length : Int) = some l') : (l.map f).length = ((Qud l z lo.toNat (Qh4 (Int.toNat (((l.map f).length : Nat) : Int)) lo.toNat)).map f).length := by
 have := clBe f h
 have e : (l.map f).length = l.length := List.length_map _
 have h2 : lo.toNat + Qh4 (Int.toNat (((l.map f).length : Nat) : Int)) lo.toNat ≤ l.length := by omega
 have e3 := Qv4 (z := z) h2
 have e4 : ((Qud l z lo.toNat (Qh4 (Int.toNat (((l.map f).length : Nat) : Int)) lo.toNat)).map f).length = (Qud l z lo.toNat (Qh4 (Int.toNat (((l.map f).length : Nat) : Int)) lo.toNat)).length := List.length_map _
 omega
section
variable {α β : Type} {l l' : List α} {i j : Int}
theorem adT {xs : List β} {n : Nat} {ys : List β} (h : n = xs.length) : xs.take n ++ ys = xs ++ ys := by rw [h, List.take_length]
theorem adB (f : α → β) {x c : β} {k : Nat} {y : α} (h : app l [y] = some l') {b : Nat} (hb : b ≤ 128) : ((l.map f).set k c ++ [x]).length * b ≤ 140737488355328 := by
 have := apB f (x := x) h hb
 simpa using this
theorem adC (f : α → β) {x c : β} {k : Nat} {y : α} (h : app l [y] = some l') : ((l.map f).set k c ++ [x]).length ≤ 140737488355328 := by
 have := apC f (x := x) h
 simpa using this
theorem adG (f : α → β) {x c : β} {k : Nat} : ((l.map f).set k c ++ [x])[l.length]? = some x := by
 rw [List.getElem?_append_right (by simp)]; simp
theorem adS (f : α → β) {x c : β} {y e : α} (h : app l [y] = some l') (hk : rd l i = some e) : ((l.map f).set i.toNat c ++ [x]).set l.length (f y) = (l'.map f).set i.toNat c := by
 have hi := (List.getElem?_eq_some_iff.1 (rdE hk)).1
 rw [← Qyq h, List.set_append_right _ _ (by simp), List.map_append, List.set_append_left _ _ (by simpa using hi)]
 simp
theorem adL (f : α → β) {x c : β} {k : Nat} {y : α} (h : app l [y] = some l') : List.length ((l.map f).set k c ++ [x]) = List.length ((l'.map f).set k c) := by
 rw [← Qyq h]; simp
end
end Go.T
set_option linter.unusedVariables false
namespace Go.T
open Go Go.RowKit Go.Proofs Go.Shelf Go.Sort
def Qrh (zs : List Int) : List (List AV) := zs.map fun x => [.lit (.int .i64 x)]
theorem Qps {w : World} {S : Nat → Prop} : ∀ (zs : List Int) (vs : List Value) (f : List Nat), Qbi w S 1 (Qrh zs) vs f → vs = zs.map (Value.int .i64) ∧ f = []
 | [], vs, f, h => by simpa [Qrh, Qbi] using h
 | z :: zs, vs, f, h => by
  have e : Qrh (z :: zs) = [.lit (.int .i64 z)] :: Qrh zs := rfl
  rw [e] at h
  simp only [Qbi, Qcy, rep] at h
  obtain ⟨us, us', f1, f2, rfl, rfl, hl, h1, h2, h3⟩ := h
  obtain ⟨rfl, rfl⟩ := Qps zs us' f2 h3
  obtain ⟨u, us2, g1, g2, rfl, rfl, ⟨rfl, rfl⟩, rfl, rfl⟩ := h2
  exact ⟨rfl, rfl⟩
theorem Qnf {w : World} {S : Nat → Prop} : ∀ (zs : List Int), Qbi w S 1 (Qrh zs) (zs.map (Value.int .i64)) []
 | [] => by simp [Qrh, Qbi]
 | z :: zs => by
  have e : Qrh (z :: zs) = [.lit (.int .i64 z)] :: Qrh zs := rfl
  rw [e]
  simp only [Qbi, Qcy, rep, List.map_cons]
  exact ⟨[Value.int .i64 z], _, [], [], rfl, rfl, rfl, by simp [Value.oneCell'], ⟨_, [], [], [], rfl, rfl, ⟨rfl, rfl⟩, rfl, rfl⟩, Qnf zs⟩
theorem Qmr (zs : List Int) : (Qrh zs).length = zs.length := by simp [Qrh]
theorem Qse {P : Program} {ρ : Ren} (Ly : SlLaysM.n5 P ρ) (hE : Enters P (ρ.f 5)) (T : Nat) (zs : List Int) (hz : zs.length < 4611686018427387904) :
  Qd3 P (ρ.f 5) [⟨T, 1, Qrh zs⟩] [.sl 0 0 (List.length (Qrh zs))] [true] [⟨T, 1, Qrh (zs.mergeSort fun x y => decide (x ≤ y))⟩] (.tup []) := by
 refine ⟨hE, ?_⟩
 intro w S hd fp vals hr hnone hdis hS hSb hargs
 obtain ⟨_, ⟨vs, fp', hown, hrep, hfp⟩, hnd⟩ := hr 0 _ rfl
 obtain ⟨rfl, rfl⟩ := Qps zs vs fp' hrep
 rw [List.append_nil] at hfp
 simp only [Qa7] at hargs
 obtain ⟨u, us', f1, f2, rfl, hf, hu, rfl, rfl⟩ := hargs
 obtain ⟨rfl, _⟩ := List.append_eq_nil_iff.1 hf.symm
 simp only [repR] at hu
 obtain ⟨_, _, hu⟩ := hu
 obtain ⟨_, ⟨A, cap, rfl, hcap, hA0, hA⟩, _⟩ := hu (hd 0) (Qrh zs).length 1 rfl
 have hsl : (zs.mergeSort fun x y => decide (x ≤ y)).length = zs.length := List.length_mergeSort _
 have hfp0 : ∀ i b, b ∈ fp i → i = 0 := by
  intro i b hb
  cases i with
  | zero => rfl
  | succ i => rw [hnone (i + 1) (by simp)] at hb; cases hb
 have hfpl : ∀ i b, b ∈ fp i → b < w.heap.size := by
  intro i b hb
  have := hfp0 i b hb
  subst this
  rw [hfp] at hb
  rcases hown.2 with ⟨h0, _⟩ | ⟨g, cap2, cur, h0, _, hg, _⟩
  ·rw [h0] at hb; simp [Value.ownBlock] at hb
  ·rw [h0] at hb
   simp [Value.ownBlock] at hb
   subst hb
   exact (Array.getElem?_eq_some_iff.1 hg).1
 have e3 : ((List.length (Qrh zs)) : Nat) = zs.length := Qmr zs
 cases hzz : zs with
 | nil =>
  subst hzz
  have := AnyM.slices_Sort_int_none Ly A cap w
  refine Calls.mono this ?_
  rintro e w' ⟨rfl, rfl⟩
  refine ⟨_, fp, [], rfl, rfl, Tp.refl _, rfl, Nat.le_refl _, fun k _ _ => rfl, ?_, ?_, fun i b hb => .inl ⟨i, hb⟩, by simp [repR, Qa7], List.nodup_nil, by simp, hdis, fun i b hb => ⟨by simp, hfpl i b hb⟩⟩
  ·intro i R' hR' hk
   cases i with
   | zero =>
    cases hR'
    exact ⟨⟨_, _, by simpa [Qrh] using hown, by simpa [Qrh] using hrep, by simpa using hfp⟩, hnd⟩
   | succ i => simp at hR'
  ·intro i hi
   cases i with
   | zero => simp at hi
   | succ i => exact hnone (i + 1) (by simp)
 | cons z0 zt =>
  rcases hown.2 with ⟨_, h0⟩ | ⟨g, cap2, cur, h0, hbase, hg, r1, r2, r3, r4⟩
  ·rw [Qmr, hzz] at h0; simp at h0
  ·obtain ⟨b, m, c, hh, rfl⟩ := hA (by rw [Qmr, hzz]; simp)
   rw [h0] at hh
   cases hh
   obtain ⟨m2, hm2⟩ := hA0 rfl
   rw [h0] at hm2
   cases hm2
   simp only [Nat.zero_mul] at *
   rw [e3] at r1 r4
   have hH : Holds (Value.int .i64) w g 0 zs.toArray := holds_of_blockI hg (by simpa using r4)
   have hgl : g < w.heap.size := (Array.getElem?_eq_some_iff.1 hg).1
   have := AnyM.slices_Sort_int Ly g 0 cap zs w hH hgl hz
   rw [← hzz, e3]
   refine Calls.mono this ?_
   rintro e w' ⟨rfl, n, os, rfl⟩
   obtain ⟨q1, q2, q3, q4, q5⟩ := grownBy_sortedI (w := w) (g := g) (n := n) (os := os) (zs.mergeSort fun x y => decide (x ≤ y)).toArray
   have hf0 : fp 0 = [g] := by rw [hfp, h0]; rfl
   refine ⟨_, fp, [], rfl, q1, ⟨q2, Nat.le_add_right _ _⟩, q3, q4, fun k hk hn => q5 k hk (fun e => hn 0 (by rw [hf0]; cases e; simp)), ?_, ?_, fun i b hb => .inl ⟨i, hb⟩, by simp [repR, Qa7], List.nodup_nil, by simp, hdis, fun i b hb => ⟨by simp, Nat.lt_of_lt_of_le (hfpl i b hb) q4⟩⟩
   ·intro i R' hR' hk
    cases i with
    | zero =>
     cases hR'
     refine ⟨⟨(zs.mergeSort fun x y => decide (x ≤ y)).map (Value.int .i64), [], ?_, Qnf _, by simpa using hfp⟩, hnd⟩
     have := ownsRow_sortedI (base := 0) (n := n) (os := os) (ts := zs.mergeSort fun x y => decide (x ≤ y)) (ss := zs) hsl (Nat.zero_le _) hg r1 r2 r3
     have e5 : (Qrh (zs.mergeSort fun x y => decide (x ≤ y))).length = zs.length := by rw [Qmr, hsl]
     simp only [e5]
     rw [h0, e3]
     exact this
    | succ i => simp at hR'
   ·intro i hi
    cases i with
    | zero => simp at hi
    | succ i => exact hnone (i + 1) (by simp)
noncomputable def srtL (p : List Int) : Option (Unit × List Int) := if p.length < 4611686018427387904 then some ((), p.mergeSort fun x y => decide (x ≤ y)) else none
theorem srtE {p : List Int} {r : Unit × List Int} (h : srtL p = some r) : p.length < 4611686018427387904 ∧ r = ((), p.mergeSort fun x y => decide (x ≤ y)) := by
 unfold srtL at h
 split at h
 ·rename_i h0; cases h; exact ⟨h0, rfl⟩
 ·cases h
end Go.T
