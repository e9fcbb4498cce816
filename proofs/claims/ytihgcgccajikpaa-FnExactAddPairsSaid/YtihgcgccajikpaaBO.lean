/- Lemmas for FnExactAddPairs; no condition. -/

import Derived.Test.YtihgcgccajikpaaBA
import Derived.Test.YtihgcgccajikpaaTY
set_option linter.unusedVariables false
namespace Go.T
open Go Go.RowKit Go.Proofs

/- ------------------------------------------------ cuts of a root that are written in place -/
/-- append of a cut behind a cut of the same root: the root, its rows, the value -/
def apiC (Θ : Tys) (s : St) (op : Op) : Option (Nat × Root × AV × List Prop) :=
  match op with
  | .call ⟨.builtin .append, args, tys⟩ => match args.toList, tys.toList with
    | [x, y], [t, t'] => if t = t' then match Θ.lookup t with
      | some ⟨_, _, .slice el, _⟩ => match Θ.lookup el, opnd s x, opnd s y with
        | some te, .sl i 0 k, .sl j k2 n => if i = j then (match s.root i with
          | some R => if R.sz = te.sz then (if 0 < R.sz then (if R.T = el then some (i, ⟨R.T, R.sz, ovr_ R.xs k ((R.xs.drop k2).take n)⟩, .sl i 0 (k + n), [litR R.xs = true, k + n ≤ R.xs.length]) else none) else none) else none
          | none => none) else none
        | _, _, _ => none
      | _ => none
      else none
    | _, _ => none
  | _ => none
theorem apiC_sound {E : Env} {Θ : Tys} (hΘ : TOK E.P Θ) {s : St} {o : Oper} (hd : okD E.n o.dst = true) {i : Nat} {R : Root} {r : AV} {ps : List Prop} (he : apiC Θ s o.op = some (i, R, r, ps)) (hp : AllP ps) : OpTo E o s ((s.setR i R).putO o.dst r) := by
  unfold apiC at he
  split at he
  case h_2 => cases he
  rename_i args tys hop
  split at he
  case h_2 => cases he
  rename_i x y t t' ha ht
  split at he
  case isFalse => cases he
  rename_i htt
  subst htt
  split at he
  case h_2 => cases he
  rename_i sz by_ el ze hti
  split at he
  case h_2 => cases he
  rename_i te i' k j k2 n hte hx hy
  split at he
  case isFalse => cases he
  rename_i hij
  subst hij
  split at he
  case h_2 => cases he
  rename_i R' hR
  split at he
  case isFalse => cases he
  rename_i h1
  split at he
  case isFalse => cases he
  rename_i h2
  split at he
  case isFalse => cases he
  rename_i h3
  cases he
  obtain ⟨p1, p2, _⟩ := hp
  have e1 : args = #[x, y] := by rw [← Array.toArray_toList (xs := args), ha]
  have e2 : tys = #[t, t] := by rw [← Array.toArray_toList (xs := tys), ht]
  subst e1; subst e2
  exact opTo_appIn hΘ hop hd hti rfl hte hx hy hR h1 h2 h3 p1 p2

def exN (Θ : Tys) (s : St) (o : Oper) : H → Option (St × List Prop)
  | .api => match apiC Θ s o.op with
    | some (i, R, r, ps) => some ((s.setR i R).putO o.dst r, ps)
    | none => none
  | .sl3 => match o.op with
    | .slice t x lo hi mx => match Θ.lookup t, opnd s x, bnd 0 (lo.map (opnd s)), hi.map (opnd s), mx.map (opnd s) with
      | some ⟨_, _, .slice el, _⟩, .sl id off len, some l, some (.lit (.int _ hh)), some (.lit (.int _ mm)) => match Θ.lookup el, s.root id with
        | some te, some R => some (s.putO o.dst .dead, [0 ≤ l, l ≤ hh, hh ≤ mm, mm ≤ (len : Int)])
        | _, _ => none
      | _, _, _, _, _ => none
    | _ => none
  | .slB => match o.op with
    | .slice t x lo hi none => match Θ.lookup t, opnd s x, bnd 0 (lo.map (opnd s)), hi.map (opnd s) with
      | some ⟨_, _, .slice el, _⟩, .sl id 0 len, some l, some (.lit (.int _ hh)) => match Θ.lookup el, s.root id with
        | some te, some R => if R.sz = te.sz then some (s.putO o.dst (.sl id l.toNat (hh.toNat - l.toNat)), [0 ≤ l, l ≤ hh, hh ≤ ((R.xs.length : Nat) : Int)]) else none
        | _, _ => none
      | _, _, _, _ => none
    | _ => none
  | .clr xs' => match o.op with
    | .call ⟨.builtin .clear, args, tys⟩ => match args.toList, tys.toList with
      | [x], [t] => match Θ.lookup t, opnd s x with
        | some ⟨_, _, .slice el, _⟩, .sl i off n => match Θ.lookup el, s.root i with
          | some te, some R => if R.sz = te.sz then (if zOK te then some ((s.setR i ⟨R.T, R.sz, xs'⟩).putO o.dst .dead, [litR R.xs = true, off + n ≤ R.xs.length, ovr_ R.xs off (List.replicate n (litL te.zero)) = xs']) else none) else none
          | _, _ => none
        | _, _ => none
      | _, _ => none
    | _ => none
  | _ => none
theorem exN_sound {E : Env} {Θ : Tys} (hΘ : TOK E.P Θ) {s s' : St} {o : Oper} (hd : okD E.n o.dst = true) {h : H} {ps : List Prop} (he : exN Θ s o h = some (s', ps)) (hp : AllP ps) : OpTo E o s s' := by
  unfold exN at he
  split at he
  · split at he
    case h_2 => cases he
    rename_i i R r qs ha
    cases he
    exact apiC_sound hΘ hd ha hp
  · split at he
    case h_2 => cases he
    rename_i t x lo hi mx hop
    split at he
    case h_2 => cases he
    rename_i el ze id off len l hh mm hti hx hl hhi hmx
    split at he
    case h_2 => cases he
    rename_i te R hte hR
    cases he
    obtain ⟨p1, p2, p3, p4, _⟩ := hp
    exact opTo_slice3 hΘ hop hd hti rfl hte hx hR hmx hhi hl p1 p2 p3 p4
  · split at he
    case h_2 => cases he
    rename_i t x lo hi hop
    split at he
    case h_2 => cases he
    rename_i el ze id len l k hh hti hx hl hhi
    split at he
    case h_2 => cases he
    rename_i te R hte hR
    split at he
    case isFalse => cases he
    rename_i hsz
    cases he
    obtain ⟨p1, p2, p3, _⟩ := hp
    have e : ((hh.toNat : Nat) : Int) = hh := Int.toNat_of_nonneg (by omega)
    rw [← e] at hhi
    have := opTo_sliceB hΘ hop hd hti rfl hte hx hR hsz hhi hl p1 (by omega) (by omega)
    exact this
  · split at he
    case h_2 => cases he
    rename_i args tys hop
    split at he
    case h_2 => cases he
    rename_i x t ha ht
    split at he
    case h_2 => cases he
    rename_i el ze i off n hti hx
    split at he
    case h_2 => cases he
    rename_i te R hte hR
    split at he
    case isFalse => cases he
    rename_i hsz
    split at he
    case isFalse => cases he
    rename_i hz
    cases he
    obtain ⟨p1, p2, p3, _⟩ := hp
    rw [← p3]
    have e1 : args = #[x] := by rw [← Array.toArray_toList (xs := args), ha]
    have e2 : tys = #[t] := by rw [← Array.toArray_toList (xs := tys), ht]
    subst e1; subst e2
    exact opTo_clear hΘ hop hd hti rfl hte hz hx hR hsz p1 p2
  · cases he

/- ------------------------------------------------ Delete -/
theorem ovr_litR {xs ys : List (List AV)} {k : Nat} (h : litR xs = true) (hy : litR ys = true) : litR (ovr_ xs k ys) = true := by
  unfold litR at *
  rw [List.all_eq_true] at *
  intro r hr
  simp only [ovr_, List.mem_append] at hr
  rcases hr with (h1 | h1) | h1
  · exact h r (List.mem_of_mem_take h1)
  · exact hy r h1
  · exact h r (List.mem_of_mem_drop h1)
theorem ovr_litS {xs : List (List AV)} {k k2 n : Nat} (h : litR xs = true) : litR (ovr_ xs k ((xs.drop k2).take n)) = true :=
  ovr_litR h (litR_sub h (fun r hr => List.mem_of_mem_drop (List.mem_of_mem_take hr)))
theorem litR_map {T : Type} {o : T → List AV} (h : ∀ x, (o x).all isLit = true) (xs : List T) : litR (xs.map o) = true := by
  unfold litR
  rw [List.all_eq_true]
  intro r hr
  obtain ⟨x, _, rfl⟩ := List.mem_map.1 hr
  exact h x
noncomputable def delL {T : Type} (t : List T) (i j : Int) : Option (List T) := if 0 ≤ i ∧ i ≤ j ∧ j ≤ (t.length : Int) then some (t.take i.toNat ++ t.drop j.toNat) else none
theorem delE {T : Type} {t r : List T} {i j : Int} (h : delL t i j = some r) : 0 ≤ i ∧ i ≤ j ∧ j ≤ (t.length : Int) ∧ r = t.take i.toNat ++ t.drop j.toNat := by
  unfold delL at h
  split at h
  · rename_i h0; cases h; exact ⟨h0.1, h0.2.1, h0.2.2, rfl⟩
  · cases h
theorem ovr_take {xs ys : List (List AV)} {a : Nat} (h : a ≤ xs.length) : (ovr_ xs a ys).take a = xs.take a := by
  unfold ovr_
  rw [List.append_assoc, List.take_append_of_le_length (by rw [List.length_take]; omega), List.take_take, Nat.min_self]
theorem ovr_take2 {xs ys : List (List AV)} {a n : Nat} (h : a ≤ xs.length) (hn : ys.length = n) : (ovr_ xs a ys).take (a + n) = xs.take a ++ ys := by
  unfold ovr_
  have e : (xs.take a ++ ys).length = a + n := by rw [List.length_append, List.length_take]; omega
  rw [← e]
  exact List.take_left
section
variable {T : Type} {o : T → List AV} {t : List T} {i j : Int}
theorem delN (d2 : j ≤ (t.length : Int)) : (((t.map o).drop j.toNat).take (subO (List.length (t.map o)) j.toNat)) = (t.map o).drop j.toNat ∧ subO (List.length (t.map o)) j.toNat = ((t.map o).drop j.toNat).length := by
  rw [subO_eq]
  constructor
  · exact List.take_of_length_le (by rw [List.length_drop]; omega)
  · rw [List.length_drop]
theorem delA (d0 : 0 ≤ i) (d1 : i ≤ j) (d2 : j ≤ (t.length : Int)) : i.toNat + subO (List.length (t.map o)) j.toNat ≤ (t.map o).length := by
  rw [subO_eq, List.length_map]; omega
theorem delB (d0 : 0 ≤ i) (d1 : i ≤ j) (d2 : j ≤ (t.length : Int)) : ((i.toNat + subO (List.length (t.map o)) j.toNat : Nat) : Int) ≤ ((List.length (t.map o) : Nat) : Int) := by
  have := delA (o := o) d0 d1 d2
  omega
theorem delO (d0 : 0 ≤ i) (d1 : i ≤ j) (d2 : j ≤ (t.length : Int)) : (ovr_ (t.map o) i.toNat (((t.map o).drop j.toNat).take (subO (List.length (t.map o)) j.toNat))).length = (t.map o).length := by
  apply ovr_len
  rw [(delN d2).1, List.length_drop, List.length_map]; omega
theorem delC (d0 : 0 ≤ i) (d1 : i ≤ j) (d2 : j ≤ (t.length : Int)) : ((List.length (t.map o) : Nat) : Int) ≤ (((ovr_ (t.map o) i.toNat (((t.map o).drop j.toNat).take (subO (List.length (t.map o)) j.toNat))).length : Nat) : Int) := by
  rw [delO d0 d1 d2]; exact Int.le_refl _
theorem delD (d0 : 0 ≤ i) (d1 : i ≤ j) (d2 : j ≤ (t.length : Int)) : (i.toNat + subO (List.length (t.map o)) j.toNat) + (List.length (t.map o) - (i.toNat + subO (List.length (t.map o)) j.toNat)) ≤ (ovr_ (t.map o) i.toNat (((t.map o).drop j.toNat).take (subO (List.length (t.map o)) j.toNat))).length := by
  rw [delO d0 d1 d2]
  have := delA (o := o) d0 d1 d2
  omega
theorem delQ (d0 : 0 ≤ i) (d1 : i ≤ j) (d2 : j ≤ (t.length : Int)) {m : Nat} {Z : List AV} : (ovr_ (ovr_ (t.map o) i.toNat (((t.map o).drop j.toNat).take (subO (List.length (t.map o)) j.toNat))) (i.toNat + subO (List.length (t.map o)) j.toNat) (List.replicate m Z)).take (i.toNat + subO (List.length (t.map o)) j.toNat) = (t.take i.toNat ++ t.drop j.toNat).map o := by
  rw [ovr_take (by rw [delO d0 d1 d2]; exact delA d0 d1 d2)]
  rw [ovr_take2 (by rw [List.length_map]; omega) (by rw [(delN d2).1, ← (delN d2).2])]
  rw [(delN d2).1, List.map_append, List.map_take, List.map_drop]
theorem delS (c : (i == j) = true) : (t.map o).take (List.length (t.map o)) = (t.take i.toNat ++ t.drop j.toNat).map o := by
  have : i = j := by simpa using c
  subst this
  rw [List.take_append_drop, List.take_of_length_le (Nat.le_refl _)]
end
/-- some elements over others -/
def ovT {T : Type} (xs : List T) (a : Nat) (ys : List T) : List T := xs.take a ++ ys ++ xs.drop (a + ys.length)
/-- a row whose end is zero -/
def clrT {T : Type} (xs : List T) (z : T) (a n : Nat) : List T := ovT xs a (List.replicate n z)
theorem clrM {T : Type} (o : T → List AV) {xs : List T} {z : T} {Z : List AV} {a n : Nat} (h : o z = Z) : ovr_ (xs.map o) a (List.replicate n Z) = (clrT xs z a n).map o := by
  subst h
  simp [ovr_, clrT, ovT, List.map_take, List.map_drop]
end Go.T
