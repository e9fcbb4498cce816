/- Lemmas for FnExactAddPairs; no condition. -/

import Derived.Test.YtihgcgccajikpaaTF
import Derived.Laws.Small
set_option linter.unusedVariables false
namespace Go.T
open Go Go.RowKit

/- ------------------------------------------------ struct and array literals -/
def cellsOf : AV → List AV
  | .agg cs => cs
  | c => [c]
/-- a value that may stand in one cell -/
def okCell (s : St) : AV → Bool
  | .lit v => v.oneCell'
  | .ro _ _ => true
  | .rop _ _ => true
  | .sl i _ _ => (s.root i).isSome
  | .ptr i _ _ => (s.root i).isSome
  | _ => false
theorem okCell_plain {s : St} {c : AV} (h : okCell s c = true) : c.plain = true := by cases c <;> simp [okCell, AV.plain] at h ⊢
theorem okCell_one {w : World} {S U : Nat → Prop} {s : St} {hd : Nat → Value} {c : AV} {u : Value} {fp : List Nat} (h : repR w S U (tab s hd) c u fp) (hc : okCell s c = true) : u.oneCell' = true := by
  cases c with
  | lit v => simp only [repR, rep] at h; exact h.2.one hc
  | ro sz xs => simp only [repR, rep] at h; obtain ⟨_, A, cap, rfl, _⟩ := h; rfl
  | sl id off len =>
    simp only [okCell] at hc
    obtain ⟨R, hR⟩ := Option.isSome_iff_exists.1 hc
    simp only [repR] at h
    obtain ⟨_, ⟨A, cap, rfl, _⟩, _⟩ := h.2.2 (hd id) R.xs.length R.sz (by simp [tab, hR])
    rfl
  | ptr id e o =>
    simp only [okCell] at hc
    obtain ⟨R, hR⟩ := Option.isSome_iff_exists.1 hc
    simp only [repR] at h
    obtain ⟨_, b, m, c, _, rfl⟩ := h.2.2 (hd id) R.xs.length R.sz (by simp [tab, hR])
    rfl
  | rop cs o => simp only [repR, rep] at h; obtain ⟨_, b, o0, vs, rfl, _⟩ := h; rfl
  | _ => simp [okCell] at hc
theorem okCells_one {w : World} {S U : Nat → Prop} {s : St} {hd : Nat → Value} : ∀ (cs : List AV) (vs : List Value) (fp : List Nat), repRL w S U (tab s hd) cs vs fp → cs.all (okCell s) = true → ∀ u ∈ vs, u.oneCell' = true
  | [], _, _, h, _ => by simp only [repRL] at h; simp [h.1]
  | c :: cs, _, _, h, hc => by
    simp only [repRL] at h
    obtain ⟨u, us, f1, f2, rfl, rfl, h1, h2⟩ := h
    simp only [List.all_cons, Bool.and_eq_true] at hc
    intro y hy
    rcases List.mem_cons.1 hy with rfl | hy
    · exact okCell_one h1 hc.1
    · exact okCells_one cs us f2 h2 hc.2 y hy
theorem oneCell_cells {u : Value} (h : u.oneCell' = true) : u.cells = #[u] := by cases u <;> first | rfl | cases h
/-- the cells of a value -/
theorem cellsOf_rep {w : World} {S U : Nat → Prop} {s : St} {hd : Nat → Value} {v : AV} {u : Value} (h : repR w S U (tab s hd) v u []) (hc : (cellsOf v).all (okCell s) = true) : repRL w S U (tab s hd) (cellsOf v) u.cells.toList [] := by
  by_cases hv : ∃ cs, v = .agg cs
  · obtain ⟨cs, rfl⟩ := hv
    simp only [repR] at h
    obtain ⟨vs, rfl, h⟩ := h
    simpa [cellsOf, Value.cells] using h
  · have e : cellsOf v = [v] := by cases v <;> first | rfl | exact absurd ⟨_, rfl⟩ hv
    rw [e] at hc ⊢
    have h1 := okCell_one h (by simpa using hc)
    rw [oneCell_cells h1]
    simp only [repRL]
    exact ⟨u, [], [], [], rfl, rfl, h, rfl, rfl⟩

def evFill (s : St) (pl : Nat → Option (Nat × Nat)) : List AV → List (Nat × AV) → Option (List AV)
  | cells, [] => some cells
  | cells, (i, v) :: rest => match pl i with
    | none => none
    | some (off, size) => if (cellsOf v).length = size then (if off + size ≤ cells.length then (if (cellsOf v).all (okCell s) then evFill s pl (cells.take off ++ cellsOf v ++ cells.drop (off + size)) rest else none) else none) else none

theorem foldl_fill : ∀ (vs : List Value) (off : Nat) (cells : Array Value) (j : Nat), off + j + vs.length ≤ cells.size →
    ((vs.zipIdx j).foldl (fun cs (c, j) => cs.setIfInBounds (off + j) c) cells).toList = cells.toList.take (off + j) ++ vs ++ cells.toList.drop (off + j + vs.length)
  | [], off, cells, j, h => by simp
  | v :: vs, off, cells, j, h => by
    simp only [List.zipIdx_cons, List.foldl_cons]
    simp only [List.length_cons] at h
    rw [foldl_fill vs off (cells.setIfInBounds (off + j) v) (j + 1) (by simp; omega)]
    simp only [Array.toList_setIfInBounds]
    have hlt : off + j < cells.toList.length := by simp; omega
    rw [show off + (j + 1) = (off + j) + 1 by omega]
    rw [List.take_set, List.drop_set_of_lt (by omega), List.length_cons, show off + j + 1 + vs.length = off + j + (vs.length + 1) by omega]
    congr 1
    rw [List.take_succ_eq_append_getElem hlt, List.set_append_right _ _ (by rw [List.length_take]; omega)]
    rw [List.length_take, Nat.min_eq_left (by omega)]
    simp

def partsRep (w : World) (S U : Nat → Prop) (ρ : Tab) : List (Nat × AV) → List (Nat × Value) → Prop
  | [], vs => vs = []
  | (i, v) :: r, vs => ∃ u us, vs = (i, u) :: us ∧ repR w S U ρ v u [] ∧ partsRep w S U ρ r us

theorem repRL_nil_append {w : World} {S U : Nat → Prop} {ρ : Tab} {cs ds : List AV} {vs us : List Value} (h : repRL w S U ρ cs vs []) (h' : repRL w S U ρ ds us []) : repRL w S U ρ (cs ++ ds) (vs ++ us) [] := repRL_append _ _ _ _ [] [] h h'
theorem repRL_cut {w : World} {S U : Nat → Prop} {ρ : Tab} {cs : List AV} {vs : List Value} (h : repRL w S U ρ cs vs []) (n : Nat) : repRL w S U ρ (cs.take n) (vs.take n) [] ∧ repRL w S U ρ (cs.drop n) (vs.drop n) [] := by
  have hlen := repRL_length _ _ _ h
  rw [← List.take_append_drop n cs] at h
  obtain ⟨v1, v2, f1, f2, rfl, hf, h1, h2⟩ := repRL_split _ _ _ _ h
  obtain ⟨rfl, rfl⟩ := List.append_eq_nil_iff.1 hf.symm
  have l1 := repRL_length _ _ _ h1
  rw [List.length_take] at l1
  have e1 : (v1 ++ v2).take n = v1 ∧ (v1 ++ v2).drop n = v2 := by
    by_cases hn : n ≤ cs.length
    · rw [Nat.min_eq_left hn] at l1
      subst l1
      exact ⟨List.take_left, List.drop_left⟩
    · have l2 := repRL_length _ _ _ h2
      rw [List.length_drop] at l2
      have : v2 = [] := List.eq_nil_of_length_eq_zero (by omega)
      subst this
      rw [List.append_nil]
      exact ⟨List.take_of_length_le (by omega), List.drop_of_length_le (by omega)⟩
  rw [e1.1, e1.2]
  exact ⟨h1, h2⟩

theorem fill_sound {w : World} {S U : Nat → Prop} {s : St} {hd : Nat → Value} {pl : Nat → Option (Nat × Nat)} : ∀ (ps : List (Nat × AV)) (vs : List (Nat × Value)) (cs : List AV) (arr : Array Value) (r : List AV),
    partsRep w S U (tab s hd) ps vs → repRL w S U (tab s hd) cs arr.toList [] → evFill s pl cs ps = some r → ∃ arr', Instr.fill pl arr vs = some arr' ∧ repRL w S U (tab s hd) r arr'.toList []
  | [], vs, cs, arr, r, hp, hc, he => by
    simp only [partsRep] at hp
    subst hp
    simp only [evFill] at he
    cases he
    exact ⟨arr, rfl, hc⟩
  | (i, v) :: ps, vs, cs, arr, r, hp, hc, he => by
    simp only [partsRep] at hp
    obtain ⟨u, us, rfl, hu, hp⟩ := hp
    simp only [evFill] at he
    split at he
    · cases he
    rename_i off size hpl
    split at he
    case isFalse => cases he
    rename_i hl
    split at he
    case isFalse => cases he
    rename_i hle
    split at he
    case isFalse => cases he
    rename_i hok
    have hcs := cellsOf_rep hu hok
    have hul := repRL_length _ _ _ hcs
    have hal := repRL_length _ _ _ hc
    rw [Array.length_toList] at hul hal
    simp only [Instr.fill, hpl]
    rw [if_neg (by simp; omega)]
    refine fill_sound ps us _ _ r hp ?_ he
    have hz : (u.cells.zipIdx.foldl (fun cs (c, j) => cs.setIfInBounds (off + j) c) arr).toList = arr.toList.take off ++ u.cells.toList ++ arr.toList.drop (off + size) := by
      rw [← Array.foldl_toList, Array.toList_zipIdx]
      have := foldl_fill u.cells.toList off arr 0 (by rw [Array.length_toList]; omega)
      simpa [hul, hl] using this
    rw [hz]
    exact repRL_nil_append (repRL_nil_append (repRL_cut hc off).1 hcs) (repRL_cut hc (off + size)).2

def litL (vs : List Value) : List AV := vs.map .lit
theorem repRL_lits {w : World} {S U : Nat → Prop} {ρ : Tab} : ∀ vs : List Value, repRL w S U ρ (litL vs) vs []
  | [] => by simp [litL, repRL]
  | v :: vs => by
    simp only [litL, List.map_cons, repRL]
    exact ⟨v, vs, [], [], rfl, rfl, repR_lit v, repRL_lits vs⟩

def evParts (s : St) (ps : Array (Nat × Operand)) : List (Nat × AV) := ps.toList.map fun p => (p.1, opnd s p.2)
theorem evParts_rep {E : Env} {s : St} {a : Act} {w : World} {χ : Nat → Option Nat} {hd : Nat → Value} (h : Rel0 E s a w χ hd) (ps : Array (Nat × Operand)) : partsRep w (free χ w) (· ∈ s.us) (tab s hd) (evParts s ps) (ps.map fun (i, x) => (i, a.eval x)).toList := by
  rw [Array.toList_map]
  unfold evParts
  generalize ps.toList = l
  induction l with
  | nil => simp [partsRep]
  | cons p r ih =>
    simp only [List.map_cons, partsRep]
    exact ⟨a.eval p.2, _, rfl, opnd_rep h p.2, ih⟩

def plS (Θ : Tys) (fs : Array Field) (i : Nat) : Option (Nat × Nat) :=
  match fs[i]? with
  | some f => match Θ.lookup f.type with
    | some t => some (f.offset, t.sz)
    | none => none
  | none => none
def evBuild (Θ : Tys) (s : St) (t : Nat) (ps : Array (Nat × Operand)) : Option AV :=
  match Θ.lookup t with
  | some ⟨_, _, .struct fs, ze⟩ => if fs.toList.all (fun f => (Θ.lookup f.type).isSome) then (evFill s (plS Θ fs) (litL ze) (evParts s ps)).map .agg else none
  | some ⟨_, _, .array _ el, ze⟩ => match Θ.lookup el with
    | some te => (evFill s (fun i => some (i * te.sz, te.sz)) (litL ze) (evParts s ps)).map .agg
    | none => none
  | _ => none

theorem run_zeroValue {P : Program} {w : World} {t : Nat} {ti : TI} (h : tiOf P t = some ti) : ∃ z, (zeroValue t).run P w = .ok z w ∧ z.cells.toList = ti.zero := by
  obtain ⟨i, z, hi, _, _, hz, hc⟩ := tiOf_info h
  exact ⟨z, by simp [zeroValue, typeInfo, hi, hz], hc⟩

theorem run_mapM_places {P : Program} {w : World} {Θ : Tys} (hΘ : TOK P Θ) (fs : Array Field) (h : fs.toList.all (fun f => (Θ.lookup f.type).isSome) = true) :
    (fs.mapM fun f => do pure (f.offset, ← sizeOf f.type) : Sem (Array (Nat × Nat))).run P w = .ok (fs.map fun f => (f.offset, ((Θ.lookup f.type).map (·.sz)).getD 0)) w := by
  obtain ⟨l⟩ := fs
  rw [List.mapM_toArray]
  simp only [Sem.run_map]
  have : ∀ l : List Field, l.all (fun f => (Θ.lookup f.type).isSome) = true → (l.mapM fun f => do pure (f.offset, ← sizeOf f.type) : Sem (List (Nat × Nat))).run P w = .ok (l.map fun f => (f.offset, ((Θ.lookup f.type).map (·.sz)).getD 0)) w := by
    intro l
    induction l with
    | nil => intro _; simp
    | cons f r ih =>
      intro h
      simp only [List.all_cons, Bool.and_eq_true] at h
      obtain ⟨t, ht⟩ := Option.isSome_iff_exists.1 h.1
      simp only [List.mapM_cons, Sem.run_bind, Result.andThen_ok, run_sizeOf (hΘ.get ht), Sem.run_pure, ih h.2]
      simp [ht]
  rw [this l h]
  simp

theorem evBuild_sound {E : Env} {s : St} {a : Act} {w : World} {χ : Nat → Option Nat} {hd : Nat → Value} {Θ : Tys} (hΘ : TOK E.P Θ) (h : Rel0 E s a w χ hd) {t : Nat} {ps : Array (Nat × Operand)} {r : AV} (he : evBuild Θ s t ps = some r) :
    ∃ v, (Instr.build t (ps.map fun (i, x) => (i, a.eval x))).run E.P w = .ok v w ∧ repR w (free χ w) (· ∈ s.us) (tab s hd) r v [] := by
  unfold evBuild at he
  split at he
  · rename_i sz by_ fs ze hti
    have hti := hΘ.get hti
    have hu := run_underlying (P := E.P) (w := w) (tiOf_und hti)
    obtain ⟨z, hz, hzc⟩ := run_zeroValue (w := w) hti
    split at he
    case isFalse => cases he
    rename_i hall
    rw [Option.map_eq_some_iff] at he
    obtain ⟨cs, he, rfl⟩ := he
    have hzr : repRL w (free χ w) (· ∈ s.us) (tab s hd) (litL ze) z.cells.toList [] := by rw [hzc]; exact repRL_lits ze
    obtain ⟨arr, hf, hr⟩ := fill_sound _ _ _ z.cells cs (evParts_rep h ps) hzr he
    refine ⟨.agg arr, ?_, by simp only [repR]; exact ⟨arr.toList, by simp, hr⟩⟩
    simp only [Instr.build, Sem.run_bind, hz, hu, Result.andThen_ok, run_mapM_places hΘ fs hall]
    have hpl : ((fs.map fun f => (f.offset, ((Θ.lookup f.type).map (·.sz)).getD 0))[·]? : Nat → Option (Nat × Nat)) = plS Θ fs := by
      funext i
      simp only [plS, Array.getElem?_map]
      cases hi : fs[i]? with
      | none => rfl
      | some f =>
        have hm : f ∈ fs.toList := by
          have := Array.mem_of_getElem? hi
          simpa using this
        have := List.all_eq_true.1 hall f hm
        obtain ⟨t', ht'⟩ := Option.isSome_iff_exists.1 this
        simp [ht']
    rw [hpl, hf]
    rfl
  · rename_i sz by_ n el ze hti
    have hti := hΘ.get hti
    have hu := run_underlying (P := E.P) (w := w) (tiOf_und hti)
    obtain ⟨z, hz, hzc⟩ := run_zeroValue (w := w) hti
    split at he
    case h_2 => cases he
    rename_i te hte
    rw [Option.map_eq_some_iff] at he
    obtain ⟨cs, he, rfl⟩ := he
    have hzr : repRL w (free χ w) (· ∈ s.us) (tab s hd) (litL ze) z.cells.toList [] := by rw [hzc]; exact repRL_lits ze
    obtain ⟨arr, hf, hr⟩ := fill_sound _ _ _ z.cells cs (evParts_rep h ps) hzr he
    refine ⟨.agg arr, ?_, by simp only [repR]; exact ⟨arr.toList, by simp, hr⟩⟩
    simp only [Instr.build, Sem.run_bind, hz, hu, Result.andThen_ok, run_sizeOf (hΘ.get hte)]
    rw [hf]
    rfl
  · cases he

/- ------------------------------------------------ all that only computes -/
def evMM (mx : Bool) : List AV → Option AV
  | [.lit (.int k a), .lit (.int _ b)] => some (.lit (.int k (if mx then (if b > a then b else a) else (if b < a then b else a))))
  | _ => none
def evVal (Θ : Tys) (s : St) (op : Op) : Option AV :=
  match op with
  | .move x => some (opnd s x)
  | .assign x => some (opnd s x)
  | .pick c a b => match opnd s c with
    | .lit (.bool t) => some (if t then opnd s a else opnd s b)
    | _ => none
  | .binOp op t x y _ => match opnd s x, opnd s y with
    | .lit (.bool u), .lit (.bool v) => match op, Θ.lookup t with
      | .eql, some ⟨_, _, .bool, _⟩ => some (.lit (.bool (u == v)))
      | .neq, some ⟨_, _, .bool, _⟩ => some (.lit (.bool (!(u == v))))
      | _, _ => none
    | .lit u, .lit v => (evBin op u v).map .lit
    | _, _ => none
  | .unOp op _ x => match opnd s x with
    | .lit u => (evUn op u).map .lit
    | _ => none
  | .convert src dst x => match Θ.lookup src, Θ.lookup dst, opnd s x with
    | some _, some ⟨_, _, .int k, _⟩, .lit (.int _ n) => some (.lit (.int k (k.wrap n)))
    | _, _, _ => none
  | .load t p => evLoad Θ s t (opnd s p)
  | .fieldAddr t x f => evFAddr Θ s t (opnd s x) f
  | .field t x f => evField Θ t (opnd s x) f
  | .indexAddr t x i => evIdx Θ s t (opnd s x) (opnd s i)
  | .index t x i => evIndex Θ t (opnd s x) (opnd s i)
  | .slice t x lo hi none => evSlice Θ s t (opnd s x) (lo.map (opnd s)) (hi.map (opnd s))
  | .nilCheck x => match opnd s x with
    | .rop cs o => some (.rop cs o)
    | .ptr id e o => match s.root id with
      | some _ => some (.ptr id e o)
      | none => none
    | _ => none
  | .extract x i => match opnd s x with
    | .tup cs => cs[i]?
    | _ => none
  | .build t ps => evBuild Θ s t ps
  | .makeFunc (.func g) first caps => if first.size = 0 then some (.fn g (caps.toList.map (opnd s))) else none
  | .call ⟨.builtin .len, args, tys⟩ => match args.toList, tys.toList with
    | [x], [t] => evLenS Θ s t (opnd s x)
    | _, _ => none
  | .call ⟨.builtin .cap, args, tys⟩ => match args.toList, tys.toList with
    | [x], [t] => match Θ.lookup t, opnd s x with
      | some ⟨_, _, .slice _, _⟩, .lit (.slice _ _ n) => some (.lit (.int .i64 n))
      | _, _ => none
    | _, _ => none
  | .call ⟨.builtin .max, args, _⟩ => evMM true (args.toList.map (opnd s))
  | .call ⟨.builtin .min, args, _⟩ => evMM false (args.toList.map (opnd s))
  | _ => none

theorem opndL_rep {E : Env} {s : St} {a : Act} {w : World} {χ : Nat → Option Nat} {hd : Nat → Value} (h : Rel0 E s a w χ hd) : ∀ l : List Operand, repRL w (free χ w) (· ∈ s.us) (tab s hd) (l.map (opnd s)) (l.map a.eval) []
  | [] => by simp [repRL]
  | x :: l => by
    simp only [List.map_cons, repRL]
    exact ⟨_, _, [], [], rfl, rfl, opnd_rep h x, opndL_rep h l⟩

theorem repO_opnd {E : Env} {s : St} {a : Act} {w : World} {χ : Nat → Option Nat} {hd : Nat → Value} (h : Rel0 E s a w χ hd) (x : Option Operand) : repO w (free χ w) (· ∈ s.us) (tab s hd) (x.map (opnd s)) (x.map a.eval) := by
  cases x with
  | none => rfl
  | some x => exact ⟨_, rfl, opnd_rep h x⟩

theorem repRL_get {w : World} {S U : Nat → Prop} {ρ : Tab} : ∀ (cs : List AV) (vs : List Value) (i : Nat) (c : AV), repRL w S U ρ cs vs [] → cs[i]? = some c → ∃ v, vs[i]? = some v ∧ repR w S U ρ c v []
  | [], _, i, c, _, h => by simp at h
  | d :: cs, vs, i, c, h, he => by
    simp only [repRL] at h
    obtain ⟨u, us, f1, f2, rfl, hf, h1, h2⟩ := h
    obtain ⟨rfl, rfl⟩ := List.append_eq_nil_iff.1 hf.symm
    cases i with
    | zero => simp at he; subst he; exact ⟨u, rfl, h1⟩
    | succ i => simp at he; simpa using repRL_get cs us i c h2 he

theorem lit_inv {w : World} {S U : Nat → Prop} {ρ : Tab} {v u : Value} {fp : List Nat} (h : repR w S U ρ (.lit v) u fp) (hv : nf v = true := by rfl) : u = v := by simp only [repR, rep] at h; exact h.2.eq hv
theorem lit_veq {w : World} {S U : Nat → Prop} {ρ : Tab} {v u : Value} {fp : List Nat} (h : repR w S U ρ (.lit v) u fp) : VEq u v := by simp only [repR, rep] at h; exact h.2

theorem evVal_sound {E : Env} {s : St} {a : Act} {w : World} {χ : Nat → Option Nat} {hd : Nat → Value} {Θ : Tys} (hΘ : TOK E.P Θ) (h : Rel0 E s a w χ hd) {o : Oper} {r : AV} (he : evVal Θ s o.op = some r) :
    ∃ v, (execOp a.eval o).run E.P w = .ok (.value v) w ∧ repR w (free χ w) (· ∈ s.us) (tab s hd) r v [] := by
  obtain ⟨dst, op, type, pos, after, guard⟩ := o
  simp only at he
  unfold evVal at he
  split at he
  · cases he; exact ⟨_, by simp [execOp], opnd_rep h _⟩
  · cases he; exact ⟨_, by simp [execOp], opnd_rep h _⟩
  · rename_i c x y
    split at he
    case h_2 => cases he
    rename_i t ht
    cases he
    have hc := opnd_rep h c
    rw [ht] at hc
    have hc := lit_inv hc
    cases t
    · exact ⟨a.eval y, by simp [execOp, hc, asBool], by simpa using opnd_rep h y⟩
    · exact ⟨a.eval x, by simp [execOp, hc, asBool], by simpa using opnd_rep h x⟩
  · rename_i op t x y _
    split at he
    · rename_i u v hu hv
      have hx := lit_inv (hu ▸ opnd_rep h x)
      have hy := lit_inv (hv ▸ opnd_rep h y)
      split at he
      · rename_i hti
        have hun := run_underlying (P := E.P) (w := w) (tiOf_und (hΘ.get hti))
        cases he
        refine ⟨_, ?_, repR_lit _⟩
        simp only [execOp, hx, hy, Sem.run_bind, eqGuard, Bool.not_true, Bool.false_eq_true, if_false, Sem.run_pure, Result.andThen_ok]
        rw [run_eql_bool w t u v (tiOf_und (hΘ.get hti))]
        rfl
      · rename_i hti
        have hun := run_underlying (P := E.P) (w := w) (tiOf_und (hΘ.get hti))
        cases he
        refine ⟨_, ?_, repR_lit _⟩
        simp only [execOp, hx, hy, Sem.run_bind, eqGuard, Bool.not_true, Bool.false_eq_true, if_false, Sem.run_pure, Result.andThen_ok]
        rw [run_neq_bool w t u v (tiOf_und (hΘ.get hti))]
        rfl
      · cases he
    · rename_i u v _ hu hv
      rw [Option.map_eq_some_iff] at he
      obtain ⟨z, he, rfl⟩ := he
      have hx := lit_inv (hu ▸ opnd_rep h x) (evBin_nf he).1
      have hy := lit_inv (hv ▸ opnd_rep h y) (evBin_nf he).2
      refine ⟨z, ?_, repR_lit _⟩
      have := evBin_sound (P := E.P) (w := w) (X := x) (Y := y) (t := t) he
      simp only [execOp, hx, hy]
      rw [Sem.run_bind, this]
      rfl
    · cases he
  · rename_i op t x
    split at he
    case h_2 => cases he
    rename_i u hu
    rw [Option.map_eq_some_iff] at he
    obtain ⟨z, he, rfl⟩ := he
    have hx := lit_inv (hu ▸ opnd_rep h x) (evUn_nf he)
    exact ⟨z, by simp [execOp, hx, evUn_sound he], repR_lit _⟩
  · rename_i src dst x
    split at he
    case h_2 => cases he
    rename_i hts hti hu
    have hx := lit_inv (hu ▸ opnd_rep h x)
    have hun := run_underlying (P := E.P) (w := w) (tiOf_und (hΘ.get hti))
    have hus := run_underlying (P := E.P) (w := w) (tiOf_und (hΘ.get hts))
    cases he
    refine ⟨_, ?_, repR_lit _⟩
    simp only [execOp, hx, Sem.run_bind, convert, hun, hus, Result.andThen_ok, Conv.intToInt, Sem.run_pure]
  · rename_i t p
    obtain ⟨v, hr, hv⟩ := evLoad_sound hΘ h (opnd_rep h p) he
    exact ⟨v, by simp [execOp, hr], hv⟩
  · rename_i t x f
    obtain ⟨v, hr, hv⟩ := evFAddr_sound hΘ h (opnd_rep h x) he
    exact ⟨v, by simp [execOp, hr], hv⟩
  · rename_i t x f
    obtain ⟨v, hr, hv⟩ := evField_sound hΘ (opnd_rep h x) he
    exact ⟨v, by simp [execOp, hr], hv⟩
  · rename_i t x i
    obtain ⟨v, hr, hv⟩ := evIdx_sound hΘ h (opnd_rep h x) (opnd_rep h i) he
    exact ⟨v, by simp [execOp, hr], hv⟩
  · rename_i t x i
    obtain ⟨v, hr, hv⟩ := evIndex_sound hΘ (opnd_rep h x) (opnd_rep h i) he
    exact ⟨v, by simp [execOp, hr], hv⟩
  · rename_i t x lo hi
    obtain ⟨v, hr, hv⟩ := evSlice_sound hΘ h (opnd_rep h x) (repO_opnd h lo) (repO_opnd h hi) he
    exact ⟨v, by simp [execOp, hr], hv⟩
  · rename_i x
    have hx := opnd_rep h x
    split at he
    · rename_i cs o0 hcs
      cases he
      rw [hcs] at hx
      have hx0 := hx
      simp only [repR, rep] at hx
      obtain ⟨_, b, o1, vs, hu, _⟩ := hx
      exact ⟨a.eval x, by simp [execOp, hu], hx0⟩
    · rename_i id e o0 hcs
      split at he
      case h_2 => cases he
      rename_i R hR
      cases he
      rw [hcs] at hx
      have hx0 := hx
      simp only [repR] at hx
      obtain ⟨_, _, hx⟩ := hx
      obtain ⟨_, b, m, c, _, hu⟩ := hx (hd id) R.xs.length R.sz (by simp [tab, hR])
      exact ⟨a.eval x, by simp [execOp, hu], hx0⟩
    · cases he
  · rename_i x i
    split at he
    case h_2 => cases he
    rename_i cs hcs
    have hx := opnd_rep h x
    rw [hcs] at hx
    simp only [repR] at hx
    obtain ⟨vs, hvs, hx⟩ := hx
    obtain ⟨v, hv, hr⟩ := repRL_get _ _ _ _ hx he
    exact ⟨v, by simp [execOp, hvs, Instr.extract, hv], hr⟩
  · rename_i t ps
    obtain ⟨v, hr, hv⟩ := evBuild_sound hΘ h he
    exact ⟨v, by simp [execOp, hr], hv⟩
  · rename_i g first caps
    split at he
    case isFalse => cases he
    rename_i hf
    cases he
    have : first = #[] := by simpa using hf
    subst this
    refine ⟨.func (.func g) #[] (caps.map a.eval), by simp [execOp, Instr.makeFunc], ?_⟩
    simp only [repR]
    exact ⟨_, by rw [← Array.toList_map, Array.toArray_toList], opndL_rep h caps.toList⟩
  · rename_i args tys
    split at he
    case h_2 => cases he
    rename_i x t hx ht
    have hx : args = #[x] := by rw [← Array.toArray_toList (xs := args), hx]
    have ht : tys = #[t] := by rw [← Array.toArray_toList (xs := tys), ht]
    subst hx; subst ht
    obtain ⟨v, hr, hv⟩ := evLenS_sound hΘ h (opnd_rep h x) he (ty := type)
    exact ⟨v, by simp [execOp, resolve, invoke, builtin, hr], hv⟩
  · rename_i args tys
    split at he
    case h_2 => cases he
    rename_i x t hx ht
    have hx : args = #[x] := by rw [← Array.toArray_toList (xs := args), hx]
    have ht : tys = #[t] := by rw [← Array.toArray_toList (xs := tys), ht]
    subst hx; subst ht
    split at he
    case h_2 => cases he
    rename_i hti hxv
    have hu := run_underlying (P := E.P) (w := w) (tiOf_und (hΘ.get hti))
    cases he
    have hxe := lit_inv (hxv ▸ opnd_rep h x)
    exact ⟨_, by simp [execOp, resolve, invoke, builtin, hxe, Builtin.cap_, hu, goInt], repR_lit _⟩
  · rename_i args tys
    unfold evMM at he
    split at he
    case h_2 => cases he
    rename_i k x k' y hxy
    cases he
    have hl := opndL_rep h args.toList
    rw [hxy] at hl
    simp only [repRL, repR, rep] at hl
    obtain ⟨u, us, f1, f2, hv, _, ⟨_, rfl⟩, u', us', f1', f2', rfl, _, ⟨_, rfl⟩, rfl, _⟩ := hl
    refine ⟨_, ?_, repR_lit _⟩
    simp [execOp, resolve, invoke, builtin, Builtin.max_, hv, Builtin.max2]
  · rename_i args tys
    unfold evMM at he
    split at he
    case h_2 => cases he
    rename_i k x k' y hxy
    cases he
    have hl := opndL_rep h args.toList
    rw [hxy] at hl
    simp only [repRL, repR, rep] at hl
    obtain ⟨u, us, f1, f2, hv, _, ⟨_, rfl⟩, u', us', f1', f2', rfl, _, ⟨_, rfl⟩, rfl, _⟩ := hl
    refine ⟨_, ?_, repR_lit _⟩
    simp [execOp, resolve, invoke, builtin, Builtin.min_, hv, Builtin.min2]
  · cases he
end Go.T
