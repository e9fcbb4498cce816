/- Lemmas for FnExactAddPairs; no condition. -/

import Derived.Test.YtihgcgccajikpaaBO
set_option linter.unusedVariables false
namespace Go.T
open Go Go.RowKit Go.Proofs

def okLit : AV → Bool
  | .lit v => v.oneCell'
  | .ro _ _ => true
  | .rop _ _ => true
  | _ => false
theorem okLit_cell {s : St} {c : AV} (h : okLit c = true) : okCell s c = true := by cases c <;> simp_all [okLit, okCell]
theorem okLits {s : St} {cs : List AV} (h : cs.all okLit = true) : cs.all (okCell s) = true := by
  rw [List.all_eq_true] at h ⊢
  exact fun c hc => okLit_cell (h c hc)

/- ------------------------------------------------ new memory -/
def boxOK (s : St) (h : H) (cs : List AV) : Option (List Prop) :=
  match h with
  | .nw _ _ => some [cs.all okLit = true, 0 < cs.length]
  | _ => if cs.all (okCell s) then (if 0 < cs.length then some [] else none) else none
def boxSz (Θ : Tys) (t : Nat) (h : H) (n : Nat) : Nat × List Prop :=
  match h with
  | .nw _ _ => match Θ.lookup t with
    | some te => (te.sz, [n = te.sz])
    | none => (n, [])
  | _ => (n, [])
theorem boxSz_eq {Θ : Tys} {t : Nat} {h : H} {n : Nat} (hp : AllP (boxSz Θ t h n).2) : (boxSz Θ t h n).1 = n := by
  unfold boxSz at hp ⊢
  split
  · split
    · rename_i h1; simp only [h1] at hp; exact hp.1.symm
    · rfl
  · rfl
def newC (Θ : Tys) (s : St) (op : Op) (h : H) (id : Nat) : Option (Root × AV × List Prop) :=
  match op with
  | .box t x => match boxOK s h (cellsOf (opnd s x)) with
    | some ps => some (⟨t, (boxSz Θ t h (cellsOf (opnd s x)).length).1, [cellsOf (opnd s x)]⟩, .ptr id 0 0, (boxSz Θ t h (cellsOf (opnd s x)).length).2 ++ ps)
    | none => none
  | .makeSlice t l c => match Θ.lookup t, opnd s l, opnd s c with
    | some ⟨_, _, .slice el, _⟩, .lit (.int _ n), .lit (.int _ m) => match Θ.lookup el with
      | some te => if zOK te then some (⟨el, te.sz, List.replicate n.toNat (litL te.zero)⟩, .sl id 0 n.toNat, [n = m, 0 ≤ n, n * te.bytes ≤ 140737488355328, n ≤ 140737488355328]) else none
      | none => none
    | _, _, _ => none
  | op => (evNew Θ s op id).map fun p => (p.1, p.2, [])
theorem newC_sound {Θ : Tys} {s : St} {op : Op} {h : H} {id : Nat} {R : Root} {r : AV} {ps : List Prop} (he : newC Θ s op h id = some (R, r, ps)) (hp : AllP ps) : evNew Θ s op id = some (R, r) := by
  unfold newC at he
  split at he
  · split at he
    case h_2 => cases he
    rename_i qs hq
    cases he
    rw [boxSz_eq (allP_app hp).1]
    replace hp := (allP_app hp).2
    unfold boxOK at hq
    simp only [evNew]
    split at hq
    · cases hq
      obtain ⟨h1, h2, _⟩ := hp
      rw [if_pos (okLits h1), if_pos h2]
    · split at hq
      case isFalse => cases hq
      rename_i h1
      split at hq
      case isFalse => cases hq
      rename_i h2
      rw [if_pos h1, if_pos h2]
  · split at he
    case h_2 => cases he
    rename_i hti hn hm
    split at he
    case h_2 => cases he
    rename_i te hte
    split at he
    case isFalse => cases he
    rename_i hz
    cases he
    obtain ⟨h1, h2, h3, h4, _⟩ := hp
    simp only [evNew, hti, hn, hm, hte]
    rw [if_pos hz, if_pos h1, if_pos h2, if_pos h3, if_pos h4]
  · rw [Option.map_eq_some_iff] at he
    obtain ⟨z, he, e⟩ := he
    cases e
    exact he

/- ------------------------------------------------ what is handed on -/
def Frz (a b : List (List AV)) : Prop := treeLL a = true ∧ frzLL a = b
mutual
def outC (s : St) (π : List (Nat × Nat)) : AV → List (List (List AV)) → Option (AV × List Prop × List (List (List AV)))
  | .lit v, z => some (.lit v, [], z)
  | .ro sz xs, z => some (.ro sz xs, [], z)
  | .rop cs o, z => some (.rop cs o, [], z)
  | .sl i off len, z => match π.lookup i with
    | some j => some (.sl j off len, [], z)
    | none => match z with
      | zs :: z => match s.root i with
        | some R => some (.ro R.sz zs, [Frz ((R.xs.drop off).take len) zs], z)
        | none => none
      | [] => none
  | .ptr i e o, z => match π.lookup i with
    | some j => some (.ptr j e o, [], z)
    | none => match z with
      | [] :: z => match s.root i with
        | some R => match R.xs[e]? with
          | some x => if treeL x then some (.rop (frzL x) o, [], z) else none
          | none => none
        | none => none
      | [x, x'] :: z => match s.root i with
        | some R => some (.rop x' o, [R.xs[e]? = some x, treeL x = true, frzL x = x'], z)
        | none => none
      | _ => none
  | .agg cs, z => match z with
    | [] :: z => match outCL s π cs z with
      | some (ds, ps, z') => some (.agg ds, ps, z')
      | none => none
    | _ :: z => some (.agg cs, [cs.all okLit = true], z)
    | [] => none
  | .fn g cs, z => match outCL s π cs z with
    | some (ds, ps, z') => some (.fn g ds, ps, z')
    | none => none
  | _, _ => none
def outCL (s : St) (π : List (Nat × Nat)) : List AV → List (List (List AV)) → Option (List AV × List Prop × List (List (List AV)))
  | [], z => some ([], [], z)
  | c :: cs, z => match outC s π c z with
    | some (d, ps, z') => match outCL s π cs z' with
      | some (ds, qs, z'') => some (d :: ds, ps ++ qs, z'')
      | none => none
    | none => none
end
theorem outRL_lits {s : St} {π : List (Nat × Nat)} : ∀ {cs : List AV}, cs.all okLit = true → outRL s π cs = some cs
  | [], _ => by simp [outRL]
  | c :: cs, h => by
    rw [List.all_cons, Bool.and_eq_true] at h
    have h1 : outR s π c = some c := by
      have := h.1
      cases c <;> simp_all [okLit, outR]
    simp only [outRL, h1, outRL_lits h.2]
mutual
theorem outC_sound {s : St} {π : List (Nat × Nat)} : ∀ (x : AV) (z z' : List (List (List AV))) (y : AV) (ps : List Prop), outC s π x z = some (y, ps, z') → AllP ps → outR s π x = some y
  | .lit v, z, z', y, ps, h, _ => by simp only [outC] at h; cases h; simp [outR]
  | .ro sz xs, z, z', y, ps, h, _ => by simp only [outC] at h; cases h; simp [outR]
  | .rop cs o, z, z', y, ps, h, _ => by simp only [outC] at h; cases h; simp [outR]
  | .sl i off len, z, z', y, ps, h, hp => by
    simp only [outC] at h
    simp only [outR]
    split at h
    · rename_i j hj; cases h; rw [hj]
    · rename_i hj
      rw [hj]
      split at h
      case h_2 => cases h
      split at h
      case h_2 => cases h
      rename_i R hR
      cases h
      obtain ⟨⟨h1, h2⟩, _⟩ := hp
      simp only [hR]
      rw [if_pos h1, h2]
  | .ptr i e o, z, z', y, ps, h, hp => by
    simp only [outC] at h
    simp only [outR]
    split at h
    · rename_i j hj; cases h; rw [hj]
    · rename_i hj
      rw [hj]
      split at h
      · split at h
        case h_2 => cases h
        rename_i R hR
        split at h
        case h_2 => cases h
        rename_i x hx
        split at h
        case isFalse => cases h
        rename_i ht
        cases h
        simp only [hR, hx]
        rw [if_pos ht]
      · split at h
        case h_2 => cases h
        rename_i R hR
        cases h
        obtain ⟨h1, h2, h3, _⟩ := hp
        simp only [hR, h1]
        rw [if_pos h2, h3]
      · cases h
  | .agg cs, z, z', y, ps, h, hp => by
    simp only [outC] at h
    split at h
    · split at h
      case h_2 => cases h
      rename_i ds qs z2 he
      cases h
      simp only [outR, outCL_sound cs _ _ ds ps he hp]
    · cases h
      simp only [outR, outRL_lits hp.1]
    · cases h
  | .fn g cs, z, z', y, ps, h, hp => by
    simp only [outC] at h
    split at h
    case h_2 => cases h
    rename_i ds qs z2 he
    cases h
    simp only [outR, outCL_sound cs z _ ds ps he hp]
  | .dead, z, z', y, ps, h, _ => by simp [outC] at h
  | .own _ _ _, z, z', y, ps, h, _ => by simp [outC] at h
  | .tup _, z, z', y, ps, h, _ => by simp [outC] at h
theorem outCL_sound {s : St} {π : List (Nat × Nat)} : ∀ (xs : List AV) (z z' : List (List (List AV))) (ys : List AV) (ps : List Prop), outCL s π xs z = some (ys, ps, z') → AllP ps → outRL s π xs = some ys
  | [], z, z', ys, ps, h, _ => by simp only [outCL] at h; cases h; simp [outRL]
  | c :: cs, z, z', ys, ps, h, hp => by
    simp only [outCL] at h
    split at h
    case h_2 => cases h
    rename_i d qs z2 he
    split at h
    case h_2 => cases h
    rename_i ds rs z3 hf
    cases h
    obtain ⟨h1, h2⟩ := allP_app hp
    simp only [outRL, outC_sound c z _ d qs he h1, outCL_sound cs _ _ ds rs hf h2]
end
mutual
theorem outR_nil {s : St} : ∀ x : AV, outR s [] x = out s x
  | .lit _ => by simp [outR, out]
  | .ro _ _ => by simp [outR, out]
  | .rop _ _ => by simp [outR, out]
  | .sl i _ _ => by simp only [outR, out, List.lookup]; cases s.root i <;> rfl
  | .ptr i e _ => by
    simp only [outR, out, List.lookup]
    cases s.root i with
    | none => rfl
    | some R => simp only []; cases R.xs[e]? <;> rfl
  | .agg cs => by simp only [outR, out, outRL_nil cs]; cases outL s cs <;> rfl
  | .fn _ cs => by simp only [outR, out, outRL_nil cs]; cases outL s cs <;> rfl
  | .dead => by simp [outR, out]
  | .own _ _ _ => by simp [outR, out]
  | .tup _ => by simp [outR, out]
theorem outRL_nil {s : St} : ∀ xs : List AV, outRL s [] xs = outL s xs
  | [] => by simp [outRL, outL]
  | c :: cs => by simp only [outRL, outL, outR_nil c, outRL_nil cs]; cases out s c <;> cases outL s cs <;> rfl
end
theorem outL_ofC {s : St} {xs : List AV} {z z' : List (List (List AV))} {ys : List AV} {ps : List Prop} (h : outCL s [] xs z = some (ys, ps, z')) (hp : AllP ps) : outL s xs = some ys := by
  rw [← outRL_nil]; exact outCL_sound _ _ _ _ _ h hp

/- a value without rows -/
mutual
def litA : AV → Bool
  | .lit _ => true
  | .agg cs => litL2 cs
  | .tup cs => litL2 cs
  | _ => false
def litL2 : List AV → Bool
  | [] => true
  | c :: cs => litA c && litL2 cs
end
mutual
theorem litA_rtf : ∀ (x : AV) (ids : List Nat), litA x = true → rtf x ids = (x, [], ids)
  | .lit _, ids, _ => by simp [rtf]
  | .agg cs, ids, h => by simp only [litA] at h; simp only [rtf, litL2_rtf cs ids h]
  | .tup cs, ids, h => by simp only [litA] at h; simp only [rtf, litL2_rtf cs ids h]
  | .dead, _, h => by simp [litA] at h
  | .ro _ _, _, h => by simp [litA] at h
  | .own _ _ _, _, h => by simp [litA] at h
  | .sl _ _ _, _, h => by simp [litA] at h
  | .ptr _ _ _, _, h => by simp [litA] at h
  | .rop _ _, _, h => by simp [litA] at h
  | .fn _ _, _, h => by simp [litA] at h
theorem litL2_rtf : ∀ (xs : List AV) (ids : List Nat), litL2 xs = true → rtfL xs ids = (xs, [], ids)
  | [], ids, _ => by simp [rtfL]
  | c :: cs, ids, h => by
    simp only [litL2, Bool.and_eq_true] at h
    simp [rtfL, litA_rtf c ids h.1, litL2_rtf cs ids h.2]
end
mutual
theorem litA_noRo : ∀ (x : AV), litA x = true → noRo x = true
  | .lit _, _ => rfl
  | .agg cs, h => by simp only [litA] at h; simp only [noRo, litL2_noRo cs h]
  | .tup cs, h => by simp only [litA] at h; simp only [noRo, litL2_noRo cs h]
  | .dead, h => by simp [litA] at h
  | .ro _ _, h => by simp [litA] at h
  | .own _ _ _, h => by simp [litA] at h
  | .sl _ _ _, h => by simp [litA] at h
  | .ptr _ _ _, h => by simp [litA] at h
  | .rop _ _, h => by simp [litA] at h
  | .fn _ _, h => by simp [litA] at h
theorem litL2_noRo : ∀ (xs : List AV), litL2 xs = true → noRoL xs = true
  | [], _ => rfl
  | c :: cs, h => by
    simp only [litL2, Bool.and_eq_true] at h
    simp only [noRoL, litA_noRo c h.1, litL2_noRo cs h.2, Bool.and_self]
end

def rsOK : List Root → Prop
  | [] => True
  | R :: rs => (treeLL R.xs = true ∧ noRoLL R.xs = true) ∧ rsOK rs
theorem rsOK_iff : ∀ {rs : List Root}, rsOK rs → ∀ R ∈ rs, treeLL R.xs = true ∧ noRoLL R.xs = true
  | [], _, R, h => by cases h
  | X :: rs, h, R, hR => by
    rcases List.mem_cons.1 hR with e | e
    · subst e; exact h.1
    · exact rsOK_iff h.2 R e
/- ------------------------------------------------ one operation -/
def ovr (r : AV) : Option AV → AV × List Prop
  | none => (r, [])
  | some v => (v, [r = v])
theorem ovr_eq {r : AV} {o : Option AV} (h : AllP (ovr r o).2) : (ovr r o).1 = r := by
  cases o with
  | none => rfl
  | some v => exact h.1.symm
def frB (us ids : List Nat) : Bool := ndB ids && ids.all fun i => !us.contains i
theorem frB_iff {us ids : List Nat} (h : frB us ids = true) : ids.Nodup ∧ ∀ i ∈ ids, i ∉ us := by
  simp only [frB, Bool.and_eq_true, List.all_eq_true, Bool.not_eq_true'] at h
  exact ⟨ndB_iff h.1, fun i hi => by simpa using h.2 i hi⟩

def newRoot (R : Root) : H → Root × List Prop
  | .nw _ xs => (⟨R.T, R.sz, xs⟩, [R.xs = xs])
  | _ => (R, [])
theorem newRoot_eq {R : Root} {h : H} (hp : AllP (newRoot R h).2) : (newRoot R h).1 = R := by
  unfold newRoot at hp ⊢
  split
  · simp only [AllP, and_true] at hp; rw [← hp]
  · rfl
def idOf : H → Option Nat
  | .nw id _ => some id
  | .new id => some id
  | _ => none
/-- an operation on two values, told by a theorem of its own -/
inductive VEqs : List Value → List Value → Prop where
  | nil : VEqs [] []
  | cons {u v : Value} {us vs : List Value} : VEq u v → VEqs us vs → VEqs (u :: us) (v :: vs)
def IsV (x : AV) (u : Value) : Prop := (∃ v, x = .lit v ∧ VEq u v) ∨ ∃ vs us, x = .agg (litL vs) ∧ u = .agg us.toArray ∧ VEqs us vs
def LV (x : AV) : Prop := (∃ v, x = .lit v) ∨ ∃ vs, x = .agg (litL vs)
theorem repRL_litL {w : World} {S U : Nat → Prop} {ρ : Tab} : ∀ (vs us : List Value) (f : List Nat), repRL w S U ρ (litL vs) us f → VEqs us vs
  | [], us, f, h => by simp only [litL, List.map_nil, repRL] at h; rw [h.1]; exact .nil
  | v :: vs, us, f, h => by
    simp only [litL, List.map_cons, repRL] at h
    obtain ⟨u, us', f1, f2, rfl, _, h1, h2⟩ := h
    exact .cons (lit_veq h1) (repRL_litL vs us' f2 h2)
theorem isV_of {w : World} {S U : Nat → Prop} {ρ : Tab} {x : AV} {u : Value} {f : List Nat} (h : repR w S U ρ x u f) (hv : LV x) : IsV x u := by
  rcases hv with ⟨v, rfl⟩ | ⟨vs, rfl⟩
  · exact .inl ⟨v, rfl, lit_veq h⟩
  · simp only [repR] at h
    obtain ⟨us, rfl, h⟩ := h
    exact .inr ⟨vs, us, rfl, rfl, repRL_litL _ _ _ h⟩
theorem VEqs.eq {us vs : List Value} (h : VEqs us vs) (hn : vs.all nf = true) : us = vs := by
  induction h with
  | nil => rfl
  | cons h1 _ ih =>
    simp only [List.all_cons, Bool.and_eq_true] at hn
    rw [h1.eq hn.1, ih hn.2]
/-- the world may have been drawn from once -/
def Dr (w w' : World) : Prop := w' = w ∨ w' = w.drew
def BinS (P : Program) (op : BinOp) (t : Nat) (x y r : AV) : Prop := LV x ∧ LV y ∧ ∃ z, r = .lit z ∧ ∀ u v, IsV x u → IsV y v → ∀ (w : World) (X Y : Operand), ∃ z' w', (do eqGuard op t X Y u v; binOp op t u v : Sem Value).run P w = .ok z' w' ∧ VEq z' z ∧ Dr w w'
theorem Rel0.dr {E : Env} {s : St} {a : Act} {w w2 : World} {χ : Nat → Option Nat} {hd : Nat → Value} (h : Rel0 E s a w χ hd) (k : Dr w w2) : Rel0 E s a w2 χ hd := by
  rcases k with rfl | rfl
  · exact h
  · exact h.world rfl rfl Tp.drew rfl
theorem repR_veq {w : World} {S U : Nat → Prop} {ρ : Tab} {u v : Value} (h : VEq u v) : repR w S U ρ (.lit v) u [] := by simp only [repR, rep]; exact ⟨trivial, h⟩
theorem opTo_bin {E : Env} {s : St} {o : Oper} {op : BinOp} {t : Nat} {x y : Operand} {sg : Nat} {r : AV} (hop : o.op = .binOp op t x y sg) (hd : okD E.n o.dst = true) (h : BinS E.P op t (opnd s x) (opnd s y) r) : OpTo E o s (s.putO o.dst r) := by
  rintro a w ⟨χ, hd', hr⟩ K Q hk
  obtain ⟨hu, hv, z, rfl, hb⟩ := h
  obtain ⟨z', w', hb, hz, hw⟩ := hb _ _ (isV_of (opnd_rep hr x) hu) (isV_of (opnd_rep hr y) hv) w x y
  refine upon_val (v := z') ?_ (hk _ _ ⟨χ, hd', (hr.dr hw).putO hd (repR_veq hz)⟩)
  obtain ⟨dst, op', type, pos, after, guard⟩ := o
  simp only at hop
  subst hop
  simp only [execOp]
  rw [Sem.run_bind, hb]
  rfl
def CnvS (P : Program) (src dst : Nat) (x r : AV) : Prop := LV x ∧ ∃ z, r = .lit z ∧ ∀ u, IsV x u → ∀ w : World, ∃ z' w', (convert src dst u).run P w = .ok z' w' ∧ VEq z' z ∧ Dr w w'
theorem opTo_cnv {E : Env} {s : St} {o : Oper} {src dst : Nat} {x : Operand} {r : AV} (hop : o.op = .convert src dst x) (hd : okD E.n o.dst = true) (h : CnvS E.P src dst (opnd s x) r) : OpTo E o s (s.putO o.dst r) := by
  rintro a w ⟨χ, hd', hr⟩ K Q hk
  obtain ⟨hu, z, rfl, hb⟩ := h
  obtain ⟨z', w', hb, hz, hw⟩ := hb _ (isV_of (opnd_rep hr x) hu) w
  refine upon_val (v := z') ?_ (hk _ _ ⟨χ, hd', (hr.dr hw).putO hd (repR_veq hz)⟩)
  obtain ⟨dst', op', type, pos, after, guard⟩ := o
  simp only at hop
  subst hop
  simp only [execOp]
  rw [Sem.run_bind, hb]
  rfl
/-- a function of one value that has no text of its own -/
def ExtS (P : Program) (f : FuncId) (x r : AV) : Prop := LV x ∧ ∃ z, r = .lit z ∧ ∀ u, IsV x u → ∀ w : World, ∃ z' w', (callFunc f #[u]).run P w = .ok (.value z') w' ∧ VEq z' z ∧ Dr w w'
theorem opTo_xt {E : Env} {s : St} {o : Oper} {x y : Operand} {f : FuncId} {tys : Array TypeId} {r : AV} (hop : o.op = .call ⟨.value x, #[y], tys⟩) (hx : opnd s x = .fn f []) (hd : okD E.n o.dst = true) (h : ExtS E.P f (opnd s y) r) : OpTo E o s (s.putO o.dst r) := by
  rintro a w ⟨χ, hd', hr⟩ K Q hk
  obtain ⟨hu, z, rfl, hb⟩ := h
  obtain ⟨z', w', hb, hz, hw⟩ := hb _ (isV_of (opnd_rep hr y) hu) w
  have hxr := opnd_rep hr x
  rw [hx] at hxr
  simp only [repR, repRL] at hxr
  obtain ⟨vs, hxv, rfl, _⟩ := hxr
  refine upon_val (v := z') ?_ (hk _ _ ⟨χ, hd', (hr.dr hw).putO hd (repR_veq hz)⟩)
  obtain ⟨dst', op', type, pos, after, guard⟩ := o
  simp only at hop
  subst hop
  simp only [execOp, resolve, hxv, invoke, Deferred.ofValue, Sem.run_bind, Sem.run_pure, Result.andThen_ok]
  simpa using hb
def ex1 (Θ : Tys) (P : Program) (n : Nat) (s : St) (o : Oper) (h : Hn) : Option (St × List Prop) :=
  if okD n o.dst then
    match idOf h.h with
    | some id => if frB s.us [id] then match newC Θ s o.op h.h id with
      | some (R, r, ps) => some ((s.add id (newRoot R h.h).1).putO o.dst (ovr r h.o).1, (newRoot R h.h).2 ++ ((ovr r h.o).2 ++ ps))
      | none => none
      else none
    | none => match h.h with
      | .app id zs => if frB s.us [id] then match o.op with
        | .call ⟨.builtin .append, args, tys⟩ => match args.toList, tys.toList with
          | [x, y], [t, t'] => if t = t' then match Θ.lookup t with
            | some ⟨_, _, .slice el, _⟩ => match Θ.lookup el with
              | some te => if zOK te then match dstRows s el te.sz (opnd s x), srcRows s te.sz (opnd s y) with
                | some (xs, k), some ys => some (((s.killO k).add id ⟨el, te.sz, zs⟩).putO o.dst (.sl id 0 zs.length), [xs ++ ys = zs, ys.all (fun r => r.all AV.plain) = true, zs.length * te.bytes ≤ 140737488355328, zs.length ≤ 140737488355328])
                | _, _ => none
                else none
              | none => none
            | _ => none
            else none
          | _, _ => none
        | _ => none
        else none
      | .bin r => match o.op with
        | .binOp op t x y _ => some (s.putO o.dst (ovr r h.o).1, BinS P op t (opnd s x) (opnd s y) r :: (ovr r h.o).2)
        | _ => none
      | .cnv r => match o.op with
        | .convert src dst x => some (s.putO o.dst (ovr r h.o).1, CnvS P src dst (opnd s x) r :: (ovr r h.o).2)
        | _ => none
      | .xt r => match o.op with
        | .call ⟨.value x, args, _⟩ => match opnd s x with
          | .fn f [] => match args.toList with
            | [y] => some (s.putO o.dst (ovr r h.o).1, ExtS P f (opnd s y) r :: (ovr r h.o).2)
            | _ => none
          | _ => none
        | _ => none
      | .sto x xs' => match o.op, o.dst with
        | .store t p y, none => match Θ.lookup t, opnd s p with
          | some ti, .ptr i e oo => match s.root i with
            | some R => if (cellsOf (opnd s y)).all (okCell s) then some (s.setR i ⟨R.T, R.sz, xs'⟩, [R.xs[e]? = some x, R.xs.set e (wr x oo (cellsOf (opnd s y))) = xs', (cellsOf (opnd s y)).length = ti.sz, oo + (cellsOf (opnd s y)).length ≤ x.length]) else none
            | none => none
          | _, _ => none
        | _, _ => none
      | .stoS x xs' => match o.op, o.dst with
        | .store t p y, none => match Θ.lookup t, opnd s p with
          | some ti, .ptr i e oo => match s.root i with
            | some R => some (s.setR i ⟨R.T, R.sz, xs'⟩, [R.xs[e]? = some x, R.xs.set e (wr x oo (cellsOf (opnd s y))) = xs', (cellsOf (opnd s y)).length = ti.sz, oo + (cellsOf (opnd s y)).length ≤ x.length, (cellsOf (opnd s y)).all okLit = true])
            | none => none
          | _, _ => none
        | _, _ => none
      | .callV zss res => match o.op with
        | .call ⟨.value x, args, _⟩ => match opnd s x with
          | .fn f caps => match outCL s [] (args.toList.map (opnd s) ++ caps) zss with
            | some (outs, ps, []) => some (s.putO o.dst (ovr res h.o).1, Meets P f outs res :: (litA res = true) :: ((ovr res h.o).2 ++ ps))
            | _ => none
          | _ => none
        | _ => none
      | .callR zss res ids x' l => if frB s.us ids then match o.op with
        | .call ⟨.value x, args, _⟩ => match opnd s x with
          | .fn f caps => match outCL s [] (args.toList.map (opnd s) ++ caps) zss with
            | some (outs, ps, []) => some ((s.addL l).putO o.dst x', Meets P f outs res :: (noRo res = true) :: ((rtf res ids).1 = x') :: ((rtf res ids).2.1 = l) :: ps)
            | _ => none
          | _ => none
        | _ => none
        else none
      | .call zss res ids => if frB s.us ids then match o.op with
        | .call ⟨.value x, args, _⟩ => match opnd s x with
          | .fn f caps => match outCL s [] (args.toList.map (opnd s) ++ caps) zss with
            | some (outs, ps, []) => some ((s.addL (rtf res ids).2.1).putO o.dst (ovr (rtf res ids).1 h.o).1, Meets P f outs res :: (noRo res = true) :: ((ovr (rtf res ids).1 h.o).2 ++ ps))
            | _ => none
          | _ => none
        | _ => none
        else none
      | .callX ρ ks rs rs' zss res ids x' l => if ndB ρ && (ks.length == ρ.length) && sameB rs rs' && frB s.us ids then match o.op with
        | .call ⟨.value x, args, _⟩ => match opnd s x with
          | .fn f caps => match outCL s ρ.zipIdx (args.toList.map (opnd s) ++ caps) zss with
            | some (outs, ps, []) => some (((s.back (bkOf ρ ks rs')).addL l).putO o.dst x', MeetsR P f rs outs ks rs' res :: rootsB s ρ rs :: rsOK rs :: sameL rs rs' :: ((rtf (renA (backR ρ ks) res) ids).1 = x') :: ((rtf (renA (backR ρ ks) res) ids).2.1 = l) :: ps)
            | _ => none
          | _ => none
        | _ => none
        else none
      | .no => match o.op with
        | .store t p y => match o.dst with
          | none => match Θ.lookup t, opnd s p with
            | some ti, .ptr i e oo => match s.root i with
              | some R => match R.xs[e]? with
                | some x => if (cellsOf (opnd s y)).all (okCell s) then (if (cellsOf (opnd s y)).length = ti.sz then (if oo + (cellsOf (opnd s y)).length ≤ x.length then some (s.setR i ⟨R.T, R.sz, R.xs.set e (wr x oo (cellsOf (opnd s y)))⟩, []) else none) else none) else none
                | none => none
              | none => none
            | _, _ => none
          | _ => none
        | op => match vx Θ s op .no with
          | some (r, ps) => some (s.putO o.dst (ovr r h.o).1, (ovr r h.o).2 ++ ps)
          | none => none
      | .api => exN Θ s o .api
      | .sl3 => exN Θ s o .sl3
      | .slB => exN Θ s o .slB
      | .clr xs' => exN Θ s o (.clr xs')
      | hh => match vx Θ s o.op hh with
        | some (r, ps) => some (s.putO o.dst (ovr r h.o).1, (ovr r h.o).2 ++ ps)
        | none => none
  else none

theorem opTo_vx {E : Env} {Θ : Tys} (hΘ : TOK E.P Θ) {s s' : St} {o : Oper} {hh : H} {ov : Option AV} {ps : List Prop} (hd : okD E.n o.dst = true)
    (he : (match vx Θ s o.op hh with
        | some (r, ps) => some (s.putO o.dst (ovr r ov).1, (ovr r ov).2 ++ ps)
        | none => none) = some (s', ps)) (hp : AllP ps) : OpTo E o s s' := by
  split at he
  case h_2 => cases he
  rename_i r qs hv
  cases he
  obtain ⟨h1, h2⟩ := allP_app hp
  rw [ovr_eq h1]
  exact opTo_val hΘ hd (vx_sound hv h2)

theorem ex1_sound {E : Env} {Θ : Tys} (hΘ : TOK E.P Θ) {s s' : St} {o : Oper} {h : Hn} {ps : List Prop} (he : ex1 Θ E.P E.n s o h = some (s', ps)) (hp : AllP ps) : OpTo E o s s' := by
  unfold ex1 at he
  split at he
  case isFalse => cases he
  rename_i hd
  split at he
  · rename_i id hid
    split at he
    case isFalse => cases he
    rename_i hf
    split at he
    case h_2 => cases he
    rename_i R r qs hn
    cases he
    obtain ⟨h1, h2⟩ := allP_app hp
    obtain ⟨h3, h4⟩ := allP_app h2
    rw [newRoot_eq h1, ovr_eq h3]
    exact opTo_new hΘ id ((frB_iff hf).2 id (by simp)) hd (newC_sound hn h4)
  · split at he
    · rename_i id zs _
      split at he
      case isFalse => cases he
      rename_i hf
      split at he
      case h_2 => cases he
      rename_i args tys hop
      split at he
      case h_2 => cases he
      rename_i x y t t' ha ht
      split at he
      case isFalse => cases he
      rename_i htt
      subst htt
      split at he
      case h_2 => cases he
      rename_i sz by_ el ze hti
      split at he
      case h_2 => cases he
      rename_i te hte
      split at he
      case isFalse => cases he
      rename_i hz
      split at he
      case h_2 => cases he
      rename_i xs k ys hx hy
      cases he
      obtain ⟨h1, h2, h3, h4, _⟩ := hp
      have e1 : args = #[x, y] := by rw [← Array.toArray_toList (xs := args), ha]
      have e2 : tys = #[t, t] := by rw [← Array.toArray_toList (xs := tys), ht]
      subst e1; subst e2; subst h1
      rw [List.length_append] at h3 h4 ⊢
      exact opTo_app hΘ id ((frB_iff hf).2 id (by simp)) hd hop hti hte hz hx hy (fun r hr => by rw [List.all_eq_true] at h2; exact h2 r hr) h3 h4
    · rename_i rr _
      split at he
      case h_2 => cases he
      rename_i op t x y sg hop
      cases he
      obtain ⟨h1, h2⟩ := hp
      rw [ovr_eq h2]
      exact opTo_bin hop hd h1
    · rename_i rr _
      split at he
      case h_2 => cases he
      rename_i src dst x hop
      cases he
      obtain ⟨h1, h2⟩ := hp
      rw [ovr_eq h2]
      exact opTo_cnv hop hd h1
    · rename_i rr _
      split at he
      case h_2 => cases he
      rename_i x args tys hop
      split at he
      case h_2 => cases he
      rename_i f hx
      split at he
      case h_2 => cases he
      rename_i y ha
      cases he
      obtain ⟨h1, h2⟩ := hp
      rw [ovr_eq h2]
      have e1 : args = #[y] := by rw [← Array.toArray_toList (xs := args), ha]
      subst e1
      exact opTo_xt hop hx hd h1
    · rename_i x xs' _
      split at he
      case h_2 => cases he
      rename_i t p y hop hdst
      split at he
      case h_2 => cases he
      rename_i ti i e oo hti hpt
      split at he
      case h_2 => cases he
      rename_i R hR
      split at he
      case isFalse => cases he
      rename_i hok
      cases he
      obtain ⟨h1, h2, h3, h4, _⟩ := hp
      subst h2
      exact opTo_store hΘ hop hdst hti hpt hR h1 h3 h4 hok
    · rename_i x xs' _
      split at he
      case h_2 => cases he
      rename_i t p y hop hdst
      split at he
      case h_2 => cases he
      rename_i ti i e oo hti hpt
      split at he
      case h_2 => cases he
      rename_i R hR
      cases he
      obtain ⟨h1, h2, h3, h4, h5, _⟩ := hp
      subst h2
      exact opTo_store hΘ hop hdst hti hpt hR h1 h3 h4 (okLits h5)
    · rename_i zss res _
      split at he
      case h_2 => cases he
      rename_i x args tys hop
      split at he
      case h_2 => cases he
      rename_i f caps hx
      split at he
      case h_2 => cases he
      rename_i outs qs hout
      cases he
      obtain ⟨h1, h2, h3⟩ := hp
      obtain ⟨h4, h5⟩ := allP_app h3
      rw [ovr_eq h4]
      have := opTo_callF (E := E) hop hx hd (outL_ofC hout h5) h1 (litA_noRo _ h2) [] List.nodup_nil (by simp)
      rw [litA_rtf _ _ h2] at this
      exact this
    · rename_i zss res ids x' l _
      split at he
      case isFalse => cases he
      rename_i hf
      split at he
      case h_2 => cases he
      rename_i x args tys hop
      split at he
      case h_2 => cases he
      rename_i f caps hx
      split at he
      case h_2 => cases he
      rename_i outs qs hout
      cases he
      obtain ⟨h1, h2, h3, h4, h5⟩ := hp
      have := opTo_callF (E := E) hop hx hd (outL_ofC hout h5) h1 h2 ids (frB_iff hf).1 (frB_iff hf).2
      rw [h3, h4] at this
      exact this
    · rename_i zss res ids _
      split at he
      case isFalse => cases he
      rename_i hf
      split at he
      case h_2 => cases he
      rename_i x args tys hop
      split at he
      case h_2 => cases he
      rename_i f caps hx
      split at he
      case h_2 => cases he
      rename_i outs qs hout
      cases he
      obtain ⟨h1, h2, h3⟩ := hp
      obtain ⟨h4, h5⟩ := allP_app h3
      rw [ovr_eq h4]
      exact opTo_callF hop hx hd (outL_ofC hout h5) h1 h2 ids (frB_iff hf).1 (frB_iff hf).2
    · rename_i ρ ks rs rs' zss res ids x' l _
      split at he
      case isFalse => cases he
      rename_i hf
      simp only [Bool.and_eq_true, beq_iff_eq] at hf
      obtain ⟨⟨⟨f1, f2⟩, f3⟩, f4⟩ := hf
      split at he
      case h_2 => cases he
      rename_i x args tys hop
      split at he
      case h_2 => cases he
      rename_i f caps hx
      split at he
      case h_2 => cases he
      rename_i outs qs hout
      cases he
      obtain ⟨h1, h2, h3, h4, h5, h6, h7⟩ := hp
      have := opTo_callR (E := E) hop hx hd (ndB_iff f1) h2 (rsOK_iff h3) f2 f3 h4 (outCL_sound _ _ _ _ _ hout h7) h1 ids (frB_iff f4).1 (frB_iff f4).2
      rw [h5, h6] at this
      exact this
    · split at he
      · rename_i t p y hop
        split at he
        case h_2 => cases he
        rename_i hdst
        split at he
        case h_2 => cases he
        rename_i ti i e oo hti hpt
        split at he
        case h_2 => cases he
        rename_i R hR
        split at he
        case h_2 => cases he
        rename_i x hx
        split at he
        case isFalse => cases he
        rename_i hok
        split at he
        case isFalse => cases he
        rename_i hl
        split at he
        case isFalse => cases he
        rename_i hl2
        cases he
        exact opTo_store hΘ hop hdst hti hpt hR hx hl hl2 hok
      · exact opTo_vx hΘ hd he hp
    · exact exN_sound hΘ hd he hp
    · exact exN_sound hΘ hd he hp
    · exact exN_sound hΘ hd he hp
    · exact exN_sound hΘ hd he hp
    · exact opTo_vx hΘ hd he hp
end Go.T
