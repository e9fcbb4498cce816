/- Lemmas for FnExactAddPairs; no condition. -/

import Derived.Test.YtihgcgccajikpaaTW
set_option linter.unusedVariables false
namespace Go.T
open Go Go.RowKit Go.Proofs

/- ------------------------------------------------ what is to be shown beside a run -/
def AllP : List Prop → Prop
  | [] => True
  | p :: ps => p ∧ AllP ps
theorem allP_app : ∀ {ps qs : List Prop}, AllP (ps ++ qs) → AllP ps ∧ AllP qs
  | [], qs, h => ⟨trivial, h⟩
  | p :: ps, qs, h => ⟨⟨h.1, (allP_app h.2).1⟩, (allP_app h.2).2⟩

/-- hints -/
inductive H where
  | no
  | br (b : Bool)
  | row (x : List AV)
  | cel (x : List AV) (c : AV)
  | agg (x cs : List AV)
  | sto (x : List AV) (xs' : List (List AV))
  | stoS (x : List AV) (xs' : List (List AV))
  | callV (zss : List (List (List AV))) (res : AV)
  | callR (zss : List (List (List AV))) (res : AV) (ids : List Nat) (x' : AV) (l : List (Nat × Root))
  | app (id : Nat) (zs : List (List AV))
  | nw (id : Nat) (xs' : List (List AV))
  | new (id : Nat)
  | call (zss : List (List (List AV))) (res : AV) (ids : List Nat)
  | callX (ρ : List Nat) (ks : List Bool) (rs rs' : List Root) (zss : List (List (List AV))) (res : AV) (ids : List Nat) (x' : AV) (l : List (Nat × Root))
  | pack (i j e c : Nat) (x : List AV) (xs' : List (List AV))
  | unpack (i j e c : Nat) (x : List AV) (T sz : Nat) (ys xs' : List (List AV))
  | nil (t id T sz : Nat)
  | bin (r : AV)
  | cnv (r : AV)
  | xt (r : AV)
  | own0 (id n : Nat) (pre post : List AV) (T sz : Nat) (xs' : List (List AV))
  | slen (t n : Nat)
  | api
  | sl3
  | slB
  | clr (xs' : List (List AV))
/-- a hint stands at an operation's number; `o`: the value as it is to be written -/
structure Hn where
  k : Nat
  h : H := .no
  o : Option AV := none

def addO : Nat → Nat → Nat
  | 0, x => x
  | o, x => o + x
theorem addO_eq : ∀ o x, addO o x = o + x
  | 0, x => by simp [addO]
  | o + 1, x => rfl
def mulS : Nat → Nat → Nat
  | i, 1 => i
  | i, s => i * s
theorem mulS_eq : ∀ i s, mulS i s = i * s
  | i, 0 => rfl
  | i, 1 => by simp [mulS]
  | i, s + 2 => rfl
def subO : Nat → Nat → Nat
  | x, 0 => x
  | x, o => x - o
theorem subO_eq : ∀ x o, subO x o = x - o
  | x, 0 => rfl
  | x, o + 1 => rfl

/- ------------------------------------------------ values -/
def binC (op : BinOp) (x y : Value) : Option (Value × List Prop) :=
  match op, x, y with
  | .quo, .int k a, .int k' b => if k = k' then some (.int k (k.wrap (a.tdiv b)), [b ≠ 0]) else none
  | .rem, .int k a, .int k' b => if k = k' then some (.int k (a.tmod b), [b ≠ 0]) else none
  | .shl, .int k a, .int _ b => some (.int k (k.wrap (a * 2 ^ (min b.toNat k.bits))), [¬ b < 0])
  | .shr, .int k a, .int _ b => some (.int k (a.fdiv (2 ^ (min b.toNat k.bits))), [¬ b < 0])
  | .add, .string a, .string b => some (.string (a ++ b), [¬ ((a.size + b.size : Nat) : Int) > IntKind.i64.max])
  | op, x, y => (evBin op x y).map fun v => (v, [])
theorem binC_sound {op : BinOp} {x y v : Value} {ps : List Prop} (h : binC op x y = some (v, ps)) (hp : AllP ps) : evBin op x y = some v := by
  unfold binC at h
  split at h
  · split at h <;> cases h
    rename_i hk
    simp only [AllP, and_true] at hp
    simp [evBin, hk, hp]
  · split at h <;> cases h
    rename_i hk
    simp only [AllP, and_true] at hp
    simp [evBin, hk, hp]
  · cases h
    simp only [AllP, and_true] at hp
    simp [evBin, hp]
  · cases h
    simp only [AllP, and_true] at hp
    simp [evBin, hp]
  · cases h
    simp only [AllP, and_true] at hp
    unfold evBin
    simp only []
    rw [if_neg hp]
  · rw [Option.map_eq_some_iff] at h
    obtain ⟨z, h, e⟩ := h
    cases e
    exact h

/-- what lies where a pointer leads -/
def placeC (s : St) (h : H) : AV → Option (List AV × Nat × List Prop)
  | .ptr id e o => match s.root id with
    | some R => match h with
      | .no => match R.xs[e]? with
        | some x => some (x, o, [])
        | none => none
      | .row x => some (x, o, [R.xs[e]? = some x])
      | .cel x _ => some (x, o, [R.xs[e]? = some x])
      | .agg x _ => some (x, o, [R.xs[e]? = some x])
      | _ => none
    | none => none
  | .rop cs o => some (cs, o, [])
  | _ => none
theorem placeC_sound {s : St} {h : H} {p : AV} {x : List AV} {o : Nat} {ps : List Prop} (he : placeC s h p = some (x, o, ps)) (hp : AllP ps) : place s p = some (x, o) := by
  unfold placeC at he
  split at he
  · split at he
    case h_2 => cases he
    rename_i R hR
    simp only [place, hR]
    split at he
    · split at he
      · rename_i x' hx; cases he; simp [hx]
      · cases he
    all_goals first | (cases he; simp only [AllP, and_true] at hp; simp [hp]; done) | cases he
  · cases he; rfl
  · cases he
def loadC (Θ : Tys) (s : St) (t : Nat) (h : H) (p : AV) : Option (AV × List Prop) :=
  match Θ.lookup t with
  | none => none
  | some ti => match placeC s h p with
    | none => none
    | some (x, o, ps) =>
      if aggD ti.und then
        match h with
        | .agg _ cs => some (.agg cs, (o + ti.sz ≤ x.length) :: ((x.drop o).take ti.sz = cs) :: (cs.all AV.plain = true) :: ps)
        | _ => if o + ti.sz ≤ x.length then (if ((x.drop o).take ti.sz).all AV.plain then some (.agg ((x.drop o).take ti.sz), ps) else none) else none
      else match h with
        | .cel _ c => if c.plain then some (c, (x[o]? = some c) :: ps) else none
        | _ => match x[o]? with
          | some c => if c.plain then some (c, ps) else none
          | none => none
theorem loadC_sound {Θ : Tys} {s : St} {t : Nat} {h : H} {p r : AV} {ps : List Prop} (he : loadC Θ s t h p = some (r, ps)) (hp : AllP ps) : evLoad Θ s t p = some r := by
  unfold loadC at he
  split at he
  · cases he
  rename_i ti hti
  split at he
  · cases he
  rename_i x o qs hpl
  unfold evLoad
  simp only [hti]
  split at he
  · rename_i hagg
    split at he
    · cases he
      obtain ⟨h1, h2, h3, h4⟩ := hp
      simp only [placeC_sound hpl h4]
      rw [if_pos hagg, if_pos h1, h2, if_pos h3]
    · split at he
      case isFalse => cases he
      rename_i h1
      split at he
      case isFalse => cases he
      rename_i h2
      cases he
      simp only [placeC_sound hpl hp]
      rw [if_pos hagg, if_pos h1, if_pos h2]
  · rename_i hagg
    split at he
    · split at he
      case isFalse => cases he
      rename_i h1
      cases he
      obtain ⟨h2, h4⟩ := hp
      simp only [placeC_sound hpl h4]
      rw [if_neg hagg, h2]
      simp only []
      rw [if_pos h1]
    · split at he
      case h_2 => cases he
      rename_i c hc
      split at he
      case isFalse => cases he
      rename_i h1
      cases he
      simp only [placeC_sound hpl hp]
      rw [if_neg hagg, hc]
      simp only []
      rw [if_pos h1]

def idxC (Θ : Tys) (s : St) (t : Nat) (h : H) (x i : AV) : Option (AV × List Prop) :=
  match i with
  | .lit (.int k i) =>
    match Θ.lookup t with
    | some ⟨_, _, .slice el, _⟩ =>
      match Θ.lookup el, x with
      | some te, .sl id off len => match s.root id with
        | some R => if R.sz = te.sz then some (.ptr id (addO off i.toNat) 0, [0 ≤ i, i < (len : Int)]) else none
        | none => none
      | some te, .ro sz xs => if sz = te.sz then (match h with
        | .row y => some (.rop y 0, [0 ≤ i, xs[i.toNat]? = some y])
        | _ => none) else none
      | _, _ => none
    | some ⟨_, _, .array n el, _⟩ =>
      match Θ.lookup el with
      | some te => match x with
        | .ptr id e o => if (s.root id).isSome then some (.ptr id e (addO o (mulS i.toNat te.sz)), [0 ≤ i, i < (n : Int)]) else none
        | .rop cs o => some (.rop cs (addO o (mulS i.toNat te.sz)), [0 ≤ i, i < (n : Int)])
        | _ => none
      | none => none
    | _ => none
  | _ => none
theorem idxC_sound {Θ : Tys} {s : St} {t : Nat} {h : H} {x i r : AV} {ps : List Prop} (he : idxC Θ s t h x i = some (r, ps)) (hp : AllP ps) : evIdx Θ s t x i = some r := by
  unfold idxC at he
  split at he
  case h_2 => cases he
  rename_i k i
  unfold evIdx
  split at he
  · rename_i sz by_ el ze hti
    simp only [hti]
    split at he
    · rename_i te id off len hte
      simp only [hte]
      split at he
      case h_2 => cases he
      rename_i R hR
      simp only [hR]
      split at he
      case isFalse => cases he
      rename_i hsz
      cases he
      obtain ⟨h1, h2, _⟩ := hp
      rw [if_pos hsz, if_pos h1, if_pos h2, addO_eq]
    · rename_i te sz' xs hte
      simp only [hte]
      split at he
      case isFalse => cases he
      rename_i hsz
      split at he
      case h_2 => cases he
      cases he
      obtain ⟨h1, h2, _⟩ := hp
      rw [if_pos hsz, if_pos h1, h2]
    · cases he
  · rename_i sz by_ n el ze hti
    simp only [hti]
    split at he
    case h_2 => cases he
    rename_i te hte
    simp only [hte]
    split at he
    · rename_i id e o
      split at he
      case isFalse => cases he
      rename_i hs
      cases he
      obtain ⟨h1, h2, _⟩ := hp
      rw [if_pos h1, if_pos h2, addO_eq, mulS_eq]
      simp only []
      rw [if_pos hs]
    · cases he
      obtain ⟨h1, h2, _⟩ := hp
      rw [if_pos h1, if_pos h2, addO_eq, mulS_eq]
    · cases he
  · cases he

/-- a part of an aggregate -/
def partC (Θ : Tys) (t : Nat) (h : H) (cs : List AV) (off : Nat) : Option (AV × List Prop) :=
  match Θ.lookup t with
  | some ti => if aggD ti.und then (match h with
      | .agg _ ds => some (.agg ds, [(cs.drop off).take ti.sz = ds, ds.all AV.plain = true])
      | _ => if ((cs.drop off).take ti.sz).all AV.plain then some (.agg ((cs.drop off).take ti.sz), []) else none)
    else match h with
      | .cel _ c => if c.plain then some (c, [cs[off]? = some c]) else none
      | _ => match cs[off]? with
        | some c => if c.plain then some (c, []) else none
        | none => none
  | none => none
theorem partC_sound {Θ : Tys} {t : Nat} {h : H} {cs : List AV} {off : Nat} {r : AV} {ps : List Prop} (he : partC Θ t h cs off = some (r, ps)) (hp : AllP ps) : evPart Θ t cs off = some r := by
  unfold partC at he
  split at he
  case h_2 => cases he
  rename_i ti hti
  unfold evPart
  simp only [hti]
  split at he
  · rename_i hagg
    rw [if_pos hagg]
    split at he
    · cases he
      obtain ⟨h1, h2, _⟩ := hp
      rw [h1, if_pos h2]
    · split at he
      case isFalse => cases he
      rename_i h1
      cases he
      rw [if_pos h1]
  · rename_i hagg
    rw [if_neg hagg]
    split at he
    · split at he
      case isFalse => cases he
      rename_i h1
      cases he
      obtain ⟨h2, _⟩ := hp
      rw [h2]
      simp only []
      rw [if_pos h1]
    · split at he
      case h_2 => cases he
      rename_i c hc
      split at he
      case isFalse => cases he
      rename_i h1
      cases he
      rw [hc]
      simp only []
      rw [if_pos h1]
def fieldC (Θ : Tys) (t : Nat) (h : H) (x : AV) (f : Nat) : Option (AV × List Prop) :=
  match x with
  | .agg cs => match Θ.lookup t with
    | some ⟨_, _, .struct fs, _⟩ => match fs[f]? with
      | some fd => partC Θ fd.type h cs fd.offset
      | none => none
    | _ => none
  | _ => none
theorem fieldC_sound {Θ : Tys} {t : Nat} {h : H} {x : AV} {f : Nat} {r : AV} {ps : List Prop} (he : fieldC Θ t h x f = some (r, ps)) (hp : AllP ps) : evField Θ t x f = some r := by
  unfold fieldC at he
  split at he
  case h_2 => cases he
  split at he
  case h_2 => cases he
  rename_i hti
  split at he
  case h_2 => cases he
  rename_i fd hfd
  simp only [evField, hti, hfd]
  exact partC_sound he hp
def indexC (Θ : Tys) (t : Nat) (h : H) (x i : AV) : Option (AV × List Prop) :=
  match x, i, Θ.lookup t with
  | .lit (.string s), .lit (.int k i), some ⟨_, _, .string, _⟩ => match h with
    | .cel _ (.lit (.int .u8 b)) => some (.lit (.int .u8 b), [0 ≤ i, (s[i.toNat]?).map (fun u => ((u.toNat : Nat) : Int)) = some b])
    | _ => none
  | .agg cs, .lit (.int k i), some ⟨_, _, .array n el, _⟩ => match Θ.lookup el with
    | some te => match partC Θ el h cs (mulS i.toNat te.sz) with
      | some (r, ps) => some (r, (0 ≤ i) :: (i < (n : Int)) :: ps)
      | none => none
    | none => none
  | _, _, _ => none
theorem indexC_sound {Θ : Tys} {t : Nat} {h : H} {x i : AV} {r : AV} {ps : List Prop} (he : indexC Θ t h x i = some (r, ps)) (hp : AllP ps) : evIndex Θ t x i = some r := by
  unfold indexC at he
  split at he
  · rename_i hti
    split at he
    case h_2 => cases he
    cases he
    obtain ⟨h1, h2, _⟩ := hp
    rw [Option.map_eq_some_iff] at h2
    obtain ⟨u, hu, rfl⟩ := h2
    simp only [evIndex, hti]
    rw [if_pos h1, hu]
  · rename_i hti
    split at he
    case h_2 => cases he
    rename_i te hte
    split at he
    case h_2 => cases he
    rename_i r' qs hr
    cases he
    obtain ⟨h1, h2, h3⟩ := hp
    simp only [evIndex, hti, hte]
    rw [if_pos h1, if_pos h2]
    rw [mulS_eq] at hr
    exact partC_sound hr h3
  · cases he

def sliceC (Θ : Tys) (s : St) (t : Nat) (x : AV) (lo hi : Option AV) : Option (AV × List Prop) :=
  match Θ.lookup t with
  | some ⟨_, _, .slice el, _⟩ => match Θ.lookup el with
    | none => none
    | some te => match x with
      | .sl id off len => match s.root id with
        | some R => if R.sz = te.sz then (match bnd 0 lo, bnd len hi with
          | some l, some h => some (.sl id (addO off l.toNat) (subO h.toNat l.toNat), [0 ≤ l, l ≤ h, h ≤ (len : Int)])
          | _, _ => none) else none
        | none => none
      | .ro sz xs => if sz = te.sz then (match bnd 0 lo, bnd xs.length hi with
          | some l, some h => some (.ro sz ((xs.drop l.toNat).take (subO h.toNat l.toNat)), [0 ≤ l, l ≤ h, h ≤ (xs.length : Int)])
          | _, _ => none) else none
      | _ => none
  | some ⟨_, _, .string, _⟩ => match x with
    | .lit (.string z) => match bnd 0 lo, bnd z.size hi with
      | some l, some h => some (.lit (.string (z.extract l.toNat h.toNat)), [0 ≤ l, l ≤ h, h ≤ (z.size : Int)])
      | _, _ => none
    | _ => none
  | _ => none
theorem sliceC_sound {Θ : Tys} {s : St} {t : Nat} {x : AV} {lo hi : Option AV} {r : AV} {ps : List Prop} (he : sliceC Θ s t x lo hi = some (r, ps)) (hp : AllP ps) : evSlice Θ s t x lo hi = some r := by
  unfold sliceC at he
  unfold evSlice
  split at he
  · rename_i hti
    simp only [hti]
    split at he
    · cases he
    rename_i te hte
    simp only [hte]
    split at he
    · split at he
      case h_2 => cases he
      rename_i R hR
      simp only [hR]
      split at he
      case isFalse => cases he
      rename_i hsz
      rw [if_pos hsz]
      split at he
      case h_2 => cases he
      rename_i l h hl hh
      cases he
      obtain ⟨h1, h2, h3, _⟩ := hp
      simp only [hl, hh]
      rw [if_pos h1, if_pos h2, if_pos h3, addO_eq, subO_eq]
    · split at he
      case isFalse => cases he
      rename_i hsz
      simp only []
      rw [if_pos hsz]
      split at he
      case h_2 => cases he
      rename_i l h hl hh
      cases he
      obtain ⟨h1, h2, h3, _⟩ := hp
      simp only [hl, hh]
      rw [if_pos h1, if_pos h2, if_pos h3, subO_eq]
    · cases he
  · rename_i hti
    simp only [hti]
    split at he
    case h_2 => cases he
    split at he
    case h_2 => cases he
    rename_i l h hl hh
    cases he
    obtain ⟨h1, h2, h3, _⟩ := hp
    simp only [hl, hh]
    rw [if_pos h1, if_pos h2, if_pos h3]
  · cases he

def vx (Θ : Tys) (s : St) (op : Op) (h : H) : Option (AV × List Prop) :=
  match op with
  | .binOp op t x y _ => match opnd s x, opnd s y with
    | .lit (.bool u), .lit (.bool v) => match op, Θ.lookup t with
      | .eql, some ⟨_, _, .bool, _⟩ => some (.lit (.bool (u == v)), [])
      | .neq, some ⟨_, _, .bool, _⟩ => some (.lit (.bool (!(u == v))), [])
      | _, _ => none
    | .lit u, .lit v => (binC op u v).map fun p => (.lit p.1, p.2)
    | _, _ => none
  | .load t p => loadC Θ s t h (opnd s p)
  | .field t x f => fieldC Θ t h (opnd s x) f
  | .indexAddr t x i => idxC Θ s t h (opnd s x) (opnd s i)
  | .index t x i => indexC Θ t h (opnd s x) (opnd s i)
  | .slice t x lo hi none => sliceC Θ s t (opnd s x) (lo.map (opnd s)) (hi.map (opnd s))
  | op => (evVal Θ s op).map fun r => (r, [])
theorem vx_sound {Θ : Tys} {s : St} {op : Op} {h : H} {r : AV} {ps : List Prop} (he : vx Θ s op h = some (r, ps)) (hp : AllP ps) : evVal Θ s op = some r := by
  unfold vx at he
  split at he
  · split at he
    · rename_i hu hv
      simp only [evVal, hu, hv]
      split at he
      · rename_i hti; cases he; simp only [hti]
      · rename_i hti; cases he; simp only [hti]
      · cases he
    · rename_i u v hn hu hv
      rw [Option.map_eq_some_iff] at he
      obtain ⟨⟨z, qs⟩, he, e⟩ := he
      cases e
      simp only [evVal, hu, hv]
      rw [binC_sound he hp]; rfl
    · cases he
  · exact loadC_sound he hp
  · exact fieldC_sound he hp
  · exact idxC_sound he hp
  · exact indexC_sound he hp
  · exact sliceC_sound he hp
  · rw [Option.map_eq_some_iff] at he
    obtain ⟨z, he, e⟩ := he
    cases e
    exact he
end Go.T
