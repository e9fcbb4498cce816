/- Lemmas for FnExactAddPairs; no condition. -/

import Derived.Test.YtihgcgccajikpaaTE
set_option linter.unusedVariables false
namespace Go.T
open Go Go.RowKit

def evFAddr (Θ : Tys) (s : St) (t : Nat) (x : AV) (f : Nat) : Option AV :=
  match Θ.lookup t with
  | some ⟨_, _, .struct fs, _⟩ => match fs[f]? with
    | some fd => match Θ.lookup fd.type with
      | some tf => if tf.sz = 0 then none else match x with
        | .ptr id e o => if (s.root id).isSome then some (.ptr id e (o + fd.offset)) else none
        | .rop cs o => some (.rop cs (o + fd.offset))
        | _ => none
      | none => none
    | none => none
  | _ => none

theorem evFAddr_sound {E : Env} {s : St} {a : Act} {w : World} {χ : Nat → Option Nat} {hd : Nat → Value} {Θ : Tys} (hΘ : TOK E.P Θ) (h : Rel0 E s a w χ hd) {t f : Nat} {x r : AV} {u : Value} (hx : repR w (free χ w) (· ∈ s.us) (tab s hd) x u [])
    (he : evFAddr Θ s t x f = some r) : ∃ v, (Instr.fieldAt t u f).run E.P w = .ok v w ∧ repR w (free χ w) (· ∈ s.us) (tab s hd) r v [] := by
  unfold evFAddr at he
  split at he
  case h_2 => cases he
  rename_i sz by_ fs ze hti
  have hu := run_underlying (P := E.P) (w := w) (tiOf_und (hΘ.get hti))
  split at he
  case h_2 => cases he
  rename_i fd hfd
  split at he
  case h_2 => cases he
  rename_i tf htf
  have htf := run_sizeOf (P := E.P) (w := w) (hΘ.get htf)
  split at he
  case isTrue => cases he
  rename_i hz
  split at he
  · rename_i id e o
    split at he
    case isFalse => cases he
    rename_i hsome
    cases he
    simp only [repR] at hx ⊢
    obtain ⟨_, hus, hx⟩ := hx
    obtain ⟨R, hR⟩ := Option.isSome_iff_exists.1 hsome
    obtain ⟨hlt, b, m, c, hh, rfl⟩ := hx (hd id) R.xs.length R.sz (by simp [tab, hR])
    refine ⟨.pointer (some ⟨b, e * R.sz + o + fd.offset, none⟩), ?_, trivial, hus, ?_⟩
    · simp only [Instr.fieldAt, Sem.run_bind, hu, Result.andThen_ok]
      simp [hfd, Instr.sureAddr, fieldPlace, htf, hz, add_at]
    · intro h' n' sz'' hh'
      simp [tab, hR] at hh'
      obtain ⟨rfl, rfl, rfl⟩ := hh'
      exact ⟨hlt, b, m, c, hh, by simp [Nat.add_assoc]⟩
  · rename_i cs o
    cases he
    simp only [repR, rep] at hx ⊢
    obtain ⟨_, b, o0, vs, rfl, hS, hat, hr⟩ := hx
    refine ⟨.pointer (some ⟨b, o0 + o + fd.offset, none⟩), ?_, trivial, b, o0, vs, by simp [Nat.add_assoc], hS, hat, hr⟩
    simp only [Instr.fieldAt, Sem.run_bind, hu, Result.andThen_ok]
    simp [hfd, Instr.sureAddr, fieldPlace, htf, hz, add_at]
  · cases he

def evPart (Θ : Tys) (t : Nat) (cs : List AV) (off : Nat) : Option AV :=
  match Θ.lookup t with
  | some ti => if aggD ti.und then (if ((cs.drop off).take ti.sz).all AV.plain then some (.agg ((cs.drop off).take ti.sz)) else none)
    else match cs[off]? with
      | some c => if c.plain then some c else none
      | none => none
  | none => none
theorem evPart_sound {P : Program} {w : World} {S U : Nat → Prop} {ρ : Tab} {Θ : Tys} (hΘ : TOK P Θ) {t : Nat} {cs : List AV} {off : Nat} {r : AV} {vs : List Value} {fp : List Nat} (h : repRL w S U ρ cs vs fp) (he : evPart Θ t cs off = some r) :
    ∃ v, (part t vs.toArray off).run P w = .ok v w ∧ repR w S U ρ r v [] := by
  unfold evPart at he
  split at he
  case h_2 => cases he
  rename_i ti hti
  have hti := hΘ.get hti
  split at he
  · rename_i hagg
    split at he
    case isFalse => cases he
    rename_i hp
    cases he
    refine ⟨.agg ((vs.drop off).take ti.sz).toArray, ?_, by simp only [repR]; exact ⟨_, rfl, repRL_take h off ti.sz hp⟩⟩
    simp only [part, Sem.run_bind, run_isAgg (tiOf_und hti), hagg, Result.andThen_ok, if_true, run_sizeOf hti, Sem.run_pure]
    simp [List.extract_toArray, List.extract_eq_take_drop]
  · rename_i hagg
    split at he
    case h_2 => cases he
    rename_i c hc
    split at he
    case isFalse => cases he
    rename_i hp
    cases he
    obtain ⟨v1, v, v2, f1, fc, f2, rfl, rfl, hl, _, hcr, _⟩ := repRL_at h hc
    have := plain_fp hcr hp
    subst this
    have hagg' : aggD ti.und = false := by simpa using hagg
    refine ⟨v, ?_, hcr⟩
    simp only [part, Sem.run_bind, run_isAgg (tiOf_und hti), hagg', Result.andThen_ok]
    have : (v1 ++ v :: v2)[off]? = some v := by rw [List.getElem?_append_right (by omega), hl]; simp
    simp [this]

def evField (Θ : Tys) (t : Nat) (x : AV) (f : Nat) : Option AV :=
  match x with
  | .agg cs => match Θ.lookup t with
    | some ⟨_, _, .struct fs, _⟩ => match fs[f]? with
      | some fd => evPart Θ fd.type cs fd.offset
      | none => none
    | _ => none
  | _ => none
theorem evField_sound {P : Program} {w : World} {S U : Nat → Prop} {ρ : Tab} {Θ : Tys} (hΘ : TOK P Θ) {t f : Nat} {x r : AV} {u : Value} {fp : List Nat} (hx : repR w S U ρ x u fp) (he : evField Θ t x f = some r) :
    ∃ v, (Instr.field t u f).run P w = .ok v w ∧ repR w S U ρ r v [] := by
  unfold evField at he
  split at he
  case h_2 => cases he
  rename_i cs
  split at he
  case h_2 => cases he
  rename_i sz by_ fs ze hti
  have hu := run_underlying (P := P) (w := w) (tiOf_und (hΘ.get hti))
  split at he
  case h_2 => cases he
  rename_i fd hfd
  simp only [repR] at hx
  obtain ⟨vs, rfl, hr⟩ := hx
  obtain ⟨v, hrun, hrep⟩ := evPart_sound hΘ hr he
  refine ⟨v, ?_, hrep⟩
  simp only [Instr.field, Sem.run_bind, hu, Result.andThen_ok]
  simp [hfd, asAgg, hrun]

def evIndex (Θ : Tys) (t : Nat) (x i : AV) : Option AV :=
  match x, i, Θ.lookup t with
  | .lit (.string s), .lit (.int k i), some ⟨_, _, .string, _⟩ => if 0 ≤ i then (match s[i.toNat]? with | some b => some (.lit (.int .u8 b.toNat)) | none => none) else none
  | .agg cs, .lit (.int k i), some ⟨_, _, .array n el, _⟩ => match Θ.lookup el with
    | some te => if 0 ≤ i then (if i < (n : Int) then evPart Θ el cs (i.toNat * te.sz) else none) else none
    | none => none
  | _, _, _ => none
theorem evIndex_sound {P : Program} {w : World} {S U : Nat → Prop} {ρ : Tab} {Θ : Tys} (hΘ : TOK P Θ) {t : Nat} {x i r : AV} {u ui : Value} {fp fi : List Nat} (hx : repR w S U ρ x u fp) (hi : repR w S U ρ i ui fi) (he : evIndex Θ t x i = some r) :
    ∃ v, (Instr.index t u ui).run P w = .ok v w ∧ repR w S U ρ r v [] := by
  unfold evIndex at he
  split at he
  · rename_i s k i sz by_ ze hti
    have hu := run_underlying (P := P) (w := w) (tiOf_und (hΘ.get hti))
    split at he
    case isFalse => cases he
    rename_i h0
    split at he
    case h_2 => cases he
    rename_i b hb
    cases he
    simp only [repR, rep] at hx hi
    obtain ⟨_, rfl⟩ := hx
    obtain ⟨_, rfl⟩ := hi
    refine ⟨_, ?_, repR_lit _⟩
    simp only [Instr.index, asIntOf, Sem.run_bind, Sem.run_pure, hu, Result.andThen_ok]
    simp [h0, hb]
  · rename_i cs k i sz by_ n el ze hti
    have hu := run_underlying (P := P) (w := w) (tiOf_und (hΘ.get hti))
    split at he
    case h_2 => cases he
    rename_i te hte
    split at he
    case isFalse => cases he
    rename_i h0
    split at he
    case isFalse => cases he
    rename_i h1
    simp only [repR, rep] at hi
    obtain ⟨_, rfl⟩ := hi
    simp only [repR] at hx
    obtain ⟨vs, rfl, hr⟩ := hx
    obtain ⟨v, hrun, hrep⟩ := evPart_sound hΘ hr he
    refine ⟨v, ?_, hrep⟩
    simp only [Instr.index, asIntOf, Sem.run_bind, Sem.run_pure, hu, Result.andThen_ok]
    simp [h0, h1, run_sizeOf (hΘ.get hte), hrun]
  · cases he

def evLen (Θ : Tys) (t : Nat) (x : AV) : Option AV :=
  match Θ.lookup t, x with
  | some ⟨_, _, .string, _⟩, .lit (.string s) => some (.lit (.int .i64 s.size))
  | some ⟨_, _, .slice _, _⟩, .ro _ xs => some (.lit (.int .i64 xs.length))
  | some ⟨_, _, .slice _, _⟩, .lit (.slice _ n _) => some (.lit (.int .i64 n))
  | some ⟨_, _, .array n _, _⟩, _ => some (.lit (.int .i64 n))
  | _, _ => none
def evLenS (Θ : Tys) (s : St) (t : Nat) (x : AV) : Option AV :=
  match x with
  | .sl id _ len => match Θ.lookup t with
    | some ⟨_, _, .slice _, _⟩ => if (s.root id).isSome then some (.lit (.int .i64 len)) else none
    | _ => none
  | x => evLen Θ t x
theorem evLenS_sound {E : Env} {s : St} {a : Act} {w : World} {χ : Nat → Option Nat} {hd : Nat → Value} {Θ : Tys} (hΘ : TOK E.P Θ) (h : Rel0 E s a w χ hd) {t : Nat} {x r : AV} {u : Value} {fp : List Nat} (hx : repR w (free χ w) (· ∈ s.us) (tab s hd) x u fp) (he : evLenS Θ s t x = some r) {ty : TypeId} :
    ∃ v, (Builtin.len_ #[t] ty #[u]).run E.P w = .ok v w ∧ repR w (free χ w) (· ∈ s.us) (tab s hd) r v [] := by
  unfold evLenS at he
  split at he
  · rename_i id off len
    split at he
    case h_2 => cases he
    rename_i sz by_ el ze hti
    have hu := run_underlying (P := E.P) (w := w) (tiOf_und (hΘ.get hti))
    split at he
    case isFalse => cases he
    rename_i hsome
    cases he
    obtain ⟨R, hR⟩ := Option.isSome_iff_exists.1 hsome
    simp only [repR] at hx
    obtain ⟨_, _, hx⟩ := hx
    obtain ⟨_, ⟨A, cap, rfl, _⟩, _⟩ := hx (hd id) R.xs.length R.sz (by simp [tab, hR])
    refine ⟨_, ?_, repR_lit _⟩
    simp [Builtin.len_, hu, goInt]
  · unfold evLen at he
    split at he
    · rename_i hti _
      have hu := run_underlying (P := E.P) (w := w) (tiOf_und (hΘ.get hti))
      cases he
      simp only [repR, rep] at hx
      obtain ⟨_, rfl⟩ := hx
      refine ⟨_, ?_, repR_lit _⟩
      simp [Builtin.len_, hu, goInt]
    · rename_i hti _
      have hu := run_underlying (P := E.P) (w := w) (tiOf_und (hΘ.get hti))
      cases he
      simp only [repR, rep] at hx
      obtain ⟨_, A, cap, rfl, _⟩ := hx
      refine ⟨_, ?_, repR_lit _⟩
      simp [Builtin.len_, hu, goInt]
    · rename_i hti _
      have hu := run_underlying (P := E.P) (w := w) (tiOf_und (hΘ.get hti))
      cases he
      simp only [repR, rep] at hx
      obtain ⟨_, rfl⟩ := hx
      refine ⟨_, ?_, repR_lit _⟩
      simp [Builtin.len_, hu, goInt]
    · rename_i hti _
      have hu := run_underlying (P := E.P) (w := w) (tiOf_und (hΘ.get hti))
      cases he
      refine ⟨_, ?_, repR_lit _⟩
      simp [Builtin.len_, hu, goInt]
    · cases he

/- ------------------------------------------------ cuts of slices and strings -/
def bnd (d : Int) : Option AV → Option Int
  | none => some d
  | some (.lit (.int _ i)) => some i
  | some _ => none
def evSlice (Θ : Tys) (s : St) (t : Nat) (x : AV) (lo hi : Option AV) : Option AV :=
  match Θ.lookup t with
  | some ⟨_, _, .slice el, _⟩ => match Θ.lookup el with
    | none => none
    | some te => match x with
      | .sl id off len => match s.root id with
        | some R => if R.sz = te.sz then (match bnd 0 lo, bnd len hi with
          | some l, some h => if 0 ≤ l then (if l ≤ h then (if h ≤ (len : Int) then some (.sl id (off + l.toNat) (h.toNat - l.toNat)) else none) else none) else none
          | _, _ => none) else none
        | none => none
      | .ro sz xs => if sz = te.sz then (match bnd 0 lo, bnd xs.length hi with
          | some l, some h => if 0 ≤ l then (if l ≤ h then (if h ≤ (xs.length : Int) then some (.ro sz ((xs.drop l.toNat).take (h.toNat - l.toNat))) else none) else none) else none
          | _, _ => none) else none
      | .lit (.slice none 0 0) => match bnd 0 lo, bnd 0 hi with
          | some l, some h => if l = 0 then (if h = 0 then some (.lit (.slice none 0 0)) else none) else none
          | _, _ => none
      | _ => none
  | some ⟨_, _, .string, _⟩ => match x with
    | .lit (.string z) => match bnd 0 lo, bnd z.size hi with
      | some l, some h => if 0 ≤ l then (if l ≤ h then (if h ≤ (z.size : Int) then some (.lit (.string (z.extract l.toNat h.toNat))) else none) else none) else none
      | _, _ => none
    | _ => none
  | _ => none

theorem run_bounds {P : Program} {w : World} {isS : Bool} {len cap : Nat} {lo hi : Option Value} {l h : Int}
    (hl : lo = none ∧ l = 0 ∨ ∃ k, lo = some (.int k l)) (hh : hi = none ∧ h = len ∨ ∃ k, hi = some (.int k h)) (h0 : 0 ≤ l) (h1 : l ≤ h) (h2 : h ≤ len) (h3 : len ≤ cap) :
    (Instr.sliceBounds isS len cap lo hi none).run P w = .ok (l.toNat, h.toNat, cap) w := by
  have b1 : ∀ (k : IntKind) (i : Int) (y : Nat) (code : BoundsCode), 0 ≤ i → i ≤ y → (Instr.sliceBound (.int k i) y code).run P w = .ok i.toNat w := fun k i y code a b => by
    simp [Instr.sliceBound, asIntOf, a, b]
  rcases hl with ⟨rfl, rfl⟩ | ⟨kl, rfl⟩ <;> rcases hh with ⟨rfl, rfl⟩ | ⟨kh, rfl⟩
  · simp [Instr.sliceBounds]
  · simp [Instr.sliceBounds, b1 _ _ _ _ (Int.le_trans h0 h1) (show h ≤ cap by omega)]
  · simp [Instr.sliceBounds, b1 _ _ _ _ h0 h1]
  · simp [Instr.sliceBounds, b1 _ _ _ _ (Int.le_trans h0 h1) (show h ≤ cap by omega), b1 kl l h.toNat _ h0 (by omega)]

def repO (w : World) (S U : Nat → Prop) (ρ : Tab) : Option AV → Option Value → Prop
  | none, v => v = none
  | some x, v => ∃ u, v = some u ∧ repR w S U ρ x u []
theorem bnd_sound {w : World} {S U : Nat → Prop} {ρ : Tab} {d : Int} {x : Option AV} {v : Option Value} {l : Int} (h : repO w S U ρ x v) (hb : bnd d x = some l) : v = none ∧ l = d ∨ ∃ k, v = some (.int k l) := by
  unfold bnd at hb
  split at hb
  · cases hb; exact .inl ⟨h, rfl⟩
  · cases hb
    obtain ⟨u, rfl, hu⟩ := h
    simp only [repR, rep] at hu
    exact .inr ⟨_, by rw [hu.2]⟩
  · cases hb

theorem evSlice_sound {E : Env} {s : St} {a : Act} {w : World} {χ : Nat → Option Nat} {hd : Nat → Value} {Θ : Tys} (hΘ : TOK E.P Θ) (h : Rel0 E s a w χ hd) {t : Nat} {x r : AV} {u : Value} {lo hi : Option AV} {vl vh : Option Value} (hx : repR w (free χ w) (· ∈ s.us) (tab s hd) x u [])
    (hlo : repO w (free χ w) (· ∈ s.us) (tab s hd) lo vl) (hhi : repO w (free χ w) (· ∈ s.us) (tab s hd) hi vh)
    (he : evSlice Θ s t x lo hi = some r) : ∃ v, (Instr.sliceAt t u vl vh none).run E.P w = .ok v w ∧ repR w (free χ w) (· ∈ s.us) (tab s hd) r v [] := by
  unfold evSlice at he
  split at he
  · rename_i sz by_ el ze hti
    have hu := run_underlying (P := E.P) (w := w) (tiOf_und (hΘ.get hti))
    split at he
    case h_1 => cases he
    rename_i te hte
    have hte := run_sizeOf (P := E.P) (w := w) (hΘ.get hte)
    split at he
    · rename_i id off len
      split at he
      case h_2 => cases he
      rename_i R hR
      split at he
      case isFalse => cases he
      rename_i hsz
      split at he
      case h_2 => cases he
      rename_i l hh hbl hbh
      split at he
      case isFalse => cases he
      rename_i h0
      split at he
      case isFalse => cases he
      rename_i h1
      split at he
      case isFalse => cases he
      rename_i h2
      cases he
      simp only [repR] at hx
      obtain ⟨_, hus, hx⟩ := hx
      obtain ⟨hle, ⟨A, cap, rfl, hcap, hA0, hA⟩, hcp⟩ := hx (hd id) R.xs.length R.sz (by simp [tab, hR])
      have hb := run_bounds (P := E.P) (w := w) (isS := true) (bnd_sound hlo hbl) (bnd_sound hhi hbh) h0 h1 h2 hcap
      refine ⟨.slice (if cap = l.toNat then A else A.map (·.add (l.toNat * te.sz))) (hh.toNat - l.toNat) (cap - l.toNat), ?_, ?_⟩
      · simp only [Instr.sliceAt, Instr.slice, Sem.run_bind, hu, Result.andThen_ok, hb, hte]
        rfl
      · simp only [repR]
        refine ⟨trivial, hus, ?_⟩
        intro h' n sz' hh'
        simp [tab, hR] at hh'
        obtain ⟨rfl, rfl, rfl⟩ := hh'
        have hcp : R.xs.length ≤ off + cap := hcp
        refine ⟨by omega, ⟨_, _, rfl, by omega, ?_, ?_⟩, (by show R.xs.length ≤ off + l.toNat + (cap - l.toNat); omega)⟩
        · intro h00
          obtain ⟨m, hm⟩ := hA0 (by omega)
          have hl0 : l.toNat = 0 := by omega
          refine ⟨m, ?_⟩
          rw [hm, hl0]
          simp only [Nat.zero_mul, Nat.sub_zero]
          split
          · rfl
          · cases A <;> simp [Addr.add]
        · intro hpos
          obtain ⟨b, m, c, hm, rfl⟩ := hA (by omega)
          refine ⟨b, m, c, hm, ?_⟩
          rw [if_neg (by omega)]
          simp [add_at, Nat.add_mul, hsz]
    · rename_i sz' xs
      split at he
      case isFalse => cases he
      rename_i hsz
      split at he
      case h_2 => cases he
      rename_i l hh hbl hbh
      split at he
      case isFalse => cases he
      rename_i h0
      split at he
      case isFalse => cases he
      rename_i h1
      split at he
      case isFalse => cases he
      rename_i h2
      cases he
      simp only [repR, rep] at hx
      obtain ⟨_, A, cap, rfl, hcap, hx⟩ := hx
      have hb := run_bounds (P := E.P) (w := w) (isS := true) (bnd_sound hlo hbl) (bnd_sound hhi hbh) h0 h1 h2 hcap
      have hlen : ((xs.drop l.toNat).take (hh.toNat - l.toNat)).length = hh.toNat - l.toNat := by rw [List.length_take, List.length_drop]; omega
      refine ⟨.slice (if cap = l.toNat then A else A.map (·.add (l.toNat * te.sz))) (hh.toNat - l.toNat) (cap - l.toNat), ?_, ?_⟩
      · simp only [Instr.sliceAt, Instr.slice, Sem.run_bind, hu, Result.andThen_ok, hb, hte]
        rfl
      · simp only [repR, rep]
        refine ⟨trivial, _, _, by rw [hlen], by rw [hlen]; omega, ?_⟩
        by_cases hz : hh.toNat - l.toNat = 0
        · left; rw [hz, List.take_zero]
        right
        rcases hx with rfl | ⟨b, o, vs, rfl, hS, hat, hr⟩
        · simp at h2; omega
        rw [if_neg (by omega)]
        have hr' : repRLL w (free χ w) (fun _ => True) (fun _ => none) sz' xs vs [] := repRLL_of _ _ _ hr
        have e1 : xs = xs.take l.toNat ++ ((xs.drop l.toNat).take (hh.toNat - l.toNat) ++ (xs.drop l.toNat).drop (hh.toNat - l.toNat)) := by rw [List.take_append_drop, List.take_append_drop]
        have aux : ∀ (ys zs : List (List AV)) (vs : List Value), repLL w (free χ w) sz' (ys ++ zs) vs [] → ∃ v1 v2, vs = v1 ++ v2 ∧ v1.length = ys.length * sz' ∧ repLL w (free χ w) sz' ys v1 [] ∧ repLL w (free χ w) sz' zs v2 [] := by
          intro ys
          induction ys with
          | nil => intro zs vs hr; exact ⟨[], vs, rfl, by simp, by simp [repLL], hr⟩
          | cons y ys ih =>
            intro zs vs hr
            simp only [List.cons_append, repLL] at hr
            obtain ⟨us, us', f1, f2, rfl, hf, hl, h1c, k1, k2⟩ := hr
            obtain ⟨rfl, rfl⟩ := List.append_eq_nil_iff.1 hf.symm
            obtain ⟨v1, v2, rfl, hl1, q1, q2⟩ := ih zs us' k2
            refine ⟨us ++ v1, v2, by simp, by simp [hl, hl1, Nat.add_mul, Nat.add_comm], ?_, q2⟩
            simp only [repLL]
            exact ⟨us, v1, [], [], rfl, rfl, hl, h1c, k1, q1⟩
        rw [e1] at hr
        obtain ⟨v1, v2, rfl, hl1, q1, q2⟩ := aux _ _ _ hr
        obtain ⟨v3, v4, rfl, hl3, q3, q4⟩ := aux _ _ _ q2
        refine ⟨b, o + l.toNat * te.sz, v3, by simp [add_at], hS, ?_, q3⟩
        intro k v hk
        have hkl : k < v3.length := (List.getElem?_eq_some_iff.1 hk).1
        rw [List.length_take, Nat.min_eq_left (by omega), hsz] at hl1
        have := hat (l.toNat * te.sz + k) v (by rw [List.getElem?_append_right (by omega), show l.toNat * te.sz + k - v1.length = k by omega, List.getElem?_append_left hkl]; exact hk)
        rwa [← Nat.add_assoc] at this
    · split at he
      case h_2 => cases he
      rename_i l hh hbl hbh
      split at he
      case isFalse => cases he
      rename_i h0
      split at he
      case isFalse => cases he
      rename_i h1
      cases he
      subst h0; subst h1
      simp only [repR, rep] at hx
      obtain rfl := hx.2
      have hb := run_bounds (P := E.P) (w := w) (isS := true) (len := 0) (cap := 0) (bnd_sound hlo hbl) (bnd_sound hhi hbh) (Int.le_refl _) (Int.le_refl _) (Int.le_refl _) (Nat.le_refl _)
      refine ⟨.slice none 0 0, ?_, repR_lit _⟩
      simp only [Instr.sliceAt, Instr.slice, Sem.run_bind, hu, Result.andThen_ok, hb, hte]
      rfl
    · cases he
  · rename_i sz by_ ze hti
    have hu := run_underlying (P := E.P) (w := w) (tiOf_und (hΘ.get hti))
    split at he
    case h_2 => cases he
    rename_i z
    split at he
    case h_2 => cases he
    rename_i l hh hbl hbh
    split at he
    case isFalse => cases he
    rename_i h0
    split at he
    case isFalse => cases he
    rename_i h1
    split at he
    case isFalse => cases he
    rename_i h2
    cases he
    simp only [repR, rep] at hx
    obtain ⟨_, rfl⟩ := hx
    have hb := run_bounds (P := E.P) (w := w) (isS := false) (bnd_sound hlo hbl) (bnd_sound hhi hbh) h0 h1 h2 (Nat.le_refl _)
    refine ⟨_, ?_, repR_lit _⟩
    simp only [Instr.sliceAt, Instr.slice, Sem.run_bind, hu, Result.andThen_ok]
    simp [hb]
  · cases he
end Go.T
