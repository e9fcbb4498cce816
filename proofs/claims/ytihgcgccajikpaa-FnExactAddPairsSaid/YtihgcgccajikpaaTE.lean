/- Lemmas for FnExactAddPairs; no condition. -/

import Derived.Test.YtihgcgccajikpaaTD
set_option linter.unusedVariables false
namespace Go.T
open Go Go.RowKit

theorem add_at (b o n : Nat) : (⟨b, o, none⟩ : Addr).add n = ⟨b, o + n, none⟩ := by unfold Addr.add; split <;> simp_all

/-- a cell that can be copied as it is -/
def AV.plain : AV → Bool
  | .lit _ | .ro _ _ | .sl _ _ _ | .ptr _ _ _ | .rop _ _ | .dead => true
  | _ => false
theorem plain_fp {w : World} {S U : Nat → Prop} {ρ : Tab} {c : AV} {u : Value} {fp : List Nat} (h : repR w S U ρ c u fp) (hp : c.plain = true) : fp = [] := by
  cases c <;> simp only [AV.plain, repR, rep] at h hp <;> first | exact h.1 | exact h | cases hp
theorem plainL_fp {w : World} {S U : Nat → Prop} {ρ : Tab} : ∀ (cs : List AV) (vs : List Value) (fp : List Nat), repRL w S U ρ cs vs fp → cs.all AV.plain = true → fp = []
  | [], _, _, h, _ => by simp only [repRL] at h; exact h.2
  | c :: cs, _, _, h, hp => by
    simp only [repRL] at h
    obtain ⟨u, us, f1, f2, rfl, rfl, h1, h2⟩ := h
    simp only [List.all_cons, Bool.and_eq_true] at hp
    rw [plain_fp h1 hp.1, plainL_fp cs us f2 h2 hp.2]; rfl

/-- where a pointer leads: the element's cells, and how far in -/
def place (s : St) : AV → Option (List AV × Nat)
  | .ptr id e o => match s.root id with
    | some R => match R.xs[e]? with
      | some x => some (x, o)
      | none => none
    | none => none
  | .rop cs o => some (cs, o)
  | _ => none

theorem repRL_take {w : World} {S U : Nat → Prop} {ρ : Tab} {x : List AV} {us : List Value} {f : List Nat} (h : repRL w S U ρ x us f) (o n : Nat) (hp : ((x.drop o).take n).all AV.plain = true) : repRL w S U ρ ((x.drop o).take n) ((us.drop o).take n) [] := by
  have hx : x = x.take o ++ ((x.drop o).take n ++ (x.drop o).drop n) := by rw [List.take_append_drop, List.take_append_drop]
  have hlen := repRL_length _ _ _ h
  rw [hx] at h
  obtain ⟨v1, v2, f1, f2, rfl, rfl, h1, h2⟩ := repRL_split _ _ _ _ h
  obtain ⟨v3, v4, f3, f4, rfl, rfl, h3, h4⟩ := repRL_split _ _ _ _ h2
  have hf := plainL_fp _ _ _ h3 hp
  subst hf
  have l1 := repRL_length _ _ _ h1
  have l3 := repRL_length _ _ _ h3
  have l4 := repRL_length _ _ _ h4
  have e : ((v1 ++ (v3 ++ v4)).drop o).take n = v3 := by
    simp only [List.length_take, List.length_drop] at l1 l3 l4
    by_cases ho : o ≤ x.length
    · rw [List.drop_append_of_le_length (by omega), List.drop_of_length_le (by omega), List.nil_append]
      by_cases hn : n ≤ x.length - o
      · rw [List.take_append_of_le_length (by omega), List.take_of_length_le (by omega)]
      · have : v4 = [] := List.eq_nil_of_length_eq_zero (by omega)
        subst this
        rw [List.append_nil, List.take_of_length_le (by omega)]
    · have e3 : v3 = [] := List.eq_nil_of_length_eq_zero (by omega)
      have e4 : v4 = [] := List.eq_nil_of_length_eq_zero (by omega)
      subst e3; subst e4
      rw [List.append_nil, List.append_nil, List.drop_of_length_le (by omega), List.take_nil]
  rw [e]; exact h3

/-- what lies there -/
theorem place_at {E : Env} {s : St} {a : Act} {w : World} {χ : Nat → Option Nat} {hd : Nat → Value} (h : Rel0 E s a w χ hd) {p : AV} {u : Value} (hp : repR w (free χ w) (· ∈ s.us) (tab s hd) p u []) {x : List AV} {o : Nat} (hx : place s p = some (x, o)) :
    ∃ b k us f, u = .pointer (some ⟨b, k + o, none⟩) ∧ At w b k us ∧ repRL w (free χ w) (· ∈ s.us) (tab s hd) x us f := by
  cases p with
  | ptr id e o' =>
    simp only [place] at hx
    split at hx
    case h_2 => cases hx
    rename_i R hR
    split at hx
    case h_2 => cases hx
    rename_i y hy
    cases hx
    simp only [repR] at hp
    obtain ⟨_, hus, hp⟩ := hp
    obtain ⟨hlt, b, m, c, hh, rfl⟩ := hp (hd id) R.xs.length R.sz (by simp [tab, hR])
    obtain ⟨_, fp, ⟨hz, vs, fp', hown, hrep, rfl⟩, _, _⟩ := h.rts id R hR
    obtain ⟨v1, us, v2, f1, fe, f2, rfl, rfl, hl1, hlus, h1c, k1, kx, k2⟩ := repRLL_at hrep hy
    refine ⟨b, e * R.sz, us, fe, rfl, ?_, kx⟩
    have hat := ownsRow_at hown (b := b) (by rw [hh]; rfl)
    intro k v hk
    have hkl : k < us.length := (List.getElem?_eq_some_iff.1 hk).1
    have := hat (e * R.sz + k) v (by rw [List.append_assoc, List.getElem?_append_right (by omega), show e * R.sz + k - v1.length = k by omega, List.getElem?_append_left hkl]; exact hk)
    simpa using this
  | rop cs o' =>
    simp only [place] at hx
    cases hx
    simp only [repR, rep] at hp
    obtain ⟨_, b, o0, vs, rfl, hS, hat, hr⟩ := hp
    exact ⟨b, o0, vs, [], rfl, hat, repRL_of _ _ _ hr⟩
  | _ => simp [place] at hx

def evLoad (Θ : Tys) (s : St) (t : Nat) (p : AV) : Option AV :=
  match Θ.lookup t with
  | none => none
  | some ti => match place s p with
    | none => none
    | some (x, o) =>
      if aggD ti.und then
        if o + ti.sz ≤ x.length then
          if ((x.drop o).take ti.sz).all AV.plain then some (.agg ((x.drop o).take ti.sz)) else none
        else none
      else match x[o]? with
        | some c => if c.plain then some c else none
        | none => none

theorem run_isAgg {P : Program} {w : World} {t : Nat} {d : TypeDesc} (h : P.underlying t = some d) : (isAgg t).run P w = .ok (aggD d) w := by
  unfold isAgg
  simp only [Sem.run_bind, run_underlying h, Result.andThen_ok]
  cases d <;> rfl
theorem run_sizeOf {P : Program} {w : World} {t : Nat} {ti : TI} (h : tiOf P t = some ti) : (sizeOf t).run P w = .ok ti.sz w := by
  obtain ⟨i, z, hi, hs, _⟩ := tiOf_info h
  simp [sizeOf, typeInfo, hi, hs]

theorem evLoad_sound {E : Env} {s : St} {a : Act} {w : World} {χ : Nat → Option Nat} {hd : Nat → Value} {Θ : Tys} (hΘ : TOK E.P Θ) (h : Rel0 E s a w χ hd) {t : Nat} {p r : AV} {u : Value} (hp : repR w (free χ w) (· ∈ s.us) (tab s hd) p u [])
    (he : evLoad Θ s t p = some r) : ∃ v, (Instr.loadAt t u).run E.P w = .ok v w ∧ repR w (free χ w) (· ∈ s.us) (tab s hd) r v [] := by
  unfold evLoad at he
  split at he
  · cases he
  rename_i ti hti
  have hti := hΘ.get hti
  split at he
  · cases he
  rename_i x o hx
  obtain ⟨b, k, us, f, rfl, hat, hr⟩ := place_at h hp hx
  have hlen := repRL_length _ _ _ hr
  split at he
  · rename_i hagg
    split at he
    case isFalse => cases he
    rename_i hle
    split at he
    case isFalse => cases he
    rename_i hpl
    cases he
    have hr2 := repRL_take hr o ti.sz hpl
    refine ⟨.agg ((us.drop o).take ti.sz).toArray, ?_, by simp only [repR]; exact ⟨_, rfl, hr2⟩⟩
    have hll : ((us.drop o).take ti.sz).length = ti.sz := by rw [List.length_take, List.length_drop]; omega
    have hl := run_loadCells_list (P := E.P) (w := w) ⟨b, k + o, none⟩ ((us.drop o).take ti.sz) (by
      intro j v hj
      rw [add_at]
      have hjl : j < ti.sz := by have := (List.getElem?_eq_some_iff.1 hj).1; omega
      rw [List.getElem?_take, if_pos hjl, List.getElem?_drop] at hj
      have := hat (o + j) v hj
      rwa [← Nat.add_assoc] at this)
    rw [hll] at hl
    simp only [Instr.loadAt, Instr.sureAddr, Sem.run_bind, Sem.run_pure, Result.andThen_ok, loadVar, run_isAgg (tiOf_und hti), hagg, if_true, run_sizeOf hti, hl]
  · rename_i hagg
    split at he
    case h_2 => cases he
    rename_i c hc
    split at he
    case isFalse => cases he
    rename_i hpl
    cases he
    obtain ⟨v1, v, v2, f1, fc, f2, rfl, rfl, hl1, _, hcr, _⟩ := repRL_at hr hc
    have hfc := plain_fp hcr hpl
    subst hfc
    refine ⟨v, ?_, hcr⟩
    have hcell := hat o v (by rw [List.getElem?_append_right (by omega), hl1]; simp)
    have hagg' : aggD ti.und = false := by simpa using hagg
    simp only [Instr.loadAt, Instr.sureAddr, Sem.run_bind, Sem.run_pure, Result.andThen_ok, loadVar, run_isAgg (tiOf_und hti), hagg']
    simp [hcell]

/- ------------------------------------------------ addresses -/
def evIdx (Θ : Tys) (s : St) (t : Nat) (x i : AV) : Option AV :=
  match i with
  | .lit (.int k i) =>
    match Θ.lookup t with
    | some ⟨_, _, .slice el, _⟩ =>
      match Θ.lookup el, x with
      | some te, .sl id off len => match s.root id with
        | some R => if R.sz = te.sz then (if 0 ≤ i then (if i < (len : Int) then some (.ptr id (off + i.toNat) 0) else none) else none) else none
        | none => none
      | some te, .ro sz xs => if sz = te.sz then (if 0 ≤ i then (match xs[i.toNat]? with | some x => some (.rop x 0) | none => none) else none) else none
      | _, _ => none
    | some ⟨_, _, .array n el, _⟩ =>
      match Θ.lookup el with
      | some te => if 0 ≤ i then (if i < (n : Int) then (match x with
        | .ptr id e o => if (s.root id).isSome then some (.ptr id e (o + i.toNat * te.sz)) else none
        | .rop cs o => some (.rop cs (o + i.toNat * te.sz))
        | _ => none) else none) else none
      | none => none
    | _ => none
  | _ => none

theorem rep_ro_at {w : World} {S : Nat → Prop} {sz : Nat} {xs : List (List AV)} {u : Value} (h : rep w S (.ro sz xs) u []) {e : Nat} {x : List AV} (he : xs[e]? = some x) :
    ∃ b o us cap, u = .slice (some ⟨b, o, none⟩) xs.length cap ∧ S b ∧ At w b (o + e * sz) us ∧ repL w S x us [] := by
  simp only [rep] at h
  obtain ⟨_, A, cap, rfl, hl, h⟩ := h
  rcases h with rfl | ⟨b, o, vs, rfl, hS, hat, hr⟩
  · simp at he
  have aux : ∀ (xs : List (List AV)) (vs : List Value) (e : Nat), repLL w S sz xs vs [] → xs[e]? = some x → ∃ v1 us v2, vs = v1 ++ us ++ v2 ∧ v1.length = e * sz ∧ repL w S x us [] := by
    intro xs
    induction xs with
    | nil => intro vs e _ he; simp at he
    | cons y ys ih =>
      intro vs e hr he
      simp only [repLL] at hr
      obtain ⟨us, us', f1, f2, rfl, hf, hl, _, h1, h2⟩ := hr
      obtain ⟨rfl, rfl⟩ := List.append_eq_nil_iff.1 hf.symm
      cases e with
      | zero => simp at he; subst he; exact ⟨[], us, us', by simp, by simp, h1⟩
      | succ e =>
        simp at he
        obtain ⟨v1, us2, v2, rfl, hl1, h3⟩ := ih us' e h2 he
        exact ⟨us ++ v1, us2, v2, by simp, by simp [hl, hl1, Nat.add_mul, Nat.add_comm], h3⟩
  obtain ⟨v1, us, v2, rfl, hl1, h3⟩ := aux xs vs e hr he
  refine ⟨b, o, us, cap, rfl, hS, ?_, h3⟩
  intro k v hk
  have hkl : k < us.length := (List.getElem?_eq_some_iff.1 hk).1
  have := hat (e * sz + k) v (by rw [List.append_assoc, List.getElem?_append_right (by omega), show e * sz + k - v1.length = k by omega, List.getElem?_append_left hkl]; exact hk)
  rwa [← Nat.add_assoc] at this

theorem evIdx_sound {E : Env} {s : St} {a : Act} {w : World} {χ : Nat → Option Nat} {hd : Nat → Value} {Θ : Tys} (hΘ : TOK E.P Θ) (h : Rel0 E s a w χ hd) {t : Nat} {x i r : AV} {u ui : Value} (hx : repR w (free χ w) (· ∈ s.us) (tab s hd) x u []) (hi : repR w (free χ w) (· ∈ s.us) (tab s hd) i ui [])
    (he : evIdx Θ s t x i = some r) : ∃ v, (Instr.indexAt t u ui).run E.P w = .ok v w ∧ repR w (free χ w) (· ∈ s.us) (tab s hd) r v [] := by
  unfold evIdx at he
  split at he
  case h_2 => cases he
  rename_i k i
  simp only [repR, rep] at hi
  obtain ⟨_, rfl⟩ := hi
  split at he
  · rename_i sz by_ el ze hti
    have hti := hΘ.get hti
    split at he
    · rename_i te id off len hte
      have hte := hΘ.get hte
      split at he
      case h_2 => cases he
      rename_i R hR
      split at he
      case isFalse => cases he
      rename_i hsz
      split at he
      case isFalse => cases he
      rename_i h0
      split at he
      case isFalse => cases he
      rename_i h1
      cases he
      simp only [repR] at hx
      obtain ⟨_, hus, hx⟩ := hx
      obtain ⟨hle, ⟨A, cap, rfl, hcap, _, hA⟩, _⟩ := hx (hd id) R.xs.length R.sz (by simp [tab, hR])
      obtain ⟨b, m, c, hh, rfl⟩ := hA (by omega)
      refine ⟨.pointer (some ⟨b, (off + i.toNat) * R.sz, none⟩), ?_, ?_⟩
      · have hu := run_underlying (P := E.P) (w := w) (tiOf_und hti)
        simp only [Instr.indexAt, asIntOf, Sem.run_bind, Sem.run_pure, Result.andThen_ok, hu]
        simp [h0, h1, run_sizeOf hte, add_at, hsz, Nat.add_mul]
      · simp only [repR]
        refine ⟨trivial, hus, ?_⟩
        intro h' n sz hh'
        simp [tab, hR] at hh'
        obtain ⟨rfl, rfl, rfl⟩ := hh'
        exact ⟨by omega, b, m, c, hh, by simp⟩
    · rename_i te sz' xs hte
      have hte := hΘ.get hte
      split at he
      case isFalse => cases he
      rename_i hsz
      split at he
      case isFalse => cases he
      rename_i h0
      split at he
      case h_2 => cases he
      rename_i y hy
      cases he
      simp only [repR] at hx
      obtain ⟨b, o, us, cap, rfl, hS, hat, hr⟩ := rep_ro_at hx hy
      have hlt : i.toNat < xs.length := (List.getElem?_eq_some_iff.1 hy).1
      refine ⟨.pointer (some ⟨b, o + i.toNat * sz', none⟩), ?_, ?_⟩
      · have hu := run_underlying (P := E.P) (w := w) (tiOf_und hti)
        have h1 : i < (xs.length : Int) := by omega
        simp only [Instr.indexAt, asIntOf, Sem.run_bind, Sem.run_pure, Result.andThen_ok, hu]
        simp [h0, h1, run_sizeOf hte, add_at, hsz]
      · simp only [repR, rep]
        exact ⟨trivial, b, o + i.toNat * sz', us, rfl, hS, hat, hr⟩
    · cases he
  · rename_i sz by_ n el ze hti
    have hti := hΘ.get hti
    split at he
    case h_2 => cases he
    rename_i te hte
    have hte := hΘ.get hte
    split at he
    case isFalse => cases he
    rename_i h0
    split at he
    case isFalse => cases he
    rename_i h1
    have hu := run_underlying (P := E.P) (w := w) (tiOf_und hti)
    split at he
    · rename_i id e o
      split at he
      case isFalse => cases he
      rename_i hsome
      cases he
      simp only [repR] at hx ⊢
      obtain ⟨_, hus, hx⟩ := hx
      · obtain ⟨R, hR⟩ := Option.isSome_iff_exists.1 hsome
        obtain ⟨hlt, b, m, c, hh, rfl⟩ := hx (hd id) R.xs.length R.sz (by simp [tab, hR])
        refine ⟨.pointer (some ⟨b, e * R.sz + o + i.toNat * te.sz, none⟩), ?_, trivial, hus, ?_⟩
        · simp only [Instr.indexAt, asIntOf, Sem.run_bind, Sem.run_pure, Result.andThen_ok, hu]
          simp [h0, h1, run_sizeOf hte, add_at, Instr.sureAddr, hu]
        · intro h' n' sz'' hh'
          simp [tab, hR] at hh'
          obtain ⟨rfl, rfl, rfl⟩ := hh'
          exact ⟨hlt, b, m, c, hh, by simp [Nat.add_assoc]⟩
    · rename_i cs o
      cases he
      simp only [repR, rep] at hx ⊢
      obtain ⟨_, b, o0, vs, rfl, hS, hat, hr⟩ := hx
      refine ⟨.pointer (some ⟨b, o0 + o + i.toNat * te.sz, none⟩), ?_, trivial, b, o0, vs, by simp [Nat.add_assoc], hS, hat, hr⟩
      simp only [Instr.indexAt, asIntOf, Sem.run_bind, Sem.run_pure, Result.andThen_ok, hu]
      simp [h0, h1, run_sizeOf hte, add_at, Instr.sureAddr, hu]
    · cases he
  · cases he
end Go.T
