/- Lemmas for FnExactAddPairs; no condition. -/

import Derived.Test.YtihgcgccajikpaaTM
set_option linter.unusedVariables false
namespace Go.T
open Go Go.RowKit Go.Proofs

/- ------------------------------------------------ a statement's operations, the rest behind them -/
def RW (E : Env) (ops : Array Oper) (l : List Oper) (s : St) (K : St → Prop) : Prop :=
  ∀ a w (Q : Exit → Act → World → Prop), Rel E s a w → (∀ s' a' w', K s' → Rel E s' a' w' → Q .normal a' w') → wpList E.P ops Q l a w
theorem rw_nil {E : Env} {ops : Array Oper} {s : St} {K : St → Prop} (h : K s) : RW E ops [] s K :=
  fun a w Q hr hq => wpList_nil (hq s a w h hr)
theorem rw_op {E : Env} {ops : Array Oper} {o : Oper} {rest : List Oper} {s s1 : St} {K : St → Prop} (hg : o.guard = none) (ho : OpTo E o s s1) (h : RW E ops rest s1 K) : RW E ops (o :: rest) s K := by
  intro a w Q hr hq
  refine wpList_plain hg (fun K hK => ?_)
  exact ho a w hr K Q (fun a' w' hr' => hK _ _ (h a' w' Q hr' hq))
theorem rw_ent {E : Env} {ops : Array Oper} {l : List Oper} {s s1 : St} {K : St → Prop} (he : Ent E s s1) (h : RW E ops l s1 K) : RW E ops l s K :=
  fun a w Q hr hq => h a w Q (he a w hr) hq
theorem rw_mono {E : Env} {ops : Array Oper} {l : List Oper} {s : St} {K K' : St → Prop} (h : RW E ops l s K) (hk : ∀ s, K s → K' s) : RW E ops l s K' :=
  fun a w Q hr hq => h a w Q hr (fun s' a' w' hs hr' => hq s' a' w' (hk _ hs) hr')
theorem rw_cut {E : Env} {ops : Array Oper} {l : List Oper} {s s1 : St} {K : St → Prop} (h : RW E ops l s (fun s' => s' = s1)) (hk : K s1) : RW E ops l s K := rw_mono h (fun s hs => hs ▸ hk)
/-- an operation that is done if a test says so -/
theorem rw_may {E : Env} {ops : Array Oper} {o : Oper} {rest : List Oper} {s : St} {K : St → Prop} {j d t : Nat} {b c : Bool} {r : AV} (hg : o.guard = some (j, b)) (hj : ((ops[j]?).bind (·.dst)) = some d) (hd : d < E.n) (hs : s.get d = .lit (.bool c))
    (ht : o.dst = some t) (hok : t < E.n) (ho : c = b → OpTo E o s (s.put t r)) (h : RW E ops rest (s.put t (if c = b then r else .dead)) K) : RW E ops (o :: rest) s K := by
  intro a w Q hr hq
  unfold wpList
  have hy := yielded_lit hr hj hd hs
  by_cases hc : c = b
  · rw [if_pos (by simp [Region.wanted, hg, hy, hc])]
    rw [if_pos hc] at h
    exact .inl (ho hc a w hr _ Q (fun a' w' hr' => h a' w' Q hr' hq))
  · rw [if_neg (by simp [Region.wanted, hg, hy, hc])]
    rw [if_neg hc] at h
    obtain ⟨χ, hd', h0⟩ := hr
    have := h0.putO (d := o.dst) (by rw [ht]; simpa [okD] using hok) (v := undef) (repR_dead undef)
    rw [ht] at this
    have hx := h _ w Q ⟨χ, hd', this⟩ hq
    rw [ht]
    exact hx
/-- two ways -/
theorem rw_if {E : Env} {ops : Array Oper} {o : Oper} {rest : List Oper} {s : St} {K : St → Prop} {j d : Nat} {b c : Bool} (hg : o.guard = some (j, b)) (hj : ((ops[j]?).bind (·.dst)) = some d) (hd : d < E.n) (hs : s.get d = .lit (.bool c)) (hok : okD E.n o.dst = true) {s1 : St}
    (ho : c = b → OpTo E o s s1) (h1 : c = b → RW E ops rest s1 K) (h2 : c ≠ b → RW E ops rest (s.putO o.dst .dead) K) : RW E ops (o :: rest) s K := by
  intro a w Q hr hq
  unfold wpList
  have hy := yielded_lit hr hj hd hs
  by_cases hc : c = b
  · rw [if_pos (by simp [Region.wanted, hg, hy, hc])]
    exact .inl (ho hc a w hr _ Q (fun a' w' hr' => h1 hc a' w' Q hr' hq))
  · rw [if_neg (by simp [Region.wanted, hg, hy, hc])]
    obtain ⟨χ, hd', h0⟩ := hr
    exact h2 hc _ w Q ⟨χ, hd', h0.putO hok (repR_dead _)⟩ hq
theorem rw_split {E : Env} {ops : Array Oper} {l : List Oper} {s : St} {K : St → Prop} (c : Bool) (h : c = true → RW E ops l s K) (k : c = false → RW E ops l s K) : RW E ops l s K := by
  cases c
  · exact k rfl
  · exact h rfl
theorem twp_rw {E : Env} {id : Nat} {ops : Array Oper} {y : Code} {Q : Exit → St → Prop} {s : St} (h : RW E ops ops.toList s (TWp E y Q)) : TWp E (.seq (.region id ops false) y) Q s :=
  twp_seq (fun a w hr => wp_region_list (h a w _ hr fun s' a' w' hs' hr' => ⟨s', hs', hr'⟩))
theorem twp_rwl {E : Env} {id : Nat} {ops : Array Oper} {Q : Exit → St → Prop} {s : St} (h : RW E ops ops.toList s (Q .normal)) : TWp E (.region id ops false) Q s :=
  fun a w hr => wp_region_list (h a w _ hr fun s' a' w' hs' hr' => ⟨s', hs', hr'⟩)

theorem opTo_val' {E : Env} {Θ : Tys} (hΘ : TOK E.P Θ) {o : Oper} {s s' : St} {r : AV} (hd : okD E.n o.dst = true) (he : evVal Θ s o.op = some r) (hs : s.putO o.dst r = s') : OpTo E o s s' := hs ▸ opTo_val hΘ hd he
/- what guarded tests come to -/
theorem pk_and {t x : Bool} : (if t = true then (if t = true then AV.lit (.bool x) else .dead) else AV.lit (.bool false)) = .lit (.bool (t && x)) := by cases t <;> rfl
theorem pk_or {t x : Bool} : (if t = true then AV.lit (.bool true) else (if t = false then AV.lit (.bool x) else .dead)) = .lit (.bool (t || x)) := by cases t <;> rfl

/- ------------------------------------------------ other names -/
mutual
def renA (π : List (Nat × Nat)) : AV → AV
  | .sl i off len => match π.lookup i with
    | some j => .sl j off len
    | none => .dead
  | .ptr i e o => match π.lookup i with
    | some j => .ptr j e o
    | none => .dead
  | .agg cs => .agg (renL π cs)
  | .tup cs => .tup (renL π cs)
  | .fn g cs => .fn g (renL π cs)
  | a => a
def renL (π : List (Nat × Nat)) : List AV → List AV
  | [] => []
  | c :: cs => renA π c :: renL π cs
end
def renLL (π : List (Nat × Nat)) (xs : List (List AV)) : List (List AV) := xs.map (renL π)
theorem renLL_nil (π : List (Nat × Nat)) : renLL π [] = [] := rfl
theorem renL_length (π : List (Nat × Nat)) : ∀ cs, (renL π cs).length = cs.length
  | [] => rfl
  | c :: cs => by simp [renL, renL_length π cs]

mutual
theorem renA_sound {w : World} {S S2 U U2 : Nat → Prop} {ρ ρ2 : Tab} {π : List (Nat × Nat)} (hS : ∀ b, S b → S2 b) (hU : ∀ i j, π.lookup i = some j → U2 j) (hρ : ∀ i j, π.lookup i = some j → ρ2 j = ρ i) : ∀ (a : AV) (u : Value) (fp : List Nat), repR w S U ρ a u fp → repR w S2 U2 ρ2 (renA π a) u fp
  | .sl id off len, u, fp, h => by
    simp only [renA]
    simp only [repR] at h
    split
    · rename_i j hj
      simp only [repR]
      exact ⟨h.1, hU _ _ hj, fun a b c hh => h.2.2 a b c (by rw [← hρ _ _ hj]; exact hh)⟩
    · rw [h.1]; exact repR_dead _
  | .ptr id e o, u, fp, h => by
    simp only [renA]
    simp only [repR] at h
    split
    · rename_i j hj
      simp only [repR]
      exact ⟨h.1, hU _ _ hj, fun a b c hh => h.2.2 a b c (by rw [← hρ _ _ hj]; exact hh)⟩
    · rw [h.1]; exact repR_dead _
  | .agg cs, u, fp, h => by
    simp only [renA, repR] at h ⊢
    obtain ⟨vs, hu, hr⟩ := h
    exact ⟨vs, hu, renL_sound hS hU hρ cs vs fp hr⟩
  | .tup cs, u, fp, h => by
    simp only [renA, repR] at h ⊢
    obtain ⟨vs, hu, hr⟩ := h
    exact ⟨vs, hu, renL_sound hS hU hρ cs vs fp hr⟩
  | .fn g cs, u, fp, h => by
    simp only [renA, repR] at h ⊢
    obtain ⟨vs, hu, hr⟩ := h
    exact ⟨vs, hu, renL_sound hS hU hρ cs vs fp hr⟩
  | .dead, u, fp, h => by simp only [renA, repR] at h ⊢; exact rep_frame _ u fp h hS (fun _ _ => rfl) (fun _ _ => rfl)
  | .lit _, u, fp, h => by simp only [renA, repR] at h ⊢; exact rep_frame _ u fp h hS (fun _ _ => rfl) (fun _ _ => rfl)
  | .ro _ _, u, fp, h => by simp only [renA, repR] at h ⊢; exact rep_frame _ u fp h hS (fun _ _ => rfl) (fun _ _ => rfl)
  | .own _ _ _, u, fp, h => by simp only [renA, repR] at h ⊢; exact rep_frame _ u fp h hS (fun _ _ => rfl) (fun _ _ => rfl)
  | .rop _ _, u, fp, h => by simp only [renA, repR] at h ⊢; exact rep_frame _ u fp h hS (fun _ _ => rfl) (fun _ _ => rfl)
theorem renL_sound {w : World} {S S2 U U2 : Nat → Prop} {ρ ρ2 : Tab} {π : List (Nat × Nat)} (hS : ∀ b, S b → S2 b) (hU : ∀ i j, π.lookup i = some j → U2 j) (hρ : ∀ i j, π.lookup i = some j → ρ2 j = ρ i) : ∀ (cs : List AV) (vs : List Value) (fp : List Nat), repRL w S U ρ cs vs fp → repRL w S2 U2 ρ2 (renL π cs) vs fp
  | [], _, _, h => by simpa only [renL, repRL] using h
  | c :: cs, vs, fp, h => by
    simp only [renL, repRL] at h ⊢
    obtain ⟨u, us, f1, f2, hv, rfl, h1, h2⟩ := h
    exact ⟨u, us, f1, f2, hv, rfl, renA_sound hS hU hρ c u f1 h1, renL_sound hS hU hρ cs us f2 h2⟩
end
theorem renLL_sound {w : World} {S S2 U U2 : Nat → Prop} {ρ ρ2 : Tab} {π : List (Nat × Nat)} {sz : Nat} (hS : ∀ b, S b → S2 b) (hU : ∀ i j, π.lookup i = some j → U2 j) (hρ : ∀ i j, π.lookup i = some j → ρ2 j = ρ i) : ∀ (xs : List (List AV)) (vs : List Value) (fp : List Nat), repRLL w S U ρ sz xs vs fp → repRLL w S2 U2 ρ2 sz (renLL π xs) vs fp
  | [], _, _, h => by simpa only [renLL, List.map, repRLL] using h
  | x :: xs, vs, fp, h => by
    simp only [renLL, List.map, repRLL] at h ⊢
    obtain ⟨us, us', f1, f2, hv, rfl, hl, h1c, h1, h2⟩ := h
    exact ⟨us, us', f1, f2, hv, rfl, hl, h1c, renL_sound hS hU hρ x us f1 h1, renLL_sound hS hU hρ xs us' f2 h2⟩

def renR (π : List (Nat × Nat)) (R : Root) : Root := ⟨R.T, R.sz, renLL π R.xs⟩
def swp (π : List (Nat × Nat)) : List (Nat × Nat) := π.map fun p => (p.2, p.1)
def St.ren (s : St) (π : List (Nat × Nat)) (ts : List Nat) : St :=
  ⟨ts.map (fun t => (t, renA π (s.get t))), π.map (fun p => (p.2, (s.root p.1).map (renR π))), π.map (·.2) ++ [JJ]⟩
theorem lookup_map2 {α β : Type} (g : α → Nat × β) : ∀ (l : List α) (t : Nat) (v : β), (l.map g).lookup t = some v → ∃ x ∈ l, g x = (t, v)
  | [], t, v, h => by simp at h
  | x :: l, t, v, h => by
    rw [List.map_cons] at h
    rcases hx : g x with ⟨i, y⟩
    rw [hx] at h
    by_cases e : t = i
    · subst e
      rw [lookup_cons_same] at h
      cases h
      exact ⟨x, List.mem_cons_self, hx⟩
    · rw [lookup_cons_ne e] at h
      obtain ⟨z, hz, hg⟩ := lookup_map2 g l t v h
      exact ⟨z, List.mem_cons_of_mem _ hz, hg⟩
theorem mem_lookup {π : List (Nat × Nat)} (hn : (π.map (·.1)).Nodup) {i j : Nat} (h : (i, j) ∈ π) : π.lookup i = some j := by
  induction π with
  | nil => cases h
  | cons p r ih =>
    obtain ⟨x, y⟩ := p
    simp only [List.map_cons, List.nodup_cons] at hn
    rcases List.mem_cons.1 h with e | e
    · cases e; exact lookup_cons_same _ _ _
    · have : i ≠ x := by
        rintro rfl
        exact hn.1 (List.mem_map.2 ⟨(i, j), e, rfl⟩)
      rw [lookup_cons_ne this]
      exact ih hn.2 e
theorem lookup_mem {π : List (Nat × Nat)} {i j : Nat} (h : π.lookup i = some j) : (i, j) ∈ π := by
  induction π with
  | nil => simp at h
  | cons p r ih =>
    obtain ⟨x, y⟩ := p
    by_cases e : i = x
    · subst e; rw [lookup_cons_same] at h; cases h; exact List.mem_cons_self
    · rw [lookup_cons_ne e] at h; exact List.mem_cons_of_mem _ (ih h)
theorem ent_ren (E : Env) (s : St) (π : List (Nat × Nat)) (ts : List Nat) (h1 : (π.map (·.1)).Nodup) (h2 : (π.map (·.2)).Nodup) (hJ : JJ ∉ π.map (·.2)) (hJ1 : JJ ∉ π.map (·.1)) (hfx : ∀ p, p ∈ E.fx → π.lookup p.1 = some p.1) : Ent E s (s.ren π ts) := by
  rintro a w ⟨χ, hd, h⟩
  have hsw : ((swp π).map (·.1)).Nodup := by simpa [swp, List.map_map, Function.comp_def] using h2
  let χ' : Nat → Option Nat := fun b => (χ b).map fun r => (π.lookup r).getD JJ
  let hd' : Nat → Value := fun j => hd (((swp π).lookup j).getD 0)
  have hfree : ∀ b, free χ w b ↔ free χ' w b := by
    intro b
    simp only [free, χ', Option.map_eq_none_iff]
  have hroot : ∀ j, ((swp π).lookup j = none → (s.ren π ts).root j = none) ∧ (∀ i, (swp π).lookup j = some i → (s.ren π ts).root j = (s.root i).map (renR π)) := by
    intro j
    simp only [St.root, St.ren, swp]
    have hx : ∀ l : List (Nat × Nat), ((l.map fun p => (p.2, p.1)).lookup j = none → ((l.map (fun p => (p.2, ((s.rt.lookup p.1).getD none).map (renR π)))).lookup j).getD none = none) ∧ (∀ i, (l.map fun p => (p.2, p.1)).lookup j = some i → ((l.map (fun p => (p.2, ((s.rt.lookup p.1).getD none).map (renR π)))).lookup j).getD none = ((s.rt.lookup i).getD none).map (renR π)) := by
      intro l
      induction l with
      | nil => simp
      | cons p r ih =>
        simp only [List.map_cons]
        by_cases e : j = p.2
        · subst e; rw [lookup_cons_same, lookup_cons_same]; simp
        · rw [lookup_cons_ne e, lookup_cons_ne e]; exact ih
    exact hx π
  have hπ : ∀ i j, π.lookup i = some j → (swp π).lookup j = some i := fun i j hij => mem_lookup hsw (by
    have := lookup_mem hij
    exact List.mem_map.2 ⟨(i, j), this, rfl⟩)
  have hπ' : ∀ i j, (swp π).lookup j = some i → π.lookup i = some j := fun i j hij => mem_lookup h1 (by
    have := lookup_mem hij
    obtain ⟨p, hp, e⟩ := List.mem_map.1 this
    cases e; exact hp)
  have hU : ∀ i j, π.lookup i = some j → j ∈ (s.ren π ts).us := fun i j hij => by
    show j ∈ π.map (·.2) ++ [JJ]
    exact List.mem_append_left _ (List.mem_map.2 ⟨(i, j), lookup_mem hij, rfl⟩)
  have hρ : ∀ i j, π.lookup i = some j → tab (s.ren π ts) hd' j = tab s hd i := by
    intro i j hij
    have hs := hπ _ _ hij
    simp only [tab, (hroot j).2 i hs, hd', hs, Option.getD_some, Option.map_map, Function.comp_def, renR, renLL, List.length_map]
  refine ⟨χ', hd', h.defers, h.size, h.os, h.tape, h.output, h.hsz, h.frame, fun p hv => by
    refine ⟨hU _ _ (hfx p hv), ?_⟩
    show hd (((swp π).lookup p.1).getD 0) = p.2
    rw [hπ _ _ (hfx p hv)]
    exact (h.fx p hv).2, ?_, ?_, ?_, ?_, ?_, ?_⟩
  · show JJ ∈ π.map (·.2) ++ [JJ]
    simp
  · refine (hroot JJ).1 ?_
    cases hl : (swp π).lookup JJ with
    | none => rfl
    | some i => exact absurd (List.mem_map.2 ⟨(i, JJ), lookup_mem (hπ' _ _ hl), rfl⟩) hJ
  · intro b hb
    have : π.lookup JJ = none := by
      cases hl : π.lookup JJ with
      | none => rfl
      | some i => exact absurd (List.mem_map.2 ⟨(JJ, i), lookup_mem hl, rfl⟩) hJ1
    simp [χ', h.jk b hb, this]
  · intro b r hb
    simp only [χ', Option.map_eq_some_iff] at hb
    obtain ⟨q, hq, hr⟩ := hb
    refine ⟨fun hne => ?_, (h.col b q hq).2⟩
    refine (h.col b q hq).1 (fun e => ?_)
    subst e
    cases hl : π.lookup JJ with
    | none => rw [hl] at hr; exact hne hr.symm
    | some i => exact absurd (List.mem_map.2 ⟨(JJ, i), lookup_mem hl, rfl⟩) hJ1
  · intro j R hR
    cases hl : (swp π).lookup j with
    | none => rw [(hroot j).1 hl] at hR; cases hR
    | some i =>
      rw [(hroot j).2 i hl] at hR
      obtain ⟨R0, hR0, rfl⟩ := Option.map_eq_some_iff.1 hR
      have hij := hπ' _ _ hl
      refine ⟨hU _ _ hij, ?_⟩
      obtain ⟨_, fp, ⟨hz, vs, fp', ho, hr, rfl⟩, hnd, hcol⟩ := h.rts i R0 hR0
      refine ⟨_, ⟨hz, vs, fp', ?_, renLL_sound (fun b hb => (hfree b).1 hb) hU hρ _ _ _ hr, rfl⟩, ?_, ?_⟩
      · simp only [renR, renLL, List.length_map, hd', hl, Option.getD_some]; exact ho
      · simpa only [hd', hl, Option.getD_some] using hnd
      · intro b hb
        simp only [hd', hl, Option.getD_some] at hb
        simp [χ', hcol b hb, hij]
  · intro t
    have : (s.ren π ts).get t = if t ∈ ts then renA π (s.get t) else .dead := by
      unfold St.ren
      show ((ts.map fun t => (t, renA π (s.get t))).lookup t).getD .dead = _
      rw [lookup_map (fun t => renA π (s.get t))]
      split <;> rfl
    rw [this]
    split
    · exact renA_sound (fun b hb => (hfree b).1 hb) hU hρ _ _ _ (h.slots t)
    · exact repR_dead _

/-- the empty slice that is nothing, as an empty row of its own -/
theorem ent_nil (E : Env) (s : St) (t id T sz : Nat) (hid' : s.us.contains id = false) (hsz : 0 < sz) (ht : s.get t = .lit (.slice none 0 0)) : Ent E s ((s.add id ⟨T, sz, []⟩).put t (.sl id 0 0)) := by
  have hid : id ∉ s.us := by simpa using hid'
  rintro a w ⟨χ, hd, h⟩
  have hiJ : id ≠ JJ := by rintro rfl; exact hid h.jj
  have hs := h.slots t
  rw [ht] at hs
  have hs := lit_inv hs
  let hd' : Nat → Value := fun j => if j = id then .slice none 0 0 else hd j
  have htab : ∀ i, i ∈ s.us → ∀ x, tab (s.add id ⟨T, sz, []⟩) hd' i = some x → tab s hd i = some x := by
    intro i hi x hx
    have hne : i ≠ id := by rintro rfl; exact hid hi
    simpa [tab, St.root_add_ne s hne, hd', hne] using hx
  have hUU : ∀ i, i ∈ s.us → i ∈ (s.add id ⟨T, sz, []⟩).us := fun i hi => List.mem_cons_of_mem _ hi
  refine ⟨χ, hd', h.defers, h.size, h.os, h.tape, h.output, h.hsz, h.frame, fx_add (R := ⟨T, sz, []⟩) h.fx hid, hUU _ h.jj, ?_, h.jk, h.col, ?_, ?_⟩
  · show (s.add id ⟨T, sz, []⟩).root JJ = none
    rw [St.root_add_ne s (Ne.symm hiJ)]; exact h.rj
  · intro i R hR
    by_cases e : i = id
    · subst e
      have : R = ⟨T, sz, []⟩ := by
        have h0 : ((s.add i ⟨T, sz, []⟩).put t (.sl i 0 0)).root i = some ⟨T, sz, []⟩ := St.root_add_same s i _
        rw [h0] at hR; cases hR; rfl
      subst this
      refine ⟨List.mem_cons_self, [], ⟨hsz, [], [], ?_, by simp [repRLL], by simp [hd', Value.ownBlock]⟩, List.nodup_nil, by simp⟩
      simp only [hd', if_pos]
      exact ⟨by simp, .inl ⟨rfl, rfl⟩⟩
    · have hR' : s.root i = some R := by rw [← St.root_add_ne s e ⟨T, sz, []⟩]; exact hR
      obtain ⟨hi, fp, hr, hnd, hcol⟩ := h.rts i R hR'
      refine ⟨hUU _ hi, fp, ?_, hnd, hcol⟩
      simp only [hd', if_neg e]
      exact hr.mono (fun _ hb => hb) (fun _ _ => rfl) (fun _ _ => rfl) hUU htab
  · intro t'
    by_cases e : t' = t
    · subst e
      rw [St.get_put_same, hs]
      simp only [repR]
      refine ⟨trivial, List.mem_cons_self, ?_⟩
      intro h' n' sz' hh
      have h1 : tab ((s.add id ⟨T, sz, []⟩).put t' (.sl id 0 0)) hd' id = some (.slice none 0 0, 0, sz) := by
        simp only [tab, St.root_put, St.root_add_same, Option.map_some, hd', if_pos, List.length_nil]
      rw [h1] at hh
      cases hh
      exact ⟨Nat.le_refl _, ⟨none, 0, rfl, Nat.le_refl _, fun _ => ⟨0, rfl⟩, fun hp => absurd hp (by omega)⟩, Nat.zero_le _⟩
    · rw [St.get_put_ne _ e]
      have := h.slots t'
      exact repR_mono _ _ _ this (fun _ hb => hb) (fun _ _ => rfl) (fun _ _ => rfl) hUU htab
end Go.T
