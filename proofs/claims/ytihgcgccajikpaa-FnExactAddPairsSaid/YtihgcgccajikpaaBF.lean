/- Lemmas for FnExactAddPairs; no condition. -/

import Derived.Test.YtihgcgccajikpaaBE
set_option linter.unusedVariables false
namespace Go.T
open Go Go.RowKit Go.Proofs

mutual
theorem rep_ofR {w : World} {S U : Nat → Prop} {ρ : Tab} (hU : ∀ i, ¬ U i) : ∀ (x : AV) (u : Value) (f : List Nat), repR w S U ρ x u f → rep w S x u f
  | .sl i _ _, u, f, hr => by simp only [repR] at hr; exact absurd hr.2.1 (hU i)
  | .ptr i _ _, u, f, hr => by simp only [repR] at hr; exact absurd hr.2.1 (hU i)
  | .agg cs, u, f, hr => by
    simp only [repR] at hr
    simp only [rep]
    obtain ⟨vs, hu, hr⟩ := hr
    exact ⟨vs, hu, repL_ofR hU cs vs f hr⟩
  | .tup cs, u, f, hr => by
    simp only [repR] at hr
    simp only [rep]
    obtain ⟨vs, hu, hr⟩ := hr
    exact ⟨vs, hu, repL_ofR hU cs vs f hr⟩
  | .fn g cs, u, f, hr => by
    simp only [repR] at hr
    simp only [rep]
    obtain ⟨vs, hu, hr⟩ := hr
    exact ⟨vs, hu, repL_ofR hU cs vs f hr⟩
  | .dead, u, f, hr => by simpa only [repR] using hr
  | .lit _, u, f, hr => by simpa only [repR] using hr
  | .ro _ _, u, f, hr => by simpa only [repR] using hr
  | .own _ _ _, u, f, hr => by simpa only [repR] using hr
  | .rop _ _, u, f, hr => by simpa only [repR] using hr
theorem repL_ofR {w : World} {S U : Nat → Prop} {ρ : Tab} (hU : ∀ i, ¬ U i) : ∀ (xs : List AV) (us : List Value) (f : List Nat), repRL w S U ρ xs us f → repL w S xs us f
  | [], us, f, hr => by simpa only [repRL, repL] using hr
  | c :: cs, us, f, hr => by
    simp only [repRL] at hr
    simp only [repL]
    obtain ⟨u, us', f1, f2, hv, hf, h1, h2⟩ := hr
    exact ⟨u, us', f1, f2, hv, hf, rep_ofR hU c u f1 h1, repL_ofR hU cs us' f2 h2⟩
end

open Classical in
theorem meets_ofC {P : Program} {Θ : Tys} (hΘ : TOK P Θ) {f : FuncId} {fn : Func} {c : Code} (hf : P.funcs[f]? = some fn) (hname : (fn.name == "runtime.NumGoroutine") = false) (hb : fn.body = some c) {args : List AV} {res : AV} (hn : args.length ≤ fn.ntmps)
    (h : ∀ E : Env, E.P = P → E.n = fn.ntmps → (∀ p, p ∈ E.fx → p.1 ∈ ([] : List Nat)) → WAt E c (FQ (RetE Θ fn.results.toList [] [] res E)) [] (entry args)) : Meets P f args res := by
  refine ⟨enters_of hf hname hb, ?_⟩
  intro w S vals hv hS
  have hvl := repL_length _ _ _ hv
  refine calls_of_wp hf hb ?_
  let E : Env := ⟨P, w, fn.ntmps, fun _ => False, fun b => b < w.heap.size ∧ ¬ S b, []⟩
  let χ : Nat → Option Nat := fun b => if b < w.heap.size ∧ ¬ S b then some JJ else none
  have hfree : ∀ b, S b → free χ w b := fun b hb => ⟨by simp [χ, hb], hS b hb⟩
  have hrel : Rel0 E (entry args) { tmps := vals.toArray ++ Array.replicate (fn.ntmps - vals.toArray.size) undef, defers := [] } w χ (fun _ => undef) := by
    refine ⟨rfl, by simp [E]; omega, rfl, Tp.refl _, rfl, Nat.le_refl _, fun _ _ _ => rfl, (fun _ h => by cases h), by simp [entry], rfl, fun b hb => by simp only [χ]; rw [if_pos hb], ?_, ?_, ?_⟩
    · intro b r hbr
      simp only [χ] at hbr
      split at hbr
      · rename_i hh; cases hbr; exact ⟨fun e => absurd rfl e, hh.1⟩
      · cases hbr
    · intro i R hR
      simp [St.root, entry] at hR
    · intro t
      rw [entry_get]
      cases ht : args[t]? with
      | none => exact repR_dead _
      | some x =>
        obtain ⟨v, hvt, hr⟩ := repL_get _ _ _ _ hv ht
        have : (vals.toArray ++ Array.replicate (fn.ntmps - vals.toArray.size) undef).getD t undef = v := by
          have hlt : t < vals.length := (List.getElem?_eq_some_iff.1 hvt).1
          rw [Array.getD_eq_getD_getElem?, Array.getElem?_append_left (by simpa using hlt)]
          simp [hvt]
        simp only [Option.getD_some]
        rw [this]
        exact repR_of _ _ _ (rep_frame _ _ _ hr hfree (fun _ _ => rfl) (fun _ _ => rfl))
  refine wp_mono (wAt_root (h E rfl rfl (fun p hp => by cases hp)) _ w ⟨χ, _, hrel⟩) ?_
  rintro e a' w' ⟨s0, ⟨he, s', hent, xs, hxs, _, hpk⟩, hr0⟩
  obtain ⟨χ', hd', hr⟩ := hent a' w' hr0
  obtain ⟨v, hv1, hv2⟩ := results_run (E := E) hΘ hr hxs
  obtain ⟨g, hg1, hg2, hg3⟩ := hpk a' w' χ' hd' (fun _ => none) hr (fun i hi => by simp at hi) v hv2
  have hg1 := rep_ofR (fun i hi => by simp at hi) _ _ _ hg1
  have hR : ∃ v2 fp, Ending.returned v = .returned v2 ∧ Below w.heap.size w w' ∧ w.drawn ≤ w'.drawn ∧ rep w' (fun b => (S b ∨ w.heap.size ≤ b) ∧ b < w'.heap.size ∧ b ∉ fp) res v2 fp ∧ fp.Nodup ∧ ∀ b ∈ fp, w.heap.size ≤ b := by
    refine ⟨v, g, rfl, ⟨hr.os, hr.tape.1, hr.output, hr.hsz, fun k hk => hr.frame k hk (fun h => h)⟩, hr.tape.2, ?_, hg2, ?_⟩
    · refine rep_frame _ _ _ hg1 (fun b hb => ⟨?_, hb.2.2, ?_⟩) (fun _ _ => rfl) (fun _ _ => rfl)
      · by_cases hlt : b < w.heap.size
        · left
          apply Classical.byContradiction
          intro hns
          have := hr.jk b ⟨hlt, hns⟩
          rw [hb.2.1] at this; cases this
        · right; omega
      · intro hm
        obtain ⟨i, hi, _⟩ := hg3 b hm
        rw [hb.2.1] at hi; cases hi
    · intro b hb
      obtain ⟨i, hi, hij, _⟩ := hg3 b hb
      rcases (hr.col b i hi).1 hij with h1 | h1
      · exact h1
      · exact h1.elim
  rcases he with rfl | rfl
  · exact ⟨hr.defers, v, hv1, hR⟩
  · exact ⟨hr.defers, v, hv1, hR⟩

/- ------------------------------------------------ a function that is handed rows -/
def entryR (args : List AV) (rs : List Root) : St := ⟨(args.zipIdx).map (fun p => (p.2, p.1)), rs.zipIdx.map (fun p => (p.2, some p.1)), (List.range rs.length) ++ [JJ]⟩
theorem zipIdx_root_aux : ∀ (rs : List Root) (k i : Nat), ((rs.zipIdx k).map (fun p => (p.2, some p.1))).lookup (k + i) = (rs[i]?).map some
  | [], k, i => by simp
  | R :: rs, k, i => by
    rw [List.zipIdx_cons, List.map_cons]
    cases i with
    | zero => simp
    | succ i =>
      rw [lookup_cons_ne (by simp), show k + (i + 1) = (k + 1) + i by omega, zipIdx_root_aux rs (k + 1) i]
      rfl
theorem entryR_root (args : List AV) (rs : List Root) (i : Nat) : (entryR args rs).root i = rs[i]? := by
  have := zipIdx_root_aux rs 0 i
  rw [Nat.zero_add] at this
  simp only [St.root, entryR, this]
  cases rs[i]? <;> rfl
theorem entryR_get (args : List AV) (rs : List Root) (t : Nat) : (entryR args rs).get t = (args[t]?).getD .dead := by
  have := entry_get_aux args 0 t
  rw [Nat.zero_add] at this
  simp only [St.get, entryR, this]
open Classical in
theorem meetsR_of {P : Program} {Θ : Tys} (hΘ : TOK P Θ) {f : FuncId} {fn : Func} {c : Code} (hf : P.funcs[f]? = some fn) (hname : (fn.name == "runtime.NumGoroutine") = false) (hb : fn.body = some c) {rs rs' : List Root} {ks : List Bool} {args : List AV} {res : AV} (hn : args.length ≤ fn.ntmps) (hkl : ks.length = rs.length) (hrl : rs.length < JJ) (hne : ks.isEmpty = false) {fr : List Nat} (hfr : ∀ i, i < rs.length → ks[i]? = some true → i ∈ fr)
    (h : ∀ E : Env, E.P = P → E.n = fn.ntmps → (∀ p, p ∈ E.fx → p.1 ∈ fr) → WAt E c (FQ (RetE Θ fn.results.toList ks rs' res E)) [] (entryR args rs)) : MeetsR P f rs args ks rs' res := by
  refine ⟨enters_of hf hname hb, ?_⟩
  intro w S hd fp vals hrow hnil hdj hsep hS hargs
  have hvl := repRL_length _ _ _ hargs
  refine calls_of_wp hf hb ?_
  have hpos : ∀ i b, b ∈ fp i → i < rs.length := by
    intro i b hb
    apply Classical.byContradiction
    intro hne
    rw [hnil i (by rw [List.getElem?_eq_none_iff]; omega)] at hb; cases hb
  have hlt : ∀ i b, b ∈ fp i → b < w.heap.size := by
    intro i b hb
    have hi := hpos i b hb
    obtain ⟨_, ⟨vs, fp0, ho, hr, he⟩, _⟩ := hrow i (rs[i]) (by simp [hi])
    rw [he] at hb
    rcases List.mem_append.1 hb with hb | hb
    · exact ownsRow_lt ho b hb
    · exact repLL_lt _ _ _ _ hr b hb
  let fx : List (Nat × Value) := ((List.range rs.length).filter fun i => ks[i]? == some true).map fun i => (i, hd i)
  let E : Env := ⟨P, w, fn.ntmps, fun b => ∃ i, b ∈ fp i, fun b => b < w.heap.size ∧ ¬ S b ∧ ¬ ∃ i, b ∈ fp i, fx⟩
  have hfxm : ∀ p, p ∈ fx → p.1 < rs.length ∧ ks[p.1]? = some true ∧ p.2 = hd p.1 := by
    intro p hp
    simp only [fx, List.mem_map, List.mem_filter, List.mem_range] at hp
    obtain ⟨i, ⟨h1, h2⟩, rfl⟩ := hp
    exact ⟨h1, by simpa using h2, rfl⟩
  let χ : Nat → Option Nat := fun b => if hb : ∃ i, b ∈ fp i then some (Classical.choose hb) else if b < w.heap.size ∧ ¬ S b then some JJ else none
  have hχ : ∀ i b, b ∈ fp i → χ b = some i := by
    intro i b hb
    have hex : ∃ i, b ∈ fp i := ⟨i, hb⟩
    simp only [χ]
    rw [dif_pos hex, hdj _ _ b (Classical.choose_spec hex) hb]
  have hfree : ∀ b, S b → free χ w b := fun b hb => ⟨by
    simp only [χ]
    rw [dif_neg (fun ⟨i, hi⟩ => hsep i b hi hb), if_neg (fun h => h.2 hb)], hS b hb⟩
  let s0 := entryR args rs
  have htab : tab s0 hd = hdT rs hd := by
    funext i
    simp only [tab, s0, entryR_root, hdT]
  have hus : ∀ i, i < rs.length → i ∈ s0.us := fun i hi => by simp [s0, entryR, hi]
  have hrel : Rel0 E s0 { tmps := vals.toArray ++ Array.replicate (fn.ntmps - vals.toArray.size) undef, defers := [] } w χ hd := by
    refine ⟨rfl, by simp [E]; omega, rfl, Tp.refl _, rfl, Nat.le_refl _, fun _ _ _ => rfl, fun p hp => ⟨hus _ (hfxm p hp).1, (hfxm p hp).2.2.symm⟩, by simp [s0, entryR], ?_, ?_, ?_, ?_, ?_⟩
    · rw [entryR_root, List.getElem?_eq_none_iff]; omega
    · intro b hb
      simp only [χ]
      rw [dif_neg hb.2.2, if_pos ⟨hb.1, hb.2.1⟩]
    · intro b r hbr
      simp only [χ] at hbr
      split at hbr
      · rename_i hh
        cases hbr
        exact ⟨fun _ => .inr hh, hlt _ b (Classical.choose_spec hh)⟩
      · split at hbr
        · rename_i hh; cases hbr; exact ⟨fun e => absurd rfl e, hh.1⟩
        · cases hbr
    · intro i R hR
      rw [entryR_root] at hR
      obtain ⟨hz, ⟨vs, fp0, ho, hr, he⟩, hnd⟩ := hrow i R hR
      refine ⟨hus i (List.getElem?_eq_some_iff.1 hR).1, fp i, ⟨hz, vs, fp0, ho, repRLL_of _ _ _ (repLL_frame _ _ _ _ hr (fun b hb => hb.elim) (fun b hb => hb.elim) (fun _ _ => rfl)), he⟩, hnd, fun b hb => hχ i b hb⟩
    · intro t
      rw [entryR_get]
      cases ht : args[t]? with
      | none => exact repR_dead _
      | some x =>
        obtain ⟨v, hvt, hr⟩ := repRL_get _ _ _ _ hargs ht
        have : (vals.toArray ++ Array.replicate (fn.ntmps - vals.toArray.size) undef).getD t undef = v := by
          have hlt : t < vals.length := (List.getElem?_eq_some_iff.1 hvt).1
          rw [Array.getD_eq_getD_getElem?, Array.getElem?_append_left (by simpa using hlt)]
          simp [hvt]
        simp only [Option.getD_some]
        rw [this]
        exact repR_mono _ _ _ hr hfree (fun _ _ => rfl) (by simp) (fun i hi => hus i hi) (fun i _ y hy => by rw [htab] at hy; exact hy)
  refine wp_mono (wAt_root (h E rfl rfl (fun p hp => hfr _ (hfxm p hp).1 (hfxm p hp).2.1)) _ w ⟨χ, _, hrel⟩) ?_
  rintro e a' w' ⟨s1, ⟨he, s', hent, xs, hxs, hkept, hpk⟩, hr0⟩
  obtain ⟨χ', hd', hr⟩ := hent a' w' hr0
  obtain ⟨v, hv1, hv2⟩ := results_run (E := E) hΘ hr hxs
  have hhd : ∀ i, i < rs.length → ks[i]? = some true → hd' i = hd i := by
    intro i hi hk
    exact (hr.fx (i, hd i) (by
      simp only [E, fx, List.mem_map, List.mem_filter, List.mem_range]
      exact ⟨i, ⟨hi, by simp [hk]⟩, rfl⟩)).2
  have hkpos : ∀ i, ks[i]? = some true → i < rs.length := fun i hk => by have := (List.getElem?_eq_some_iff.1 hk).1; omega
  obtain ⟨g, hg1, hg2, hg3⟩ := hpk a' w' χ' hd' (tab s' hd') hr (fun i _ => rfl) v hv2
  have hcolE : ∀ b i, χ' b = some i → i ≠ JJ → ((∃ j, b ∈ fp j) ∨ w.heap.size ≤ b) ∧ b < w'.heap.size := by
    intro b i hb hi
    have := hr.col b i hb
    refine ⟨?_, this.2⟩
    rcases this.1 hi with h1 | h1
    · exact .inr h1
    · exact .inl h1
  let fp' : Nat → List Nat := fun i => if hk : ks[i]? = some true ∧ ∃ R, rs'[i]? = some R ∧ s'.root i = some R then Classical.choose (hr.rts i (Classical.choose hk.2) (Classical.choose_spec hk.2).2).2 else []
  have hfp' : ∀ i R, rs'[i]? = some R → ks[i]? = some true → RootRep w' (free χ' w') (· ∈ s'.us) (tab s' hd') R (hd' i) (fp' i) ∧ (fp' i).Nodup ∧ ∀ b ∈ fp' i, χ' b = some i := by
    intro i R hR hk
    have hk2 : ks[i]? = some true ∧ ∃ R, rs'[i]? = some R ∧ s'.root i = some R := ⟨hk, R, hR, (hkept i R hR hk).1⟩
    have e : fp' i = Classical.choose (hr.rts i (Classical.choose hk2.2) (Classical.choose_spec hk2.2).2).2 := by simp only [fp']; rw [dif_pos hk2]
    have := Classical.choose_spec (hr.rts i (Classical.choose hk2.2) (Classical.choose_spec hk2.2).2).2
    have eR : Classical.choose hk2.2 = R := by
      exact Option.some.inj ((Classical.choose_spec hk2.2).1.symm.trans hR)
    rw [← e] at this
    rw [eR] at this
    exact this
  have hfpm : ∀ i b, b ∈ fp' i → ks[i]? = some true ∧ χ' b = some i := by
    intro i b hb
    by_cases hk2 : ks[i]? = some true ∧ ∃ R, rs'[i]? = some R ∧ s'.root i = some R
    · obtain ⟨hk, R, hR, _⟩ := hk2
      exact ⟨hk, (hfp' i R hR hk).2.2 b hb⟩
    · simp only [fp'] at hb
      rw [dif_neg hk2] at hb; cases hb
  have hR : ∃ (v2 : Value) (fp2 : Nat → List Nat) (g : List Nat), Ending.returned v = .returned v2 ∧ w'.os = w.os ∧ Tp w w' ∧ w'.output = w.output ∧ w.heap.size ≤ w'.heap.size ∧
      (∀ k, k < w.heap.size → (∀ i, k ∉ fp i) → w'.heap[k]? = w.heap[k]?) ∧
      (∀ (i : Nat) (R' : Root), rs'[i]? = some R' → ks[i]? = some true → Row w' R'.T R'.sz (hd i) R'.xs (fp2 i) ∧ (fp2 i).Nodup) ∧
      (∀ i : Nat, ks[i]? ≠ some true → fp2 i = []) ∧ (∀ i b, b ∈ fp2 i → (∃ j, b ∈ fp j) ∨ w.heap.size ≤ b) ∧
      repR w' NS (fun i => ks[i]? = some true) (hdT rs' hd) res v2 g ∧ g.Nodup ∧ (∀ b ∈ g, ((∃ j, b ∈ fp j) ∨ w.heap.size ≤ b) ∧ b < w'.heap.size) ∧
      (∀ i j b, b ∈ fp2 i → b ∈ fp2 j → i = j) ∧ (∀ i b, b ∈ fp2 i → b ∉ g ∧ b < w'.heap.size) := by
    refine ⟨v, fp', g, rfl, hr.os, hr.tape, hr.output, hr.hsz, fun k hk1 hk2 => hr.frame k hk1 (fun ⟨i, hi⟩ => hk2 i hi), ?_, ?_, ?_, ?_, hg2, ?_, ?_, ?_⟩
    · intro i R' hR' hk
      obtain ⟨⟨_, vs, fp0, ho, hrr, he⟩, h2, _⟩ := hfp' i R' hR' hk
      obtain ⟨_, t1, t2⟩ := hkept i R' hR' hk
      rw [hhd i (hkpos i hk) hk] at ho he
      exact ⟨⟨vs, fp0, ho, repLL_noRo _ _ _ _ (repLL_of_tree _ _ _ hrr t1) t2, he⟩, h2⟩
    · intro i hk
      simp only [fp']
      rw [dif_neg (fun h => hk h.1)]
    · intro i b hb
      obtain ⟨hk, hc⟩ := hfpm i b hb
      exact (hcolE b i hc (fun e => by have := hkpos i hk; omega)).1
    · refine repR_mono _ _ _ hg1 (fun b hb => by have := hb.1; rw [hne] at this; cases this) (fun _ _ => rfl) (fun _ _ => rfl) (fun i hi => hi) (fun i hi y hy => ?_)
      have hi2 := hkpos i hi
      simp only [hdT, Option.map_eq_some_iff] at hy
      obtain ⟨R, hR, rfl⟩ := hy
      simp only [tab, (hkept i R hR hi).1, Option.map_some, hhd i hi2 hi]
    · intro b hb
      obtain ⟨i, hi, hij, _⟩ := hg3 b hb
      exact hcolE b i hi hij
    · intro i j b hi hj
      have h1 := (hfpm i b hi).2
      rw [(hfpm j b hj).2] at h1
      cases h1; rfl
    · intro i b hb
      obtain ⟨hk, hc⟩ := hfpm i b hb
      refine ⟨fun hg => ?_, (hcolE b i hc (fun e => by have := hkpos i hk; omega)).2⟩
      obtain ⟨j, hj, _, hnk⟩ := hg3 b hg
      rw [hc] at hj; cases hj
      exact hnk hk
  rcases he with rfl | rfl
  · exact ⟨hr.defers, v, hv1, hR⟩
  · exact ⟨hr.defers, v, hv1, hR⟩
end Go.T
