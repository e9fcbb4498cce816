/- Lemmas for FnExactAddPairs; no condition. -/

import Derived.Test.YtihgcgccajikpaaTR
set_option linter.unusedVariables false
namespace Go.T
open Go Go.RowKit Go.Proofs

abbrev NS : Nat → Prop := fun _ => False
def Row (w : World) (T sz : Nat) (h : Value) (xs : List (List AV)) (fp : List Nat) : Prop := ∃ vs fp', w.ownsRow 0 T sz h xs.length vs ∧ repLL w NS sz xs vs fp' ∧ fp = h.ownBlock.toList ++ fp'
theorem ownsRow_head {w : World} {T sz n : Nat} {h : Value} {vs : List Value} {A : Option Addr} {m cap : Nat} (ho : w.ownsRow 0 T sz h n vs) (hh : h = .slice A m cap) : m = n := by
  rcases ho.2 with ⟨h1, h2⟩ | ⟨g, c, cur, h1, _⟩
  · rw [hh] at h1; cases h1; exact h2.symm
  · rw [hh] at h1; cases h1; rfl

theorem results_run {E : Env} {Θ : Tys} (hΘ : TOK E.P Θ) {fn : Func} {s : St} {a : Act} {w : World} {χ : Nat → Option Nat} {hd : Nat → Value} (h : Rel0 E s a w χ hd) {xs : List AV} (hxs : resVs Θ s fn.results.toList = some xs) : ∃ v, (results fn a.tmps).run E.P w = .ok v w ∧ repR w (free χ w) (· ∈ s.us) (tab s hd) (one xs) v [] := by
  obtain ⟨vs, hrun, hrep⟩ := resVs_sound (E := E) hΘ h _ _ hxs
  have hlen := repRL_length _ _ _ hrep
  have hm : (fn.results.mapM (resOf a.tmps) : Sem (Array Value)).run E.P w = .ok vs.toArray w := by
    rw [← Array.toArray_toList (xs := fn.results), List.mapM_toArray]
    simp only [Sem.run_map]
    rw [hrun]
    rfl
  rw [results_eq]
  simp only [Sem.run_bind]
  rw [hm]
  simp only [Result.andThen_ok, Sem.run_pure]
  match xs, vs, hlen, hrep with
  | [x], [v], _, hrep =>
    refine ⟨v, by simp, ?_⟩
    simp only [repRL] at hrep
    obtain ⟨u, us, f1, f2, h1, h2, h3, h4, h5⟩ := hrep
    cases h1
    obtain ⟨rfl, rfl⟩ := List.append_eq_nil_iff.1 h2.symm
    exact h3
  | [], [], _, hrep => exact ⟨.tuple #[], by simp, by simp only [one, repR]; exact ⟨[], rfl, hrep⟩⟩
  | x :: y :: xs, v :: u :: vs, _, hrep =>
    refine ⟨.tuple (v :: u :: vs).toArray, by simp, ?_⟩
    simp only [one, repR]
    exact ⟨_, rfl, hrep⟩

mutual
theorem rtfR_sound {E : Env} {a : Act} {w : World} {κ : Nat} : ∀ (x : AV) (u : Value) (f ids : List Nat) (s : St) (χ : Nat → Option Nat) (hd : Nat → Value), Rel0 E s a w χ hd → repR w (free χ w) (· ∈ s.us) (tab s hd) x u f → f.Nodup → (∀ b ∈ f, χ b = some κ) → (∀ b ∈ f, E.w0.heap.size ≤ b ∨ E.In b) → (∀ b ∈ f, ¬ E.Jk b) → (∀ R i, s.root i = some R → i ≠ κ) → ids.Nodup → (∀ i ∈ ids, i ∉ s.us ∧ i ≠ κ) →
    ∃ χ' hd', Named E s (s.addL (rtf x ids).2.1) a w χ χ' hd hd' f ∧ repR w (free χ' w) (· ∈ (s.addL (rtf x ids).2.1).us) (tab (s.addL (rtf x ids).2.1) hd') (rtf x ids).1 u [] ∧ (rtf x ids).2.2.Nodup ∧ (∀ i ∈ (rtf x ids).2.2, i ∉ (s.addL (rtf x ids).2.1).us ∧ i ≠ κ) ∧ (∀ R i, (s.addL (rtf x ids).2.1).root i = some R → i ≠ κ)
  | .own T sz xs, u, f, i :: ids, s, χ, hd, h, hr, hn, hc, hw, hJ, hk, hin, hi => by
    by_cases hz : 0 < sz
    · simp only [rtf, hz, if_true, St.addL]
      simp only [repR, rep] at hr
      obtain ⟨vs, f', ho, hr, rfl⟩ := hr
      obtain ⟨hi1, hi2⟩ := hi i List.mem_cons_self
      let ff := u.ownBlock.toList ++ f'
      let χ' : Nat → Option Nat := fun b => if b ∈ ff then some i else χ b
      have hiJ : i ≠ JJ := by rintro rfl; exact hi1 h.jj
      have hfr : ∀ b, free χ w b ↔ free χ' w b := by
        intro b
        have : χ' b = none ↔ χ b = none := by
          simp only [χ']
          split
          · rename_i hm; rw [hc b hm]; simp
          · rfl
        exact ⟨fun hb => ⟨this.2 hb.1, hb.2⟩, fun hb => ⟨this.1 hb.1, hb.2⟩⟩
      have h1 : Rel0 E s a w χ' hd := by
        refine ⟨h.defers, h.size, h.os, h.tape, h.output, h.hsz, h.frame, h.fx, h.jj, h.rj, ?_, ?_, ?_, ?_⟩
        · intro b hb
          have : b ∉ ff := fun hm => hJ b hm hb
          simp only [χ', this, if_false]; exact h.jk b hb
        · intro b r hbr
          simp only [χ'] at hbr
          split at hbr
          · rename_i hm
            exact ⟨fun _ => hw b hm, (h.col b κ (hc b hm)).2⟩
          · exact h.col b r hbr
        · intro j Q hQ
          obtain ⟨q1, fq, q2, q3, q4⟩ := h.rts j Q hQ
          refine ⟨q1, fq, q2.mono (fun b hb => (hfr b).1 hb) (fun _ _ => rfl) (fun _ _ => rfl) (fun _ y => y) (fun _ _ _ y => y), q3, fun b hb => ?_⟩
          have hbj := q4 b hb
          have : b ∉ ff := fun hm => by have := hc b hm; rw [hbj] at this; cases this; exact hk Q κ hQ rfl
          simp only [χ', this, if_false]; exact hbj
        · intro t
          exact repR_mono _ _ _ (h.slots t) (fun b hb => (hfr b).1 hb) (fun _ _ => rfl) (fun _ _ => rfl) (fun _ y => y) (fun _ _ _ y => y)
      have h2 := h1.addRoot hi1 (R := ⟨T, sz, xs⟩) (v := u) (fp := ff) ⟨hz, vs, f', ho, repRLL_of _ _ _ (repLL_frame _ _ _ _ hr (fun b hb => (hfr b).1 hb) (fun _ _ => rfl) (fun _ _ => rfl)), rfl⟩ hn (fun b hb => by simp only [χ', hb, if_true])
      refine ⟨χ', _, ⟨h2, hfr, fun b hb => by simp only [χ', show b ∉ ff from hb, if_false], fun j hj => List.mem_cons_of_mem _ hj, fun j hj => ?_⟩, ?_, (List.nodup_cons.1 hin).2, ?_, ?_⟩
      · have hne : j ≠ i := fun e => hi1 (e ▸ hj)
        simp [tab, St.root_add_ne s hne, hne]
      · simp only [repR]
        refine ⟨trivial, List.mem_cons_self, ?_⟩
        intro h' n' sz' hh
        simp [tab, St.root_add_same] at hh
        obtain ⟨rfl, rfl, rfl⟩ := hh
        exact ⟨by omega, subHd_self ho, ownsRow_cap ho⟩
      · intro j hj
        obtain ⟨j1, j2⟩ := hi j (List.mem_cons_of_mem _ hj)
        refine ⟨?_, j2⟩
        show j ∉ i :: s.us
        rw [List.mem_cons]
        rintro (rfl | hm)
        · exact (List.nodup_cons.1 hin).1 hj
        · exact j1 hm
      · intro R j hR
        by_cases hj : j = i
        · subst hj; exact hi2
        · rw [St.root_add_ne s hj] at hR; exact hk R j hR
    · simp only [rtf, hz, if_false, St.addL]
      exact ⟨χ, hd, ⟨h, fun _ => Iff.rfl, fun _ _ => rfl, fun _ y => y, fun _ _ => rfl⟩, repR_dead u, hin, hi, hk⟩
  | .own _ _ _, u, f, [], s, χ, hd, h, hr, hn, hc, hw, hJ, hk, hin, hi => by
    simp only [rtf, St.addL]
    exact ⟨χ, hd, ⟨h, fun _ => Iff.rfl, fun _ _ => rfl, fun _ y => y, fun _ _ => rfl⟩, repR_dead u, hin, hi, hk⟩
  | .agg cs, u, f, ids, s, χ, hd, h, hr, hn, hc, hw, hJ, hk, hin, hi => by
    simp only [rtf]
    simp only [repR] at hr
    obtain ⟨vs, rfl, hr⟩ := hr
    obtain ⟨χ', hd', h1, h2, h3, h4, h5⟩ := rtfRL_sound cs vs f ids s χ hd h hr hn hc hw hJ hk hin hi
    exact ⟨χ', hd', h1, by simp only [repR]; exact ⟨vs, rfl, h2⟩, h3, h4, h5⟩
  | .tup cs, u, f, ids, s, χ, hd, h, hr, hn, hc, hw, hJ, hk, hin, hi => by
    simp only [rtf]
    simp only [repR] at hr
    obtain ⟨vs, rfl, hr⟩ := hr
    obtain ⟨χ', hd', h1, h2, h3, h4, h5⟩ := rtfRL_sound cs vs f ids s χ hd h hr hn hc hw hJ hk hin hi
    exact ⟨χ', hd', h1, by simp only [repR]; exact ⟨vs, rfl, h2⟩, h3, h4, h5⟩
  | .fn _ _, u, f, ids, s, χ, hd, h, hr, hn, hc, hw, hJ, hk, hin, hi => by
    simp only [rtf, St.addL]
    exact ⟨χ, hd, ⟨h, fun _ => Iff.rfl, fun _ _ => rfl, fun _ y => y, fun _ _ => rfl⟩, repR_dead u, hin, hi, hk⟩
  | .dead, u, f, ids, s, χ, hd, h, hr, hn, hc, hw, hJ, hk, hin, hi => by
    simp only [rtf, St.addL]
    exact ⟨χ, hd, ⟨h, fun _ => Iff.rfl, fun _ _ => rfl, fun _ y => y, fun _ _ => rfl⟩, repR_dead u, hin, hi, hk⟩
  | .lit v, u, f, ids, s, χ, hd, h, hr, hn, hc, hw, hJ, hk, hin, hi => by
    simp only [rtf, St.addL]
    have hf : f = [] := by simp only [repR, rep] at hr; exact hr.1
    subst hf
    exact ⟨χ, hd, Named.refl h, hr, hin, hi, hk⟩
  | .ro sz xs, u, f, ids, s, χ, hd, h, hr, hn, hc, hw, hJ, hk, hin, hi => by
    simp only [rtf, St.addL]
    have hf : f = [] := by simp only [repR, rep] at hr; exact hr.1
    subst hf
    exact ⟨χ, hd, Named.refl h, hr, hin, hi, hk⟩
  | .rop cs o, u, f, ids, s, χ, hd, h, hr, hn, hc, hw, hJ, hk, hin, hi => by
    simp only [rtf, St.addL]
    have hf : f = [] := by simp only [repR, rep] at hr; exact hr.1
    subst hf
    exact ⟨χ, hd, Named.refl h, hr, hin, hi, hk⟩
  | .sl _ _ _, u, f, ids, s, χ, hd, h, hr, hn, hc, hw, hJ, hk, hin, hi => by
    simp only [rtf, St.addL]
    have hf : f = [] := by simp only [repR] at hr; exact hr.1
    subst hf
    exact ⟨χ, hd, Named.refl h, hr, hin, hi, hk⟩
  | .ptr _ _ _, u, f, ids, s, χ, hd, h, hr, hn, hc, hw, hJ, hk, hin, hi => by
    simp only [rtf, St.addL]
    have hf : f = [] := by simp only [repR] at hr; exact hr.1
    subst hf
    exact ⟨χ, hd, Named.refl h, hr, hin, hi, hk⟩
theorem rtfRL_sound {E : Env} {a : Act} {w : World} {κ : Nat} : ∀ (xs : List AV) (us : List Value) (f ids : List Nat) (s : St) (χ : Nat → Option Nat) (hd : Nat → Value), Rel0 E s a w χ hd → repRL w (free χ w) (· ∈ s.us) (tab s hd) xs us f → f.Nodup → (∀ b ∈ f, χ b = some κ) → (∀ b ∈ f, E.w0.heap.size ≤ b ∨ E.In b) → (∀ b ∈ f, ¬ E.Jk b) → (∀ R i, s.root i = some R → i ≠ κ) → ids.Nodup → (∀ i ∈ ids, i ∉ s.us ∧ i ≠ κ) →
    ∃ χ' hd', Named E s (s.addL (rtfL xs ids).2.1) a w χ χ' hd hd' f ∧ repRL w (free χ' w) (· ∈ (s.addL (rtfL xs ids).2.1).us) (tab (s.addL (rtfL xs ids).2.1) hd') (rtfL xs ids).1 us [] ∧ (rtfL xs ids).2.2.Nodup ∧ (∀ i ∈ (rtfL xs ids).2.2, i ∉ (s.addL (rtfL xs ids).2.1).us ∧ i ≠ κ) ∧ (∀ R i, (s.addL (rtfL xs ids).2.1).root i = some R → i ≠ κ)
  | [], us, f, ids, s, χ, hd, h, hr, hn, hc, hw, hJ, hk, hin, hi => by
    simp only [repRL] at hr
    obtain ⟨rfl, rfl⟩ := hr
    simp only [rtfL, St.addL]
    exact ⟨χ, hd, Named.refl h, by simp [repRL], hin, hi, hk⟩
  | x :: xs, us, f, ids, s, χ, hd, h, hr, hn, hc, hw, hJ, hk, hin, hi => by
    simp only [repRL] at hr
    obtain ⟨u, us', f1, f2, rfl, rfl, hr1, hr2⟩ := hr
    rw [List.nodup_append] at hn
    obtain ⟨χ1, hd1, n1, r1, d1, i1, k1⟩ := rtfR_sound x u f1 ids s χ hd h hr1 hn.1 (fun b hb => hc b (by simp [hb])) (fun b hb => hw b (by simp [hb])) (fun b hb => hJ b (by simp [hb])) hk hin hi
    have hr2' : repRL w (free χ1 w) (· ∈ (s.addL (rtf x ids).2.1).us) (tab (s.addL (rtf x ids).2.1) hd1) xs us' f2 := repRL_mono _ _ _ hr2 (fun b hb => (n1.fr b).1 hb) (fun _ _ => rfl) (fun _ _ => rfl) n1.us (fun i hi y hy => by rwa [n1.tb i hi] at hy)
    obtain ⟨χ2, hd2, n2, r2, d2, i2, k2⟩ := rtfRL_sound xs us' f2 (rtf x ids).2.2 _ χ1 hd1 n1.rel hr2' hn.2.1 (fun b hb => by rw [n1.other b (fun hb1 => hn.2.2 b hb1 b hb rfl)]; exact hc b (by simp [hb])) (fun b hb => hw b (by simp [hb])) (fun b hb => hJ b (by simp [hb])) k1 d1 i1
    simp only [rtfL, St.addL_append]
    refine ⟨χ2, hd2, ⟨n2.rel, fun b => (n1.fr b).trans (n2.fr b), fun b hb => ?_, fun j hj => n2.us j (n1.us j hj), fun j hj => (n2.tb j (n1.us j hj)).trans (n1.tb j hj)⟩, ?_, d2, i2, k2⟩
    · rw [List.mem_append, not_or] at hb
      rw [n2.other b hb.2, n1.other b hb.1]
    · simp only [repRL]
      exact ⟨u, us', [], [], rfl, rfl, n2.repR r1, r2⟩
end
end Go.T
