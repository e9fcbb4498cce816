/- Lemmas for FnExactAddPairs; no condition. -/

import Derived.Test.YtihgcgccajikpaaTV
set_option linter.unusedVariables false
namespace Go.T
open Go Go.RowKit Go.Proofs

def backR (ρ : List Nat) (ks : List Bool) : List (Nat × Nat) := (ρ.zipIdx.map fun p => (p.2, p.1)).filter fun p => ks[p.1]? == some true
theorem backR_at {ρ : List Nat} {ks : List Bool} {i j : Nat} (h : (backR ρ ks).lookup i = some j) : ρ[i]? = some j ∧ ks[i]? = some true := by
  have hm := lookup_memP h
  simp only [backR, List.mem_filter, List.mem_map] at hm
  obtain ⟨⟨p, hp, e⟩, hk⟩ := hm
  cases e
  exact ⟨List.mem_zipIdx_iff_getElem?.1 hp, by simpa using hk⟩
theorem freshN (l : List Nat) : ∃ κ : Nat, κ ∉ l := by
  have : ∃ κ : Nat, ∀ x ∈ l, x < κ := by
    induction l with
    | nil => exact ⟨0, by simp⟩
    | cons y l ih =>
      obtain ⟨κ, hκ⟩ := ih
      refine ⟨max κ (y + 1), ?_⟩
      intro x hx
      rcases List.mem_cons.1 hx with rfl | hx
      · omega
      · have := hκ x hx; omega
  obtain ⟨κ, hκ⟩ := this
  exact ⟨κ, fun hm => by have := hκ κ hm; omega⟩

open Classical in
theorem opTo_callR {E : Env} {o : Oper} {s : St} {x : Operand} {f : FuncId} {caps : List AV} {args : Array Operand} {tys : Array TypeId} (ho : o.op = .call ⟨.value x, args, tys⟩) (hx : opnd s x = .fn f caps) (hd : okD E.n o.dst = true)
    {ρ : List Nat} {ks : List Bool} {rs rs' : List Root} {outs : List AV} {res : AV} (hn : ρ.Nodup) (hrt : rootsB s ρ rs) (ht : ∀ R ∈ rs, treeLL R.xs = true ∧ noRoLL R.xs = true) (hkl : ks.length = ρ.length) (hsB : sameB rs rs' = true) (hsL : sameL rs rs')
    (hout : outRL s ρ.zipIdx (args.toList.map (opnd s) ++ caps) = some outs) (hm : MeetsR E.P f rs outs ks rs' res)
    (ids : List Nat) (hin : ids.Nodup) (hids : ∀ i ∈ ids, i ∉ s.us) :
    OpTo E o s (((s.back (bkOf ρ ks rs')).addL (rtf (renA (backR ρ ks) res) ids).2.1).putO o.dst (rtf (renA (backR ρ ks) res) ids).1) := by
  rintro a w ⟨χ, hd', h⟩ K Q hk
  obtain ⟨dst, op, type, pos, after, guard⟩ := o
  simp only at ho hd hk
  subst ho
  obtain ⟨hent, hm⟩ := hm
  obtain ⟨hlen, hat⟩ := rootsB_at hrt
  have hlen' := sameB_len hsB
  -- what the roots are
  have hJ : JJ ∉ ρ := by
    intro hj
    obtain ⟨k, hk⟩ := List.mem_iff_getElem?.1 hj
    obtain ⟨R, _, hR⟩ := hat k JJ hk
    rw [h.rj] at hR; cases hR
  have hfp : ∀ i : Nat, ∃ fp : List Nat, ∀ (id : Nat), ρ[i]? = some id → ∀ R, s.root id = some R → RootRep w (free χ w) (· ∈ s.us) (tab s hd') R (hd' id) fp ∧ fp.Nodup ∧ ∀ b ∈ fp, χ b = some id := by
    intro i
    cases hi : ρ[i]? with
    | none => exact ⟨[], fun id hid => by cases hid⟩
    | some id =>
      obtain ⟨R, _, hR⟩ := hat i id hi
      obtain ⟨_, fp, h1, h2, h3⟩ := h.rts id R hR
      refine ⟨fp, ?_⟩
      intro id' hid' R' hR'
      cases hid'
      rw [hR] at hR'; cases hR'
      exact ⟨h1, h2, h3⟩
  let fp : Nat → List Nat := fun i => if ρ[i]? = none then [] else Classical.choose (hfp i)
  have hfp1 : ∀ (i id : Nat), ρ[i]? = some id → ∀ R, s.root id = some R → RootRep w (free χ w) (· ∈ s.us) (tab s hd') R (hd' id) (fp i) ∧ (fp i).Nodup ∧ ∀ b ∈ fp i, χ b = some id := by
    intro i id hi R hR
    have := Classical.choose_spec (hfp i) id hi R hR
    have e : fp i = Classical.choose (hfp i) := by simp only [fp]; rw [if_neg (by rw [hi]; simp)]
    rw [e]; exact this
  have hcol : ∀ (i b : Nat), b ∈ fp i → ∃ id : Nat, ρ[i]? = some id ∧ χ b = some id := by
    intro i b hb
    cases hi : ρ[i]? with
    | none => simp only [fp, hi, if_true] at hb; cases hb
    | some id =>
      obtain ⟨R, _, hR⟩ := hat i id hi
      exact ⟨id, rfl, (hfp1 i id hi R hR).2.2 b hb⟩
  let hdc : Nat → Value := fun i => match ρ[i]? with | some id => hd' id | none => undef
  have hhdc : ∀ (i id : Nat), ρ[i]? = some id → hdc i = hd' id := fun i id hi => by simp only [hdc, hi]
  let S : Nat → Prop := fun b => b < w.heap.size ∧ ∀ i, b ∉ fp i
  have hfree : ∀ b, free χ w b → S b := fun b hb => ⟨hb.2, fun i hm => by
    obtain ⟨id, _, hc⟩ := hcol i b hm
    rw [hb.1] at hc; cases hc⟩
  have htab : ∀ (i id : Nat), ρ[i]? = some id → hdT rs hdc i = tab s hd' id := by
    intro i id hi
    obtain ⟨R, h1, h2⟩ := hat i id hi
    simp only [hdT, h1, Option.map_some, hhdc i id hi, tab, h2]
  have hxr := opnd_rep h x
  rw [hx] at hxr
  simp only [repR] at hxr
  obtain ⟨vs, hxv, hcr⟩ := hxr
  have hargs := outRL_sound (S2 := S) (U := fun i => i < rs.length) (ρ := hdT rs hdc) h hfree (fun i R b hR hπ hc => by
      refine ⟨(h.col b i hc).2, fun k hm => ?_⟩
      obtain ⟨id, hid, hc'⟩ := hcol k b hm
      rw [hc] at hc'; cases hc'
      rw [(zipIdx_lookup hn).2 hid] at hπ; cases hπ) (fun i j hj => by
      have := (zipIdx_lookup hn).1 hj
      have := (List.getElem?_eq_some_iff.1 this).1
      omega) (fun i j hj => htab j i ((zipIdx_lookup hn).1 hj)) _ _ _ _ (repRL_nil_append (opndL_rep h args.toList) hcr) rfl hout
  have hc := hm w S hdc fp _ (fun i R hR => by
      have hi : ∃ id : Nat, ρ[i]? = some id := by
        have := (List.getElem?_eq_some_iff.1 hR).1
        exact ⟨ρ[i]'(by omega), by simp [show i < ρ.length by omega]⟩
      obtain ⟨id, hid⟩ := hi
      obtain ⟨R', h1, h2⟩ := hat i id hid
      rw [hR] at h1; cases h1
      obtain ⟨⟨hz, vs', fp', ho, hr, he⟩, h4, _⟩ := hfp1 i id hid R h2
      obtain ⟨t1, t2⟩ := ht R (List.mem_of_getElem? hR)
      refine ⟨hz, ⟨vs', fp', by rw [hhdc i id hid]; exact ho, repLL_noRo _ _ _ _ (repLL_of_tree _ _ _ hr t1) t2, by rw [hhdc i id hid]; exact he⟩, h4⟩) (fun i hi => by
      have : ρ[i]? = none := by
        rw [List.getElem?_eq_none_iff] at hi ⊢; omega
      simp only [fp, this, if_true]) (fun i j b hi hj => by
      obtain ⟨id, h1, h2⟩ := hcol i b hi
      obtain ⟨id', h3, h4⟩ := hcol j b hj
      rw [h2] at h4; cases h4
      exact nodup_idx hn h1 h3) (fun i b hb hS => hS.2 i hb) (fun b hb => hb.1) hargs
  have hrun : (execOp a.eval ⟨dst, .call ⟨.value x, args, tys⟩, type, pos, after, guard⟩).run E.P w = .ok (.enter f (args.toList.map a.eval ++ vs).toArray) w := by
    have e1 : (args.toList.map a.eval ++ vs).toArray = args.map a.eval ++ vs.toArray := by
      rw [← Array.toList_map]
      apply Array.ext'
      simp
    simp only [execOp, resolve, hxv, invoke, Deferred.ofValue, Sem.run_bind, Sem.run_pure, Result.andThen_ok]
    simp only [Array.empty_append]
    rw [e1]
    exact hent _ w
  unfold Oper.wp
  rw [hrun]
  show Calls E.P f _ w _
  refine hc.mono ?_
  rintro e w' ⟨v, fp', g, rfl, hos, htp, hou, hsz, hfr, hrow, hnon, hsub, hres, hgn, hgs, hdj, hfg⟩
  show K _ _
  obtain ⟨κ, hκ⟩ := freshN (s.us ++ ids ++ [JJ])
  simp only [List.mem_append, List.mem_singleton, not_or] at hκ
  obtain ⟨⟨hκ1, hκ2⟩, hκ3⟩ := hκ
  -- blocks that the call was given stand under the roots' colours
  have hgiven : ∀ b, (∃ i, b ∈ fp i) → ∃ id, id ∈ ρ ∧ χ b = some id := by
    rintro b ⟨i, hi⟩
    obtain ⟨id, h1, h2⟩ := hcol i b hi
    exact ⟨id, List.mem_of_getElem? h1, h2⟩
  let χ1 : Nat → Option Nat := fun b => if hb : ∃ i, b ∈ fp' i then ρ[Classical.choose hb]? else if b ∈ g then some κ else if b < w.heap.size then (if ∃ id, id ∈ ρ ∧ χ b = some id then none else χ b) else none
  have hχ1a : ∀ (i b : Nat), b ∈ fp' i → χ1 b = ρ[i]? := by
    intro i b hb
    have hex : ∃ i, b ∈ fp' i := ⟨i, hb⟩
    simp only [χ1]
    rw [dif_pos hex, hdj _ _ b (Classical.choose_spec hex) hb]
  have hχ1b : ∀ b, b ∈ g → χ1 b = some κ := by
    intro b hb
    simp only [χ1]
    rw [dif_neg (fun ⟨i, hi⟩ => (hfg i b hi).1 hb), if_pos hb]
  have hold : ∀ b, b < w.heap.size → (¬ ∃ id, id ∈ ρ ∧ χ b = some id) → χ1 b = χ b ∧ b ∉ g ∧ w'.heap[b]? = w.heap[b]? := by
    intro b hb hne
    have h1 : ¬ ∃ i, b ∈ fp' i := by
      rintro ⟨i, hi⟩
      rcases hsub i b hi with h2 | h2
      · exact hne (hgiven b h2)
      · omega
    have h2 : b ∉ g := by
      intro hg
      rcases (hgs b hg).1 with h2 | h2
      · exact hne (hgiven b h2)
      · omega
    refine ⟨?_, h2, hfr b hb (fun i hi => hne (hgiven b ⟨i, hi⟩))⟩
    simp only [χ1]
    rw [dif_neg h1, if_neg h2, if_pos hb, if_neg hne]
  have hS : ∀ b, free χ w b → free χ1 w' b := by
    intro b hb
    have := hold b hb.2 (by rintro ⟨id, _, hc⟩; rw [hb.1] at hc; cases hc)
    exact ⟨by rw [this.1]; exact hb.1, by have := hb.2; omega⟩
  have hSh : ∀ b, free χ w b → w'.heap[b]? = w.heap[b]? := fun b hb => (hold b hb.2 (by rintro ⟨id, _, hc⟩; rw [hb.1] at hc; cases hc)).2.2
  let s1 := s.back (bkOf ρ ks rs')
  have hr1 : ∀ i, i ∉ ρ → s1.root i = s.root i := by
    intro i hi
    simp only [s1, back_root, bkOf_none hi, Option.getD_none]
  have hr2 : ∀ (k i : Nat), ρ[k]? = some i → ∃ R', rs'[k]? = some R' ∧ ∃ b, ks[k]? = some b ∧ s1.root i = if b then some R' else none := by
    intro k i hki
    obtain ⟨R', b, e1, e2, e3⟩ := bkOf_at (ks := ks) (rs := rs') hn hkl (by omega) hki
    refine ⟨R', e1, b, e2, ?_⟩
    simp only [s1, back_root, e3, Option.getD_some]
  have htab1 : ∀ i, i ∈ s.us → ∀ y, tab s1 hd' i = some y → tab s hd' i = some y := by
    intro i _ y hy
    by_cases hi : i ∈ ρ
    · obtain ⟨k, hk⟩ := List.mem_iff_getElem?.1 hi
      obtain ⟨R', e1, b, e2, e3⟩ := hr2 k i hk
      obtain ⟨R, e4, e5⟩ := hat k i hk
      simp only [tab, e3] at hy
      cases b
      · simp at hy
      · simp only [if_true, Option.map_some] at hy
        simp only [tab, e5, Option.map_some]
        rw [← hy, sameL_at hsL e4 e1, (sameB_at hsB e4 e1).2]
    · simp only [tab, hr1 i hi] at hy; exact hy
  have hrel : Rel0 E s1 a w' χ1 hd' := by
    refine ⟨h.defers, h.size, hos.trans h.os, h.tape.trans htp, hou.trans h.output, by have := h.hsz; omega, ?_, h.fx, h.jj, ?_, ?_, ?_, ?_, ?_⟩
    · intro k hk1 hk2
      rw [hfr k (by have := h.hsz; omega) ?_, h.frame k hk1 hk2]
      intro i hi
      obtain ⟨id, h1, h2⟩ := hcol i k hi
      rcases (h.col k id h2).1 (fun e => hJ (e ▸ List.mem_of_getElem? h1)) with h3 | h3
      · omega
      · exact hk2 h3
    · rw [hr1 JJ hJ]; exact h.rj
    · intro b hb
      have h1 := h.jk b hb
      rw [(hold b (h.col b _ h1).2 (by rintro ⟨id, hid, hc⟩; rw [h1] at hc; cases hc; exact hJ hid)).1]
      exact h1
    · intro b r hb
      by_cases h1 : ∃ i, b ∈ fp' i
      · obtain ⟨i, hi⟩ := h1
        rw [hχ1a i b hi] at hb
        refine ⟨fun _ => ?_, (hfg i b hi).2⟩
        rcases hsub i b hi with h2 | h2
        · obtain ⟨id, hid, hc⟩ := hgiven b h2
          exact (h.col b id hc).1 (fun e => hJ (e ▸ hid))
        · left; have := h.hsz; omega
      · by_cases h2 : b ∈ g
        · refine ⟨fun _ => ?_, (hgs b h2).2⟩
          rcases (hgs b h2).1 with h3 | h3
          · obtain ⟨id, hid, hc⟩ := hgiven b h3
            exact (h.col b id hc).1 (fun e => hJ (e ▸ hid))
          · left; have := h.hsz; omega
        · simp only [χ1] at hb
          rw [dif_neg h1, if_neg h2] at hb
          split at hb
          · split at hb
            · cases hb
            · have := h.col b r hb
              exact ⟨this.1, by omega⟩
          · cases hb
    · intro i R hR
      by_cases hi : i ∈ ρ
      · obtain ⟨k, hk⟩ := List.mem_iff_getElem?.1 hi
        obtain ⟨R', e1, b, e2, e3⟩ := hr2 k i hk
        obtain ⟨R0, e4, e5⟩ := hat k i hk
        rw [e3] at hR
        cases b
        · simp at hR
        · simp only [if_true, Option.some.injEq] at hR
          subst hR
          obtain ⟨⟨vs2, fp2, ho2, hr2', he2⟩, hn2⟩ := hrow k R' e1 e2
          rw [hhdc k i hk] at ho2 he2
          refine ⟨(h.rts i R0 e5).1, fp' k, ⟨by rw [(sameB_at hsB e4 e1).2]; exact (hfp1 k i hk R0 e5).1.1, vs2, fp2, ho2, repRLL_of _ _ _ (repLL_frame _ _ _ _ hr2' (fun b hb => hb.elim) (fun b hb => hb.elim) (fun _ _ => rfl)), he2⟩, hn2, ?_⟩
          intro b hb
          rw [hχ1a k b hb]; exact hk
      · rw [hr1 i hi] at hR
        obtain ⟨hu, f0, hr, hn0, hc0⟩ := h.rts i R hR
        have hne : ∀ b ∈ f0, ¬ ∃ id, id ∈ ρ ∧ χ b = some id := by
          rintro b hb ⟨id, hid, hc⟩
          rw [hc0 b hb] at hc; cases hc; exact hi hid
        refine ⟨hu, f0, hr.mono hS hSh (fun b hb => (hold b (hr.lt b hb) (hne b hb)).2.2) (fun _ y => y) htab1, hn0, ?_⟩
        intro b hb
        rw [(hold b (hr.lt b hb) (hne b hb)).1]; exact hc0 b hb
    · intro t
      exact repR_mono _ _ _ (h.slots t) hS hSh (by simp) (fun _ y => y) htab1
  have hres1 : repR w' (free χ1 w') (· ∈ s1.us) (tab s1 hd') (renA (backR ρ ks) res) v g := by
    refine renA_sound (S := NS) (fun b hb => hb.elim) (fun i j hij => ?_) (fun i j hij => ?_) _ _ _ hres
    · obtain ⟨h1, _⟩ := backR_at hij
      obtain ⟨R, _, hR⟩ := hat i j h1
      exact (h.rts j R hR).1
    · obtain ⟨h1, h2⟩ := backR_at hij
      obtain ⟨R', e1, b, e2, e3⟩ := hr2 i j h1
      rw [h2] at e2; cases e2
      simp only [tab, e3, if_true, Option.map_some, hdT, e1, hhdc i j h1]
  obtain ⟨χ2, hd2, n2, r2, _, _, _⟩ := rtfR_sound (κ := κ) (renA (backR ρ ks) res) v g ids s1 χ1 hd' hrel hres1 hgn hχ1b (fun b hb => by
      rcases (hgs b hb).1 with h3 | h3
      · obtain ⟨id, hid, hc⟩ := hgiven b h3
        exact (h.col b id hc).1 (fun e => hJ (e ▸ hid))
      · left; have := h.hsz; omega) (fun b hb hj => by
      have h1 := hrel.jk b hj
      rw [hχ1b b hb] at h1; cases h1; exact hκ3 rfl) (fun R i hR e => by
      subst e
      exact hκ1 (hrel.rts i R hR).1) hin (fun i hi => ⟨hids i hi, fun e => hκ2 (e ▸ hi)⟩)
  exact hk _ _ ⟨χ2, hd2, n2.rel.putO hd r2⟩
end Go.T
