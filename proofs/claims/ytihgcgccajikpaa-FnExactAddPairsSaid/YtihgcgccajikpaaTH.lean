/- Lemmas for FnExactAddPairs; no condition. -/

import Derived.Test.YtihgcgccajikpaaTG
import Derived.Laws.MakeOwn
set_option linter.unusedVariables false
namespace Go.T
open Go Go.RowKit

/-- what lay in memory lies as it did; new blocks are coloured at will -/
theorem Rel0.grow {E : Env} {s : St} {a : Act} {w w2 : World} {χ : Nat → Option Nat} {hd : Nat → Value} (h : Rel0 E s a w χ hd) (hb : Below w.heap.size w w2) (hdr : w.drawn ≤ w2.drawn) (cl : Nat → Option Nat) (hcl : ∀ b r, cl b = some r → b < w2.heap.size) :
    Rel0 E s a w2 (fun b => if b < w.heap.size then χ b else cl b) hd := by
  have hS : ∀ b, free χ w b → free (fun b => if b < w.heap.size then χ b else cl b) w2 b := fun b hf => ⟨by simp [hf.2, hf.1], by have := hf.2; have := hb.size; omega⟩
  have hSh : ∀ b, free χ w b → w2.heap[b]? = w.heap[b]? := fun b hf => hb.block b hf.2
  refine ⟨h.defers, h.size, hb.os.trans h.os, h.tape.trans ⟨hb.tape, hdr⟩, hb.output.trans h.output, by have := h.hsz; have := hb.size; omega, fun k h1 h2 => (hb.block k (by have := h.hsz; omega)).trans (h.frame k h1 h2), h.fx, h.jj, h.rj, fun b hb => by
    have h1 := h.jk b hb
    have h2 := (h.col b _ h1).2
    rw [if_pos h2]; exact h1, ?_, ?_, ?_⟩
  · intro b r hr
    split at hr
    · have := h.col b r hr
      have h2 := hb.size
      exact ⟨this.1, by omega⟩
    · rename_i hlt
      exact ⟨fun _ => .inl (by have := h.hsz; omega), hcl b r hr⟩
  · intro i R hR
    obtain ⟨h1, fp, h2, h3, h4⟩ := h.rts i R hR
    exact ⟨h1, fp, h2.mono hS hSh (fun b hbf => hb.block b (h2.lt b hbf)) (fun _ x => x) (fun _ _ _ x => x), h3, fun b hbf => by have := h2.lt b hbf; simp [this, h4 b hbf]⟩
  · intro t
    exact repR_mono _ _ _ (h.slots t) hS hSh (by simp) (fun _ x => x) (fun _ _ _ x => x)

/-- a row of new memory becomes a root -/
theorem Rel0.addRoot {E : Env} {s : St} {a : Act} {w : World} {χ : Nat → Option Nat} {hd : Nat → Value} (h : Rel0 E s a w χ hd) {i : Nat} (hi : i ∉ s.us) {R : Root} {v : Value} {fp : List Nat}
    (hr : RootRep w (free χ w) (· ∈ s.us) (tab s hd) R v fp) (hn : fp.Nodup) (hc : ∀ b ∈ fp, χ b = some i) : Rel0 E (s.add i R) a w χ (fun j => if j = i then v else hd j) := by
  have hU : ∀ j, j ∈ s.us → j ∈ (s.add i R).us := fun j hj => List.mem_cons_of_mem _ hj
  have hρ : ∀ j, j ∈ s.us → ∀ x, tab (s.add i R) (fun j => if j = i then v else hd j) j = some x → tab s hd j = some x := by
    intro j hj x hx
    have hne : j ≠ i := fun e => hi (e ▸ hj)
    simpa [tab, St.root_add_ne s hne, hne] using hx
  refine ⟨h.defers, h.size, h.os, h.tape, h.output, h.hsz, h.frame, fx_add h.fx hi, hU _ h.jj, by rw [St.root_add_ne s (by rintro rfl; exact hi h.jj)]; exact h.rj, h.jk, h.col, ?_, ?_⟩
  · intro j Q hQ
    by_cases hj : j = i
    · subst hj
      rw [St.root_add_same] at hQ
      cases hQ
      refine ⟨List.mem_cons_self, fp, ?_, hn, hc⟩
      simp only [if_true]
      exact hr.mono (fun _ x => x) (fun _ _ => rfl) (fun _ _ => rfl) hU hρ
    · rw [St.root_add_ne s hj] at hQ
      obtain ⟨h1, fq, h2, h3, h4⟩ := h.rts j Q hQ
      refine ⟨List.mem_cons_of_mem _ h1, fq, ?_, h3, h4⟩
      simp only [hj, if_false]
      exact h2.mono (fun _ x => x) (fun _ _ => rfl) (fun _ _ => rfl) hU hρ
  · intro t
    exact repR_mono _ _ _ (h.slots t) (fun _ x => x) (fun _ _ => rfl) (by simp) hU hρ

/-- append: the root i gives its row (or a copy of it) to the new root j -/
theorem Rel0.newRow {E : Env} {s : St} {a : Act} {w w2 : World} {χ : Nat → Option Nat} {hd : Nat → Value} (h : Rel0 E s a w χ hd) {i j : Nat} (hj : j ∉ s.us) {row : Option Nat} (hg : w.grownBy w2 row) (hdr : w.drawn ≤ w2.drawn) (hrow : ∀ k, row = some k → χ k = some i) (hij : i ≠ JJ)
    {R : Root} {v : Value} {vs : List Value} {fn : List Nat} (hz : 0 < R.sz) (hown : w2.ownsRow 0 R.T R.sz v R.xs.length vs) (hrep : repRLL w (free χ w) (· ∈ s.us) (tab s hd) R.sz R.xs vs fn) (hfi : ∀ b ∈ fn, χ b = some i) (hfn : fn.Nodup)
    (hfr : ∀ b ∈ fn, row ≠ some b) (hv : v.ownBlock = row ∨ v.ownBlock = some w.heap.size) :
    ∃ χ', Rel0 E ((s.kill i).add j R) a w2 χ' (fun k => if k = j then v else hd k) := by
  let fp : List Nat := v.ownBlock.toList ++ fn
  let χ' : Nat → Option Nat := fun b => if b ∈ fp then some j else if χ b = some i then none else if b < w.heap.size then χ b else none
  have hvlt : ∀ b, v.ownBlock = some b → b < w2.heap.size := fun b hb => ownsRow_lt hown b (by simp [hb])
  have hfl : ∀ b ∈ fn, b < w.heap.size := fun b hb => (h.col b i (hfi b hb)).2
  have hfree : ∀ b, free χ w b → b ∉ fp := by
    intro b hb hm
    rcases List.mem_append.1 hm with hm | hm
    · have hm : v.ownBlock = some b := by simpa using hm
      rcases hv with hv | hv
      · rw [hm] at hv; have := hrow b hv.symm; rw [hb.1] at this; cases this
      · rw [hm] at hv; cases hv; have := hb.2; omega
    · have := hfi b hm; rw [hb.1] at this; cases this
  have hS : ∀ b, free χ w b → free χ' w2 b := fun b hb => ⟨by simp [χ', hfree b hb, hb.1], by have := hb.2; have := hg.size; omega⟩
  have hSh : ∀ b, free χ w b → w2.heap[b]? = w.heap[b]? := fun b hb => hg.block b hb.2 (fun e => by have := hrow b e.symm; rw [hb.1] at this; cases this)
  have hU : ∀ k, k ∈ s.us → k ∈ ((s.kill i).add j R).us := fun k hk => List.mem_cons_of_mem _ hk
  have hρ : ∀ k, k ∈ s.us → ∀ x, tab ((s.kill i).add j R) (fun k => if k = j then v else hd k) k = some x → tab s hd k = some x := by
    intro k hk x hx
    have hne : k ≠ j := fun e => hj (e ▸ hk)
    by_cases hki : k = i
    · subst hki
      simp [tab, St.root_add_ne _ hne, St.root_kill_same] at hx
    · simpa [tab, St.root_add_ne _ hne, St.root_kill_ne s hki, hne] using hx
  refine ⟨χ', ⟨h.defers, h.size, hg.os.trans h.os, h.tape.trans ⟨hg.tape, hdr⟩, hg.output.trans h.output, by have := h.hsz; have := hg.size; omega, ?_, fx_add h.fx hj, hU _ h.jj, by
    rw [St.root_add_ne _ (by rintro rfl; exact hj h.jj), St.root_kill_ne s (Ne.symm hij)]; exact h.rj, fun b hb => by
    have h1 := h.jk b hb
    have h2 := (h.col b _ h1).2
    have hne : χ b ≠ some i := by rw [h1]; exact fun e => hij (by cases e; rfl)
    have hnf : b ∉ fp := by
      intro hm
      rcases List.mem_append.1 hm with hm | hm
      · have hm : v.ownBlock = some b := by simpa using hm
        rcases hv with hv | hv
        · rw [hm] at hv; exact hne (hrow b hv.symm)
        · rw [hm] at hv; cases hv; omega
      · exact hne (hfi b hm)
    show (if b ∈ fp then _ else _) = _
    rw [if_neg hnf, if_neg hne, if_pos h2]; exact h1, ?_, ?_, ?_⟩⟩
  · intro k h1 h2
    refine (hg.block k (by have := h.hsz; omega) (fun e => ?_)).trans (h.frame k h1 h2)
    rcases (h.col k i (hrow k e.symm)).1 hij with hh | hh
    · omega
    · exact h2 hh
  · intro b r hr
    simp only [χ'] at hr
    split at hr
    · rename_i hm
      rcases List.mem_append.1 hm with hm | hm
      · have hm : v.ownBlock = some b := by simpa using hm
        refine ⟨?_, hvlt b hm⟩
        rcases hv with hv | hv
        · rw [hm] at hv; exact fun _ => (h.col b i (hrow b hv.symm)).1 hij
        · rw [hm] at hv; cases hv; exact fun _ => .inl h.hsz
      · have := h.col b i (hfi b hm)
        exact ⟨fun _ => this.1 hij, by have := this.2; have := hg.size; omega⟩
    · split at hr
      · cases hr
      · split at hr
        · have := h.col b r hr
          exact ⟨this.1, by have := this.2; have := hg.size; omega⟩
        · cases hr
  · intro k Q hQ
    by_cases hk : k = j
    · subst hk
      rw [St.root_add_same] at hQ
      cases hQ
      refine ⟨List.mem_cons_self, fp, ?_, ?_, ?_⟩
      · simp only [if_true]
        refine ⟨hz, vs, fn, hown, repRLL_mono hS hSh hU hρ _ _ _ hrep (fun b hb => hg.block b (hfl b hb) (fun e => hfr b hb e.symm)), rfl⟩
      · simp only [fp]
        rw [List.nodup_append]
        refine ⟨by cases v.ownBlock <;> simp, hfn, ?_⟩
        intro b hb b' hb' e
        subst e
        have hm : v.ownBlock = some b := by simpa using hb
        rcases hv with hv | hv
        · rw [hm] at hv; exact hfr b hb' hv.symm
        · rw [hm] at hv; cases hv; have := hfl _ hb'; omega
      · intro b hb
        simp [χ', hb]
    · rw [St.root_add_ne _ hk] at hQ
      by_cases hki : k = i
      · subst hki; rw [St.root_kill_same] at hQ; cases hQ
      rw [St.root_kill_ne s hki] at hQ
      obtain ⟨h1, fq, h2, h3, h4⟩ := h.rts k Q hQ
      have hne : ∀ b ∈ fq, b ∉ fp := by
        intro b hb hm
        have hbk := h4 b hb
        rcases List.mem_append.1 hm with hm | hm
        · have hm : v.ownBlock = some b := by simpa using hm
          rcases hv with hv | hv
          · rw [hm] at hv; have := hrow b hv.symm; rw [hbk] at this; cases this; exact hki rfl
          · rw [hm] at hv; cases hv; have := h2.lt _ hb; omega
        · have := hfi b hm; rw [hbk] at this; cases this; exact hki rfl
      refine ⟨List.mem_cons_of_mem _ h1, fq, ?_, h3, fun b hb => ?_⟩
      · simp only [hk, if_false]
        exact h2.mono hS hSh (fun b hb => hg.block b (h2.lt b hb) (fun e => by have := hrow b e.symm; rw [h4 b hb] at this; cases this; exact hki rfl)) hU hρ
      · simp [χ', hne b hb, h4 b hb, hki, h2.lt b hb]
  · intro t
    exact repR_mono _ _ _ (h.slots t) hS hSh (by simp) hU hρ

/- ------------------------------------------------ trees: no references inside -/
mutual
def tree : AV → Bool
  | .sl _ _ _ | .ptr _ _ _ => false
  | .agg cs => treeL cs
  | .tup cs => treeL cs
  | .fn _ cs => treeL cs
  | _ => true
def treeL : List AV → Bool
  | [] => true
  | c :: cs => tree c && treeL cs
end
def treeLL (xs : List (List AV)) : Bool := xs.all treeL
mutual
theorem rep_of_tree {w : World} {S U : Nat → Prop} {ρ : Tab} : ∀ (a : AV) (u : Value) (fp : List Nat), repR w S U ρ a u fp → tree a = true → rep w S a u fp
  | .sl _ _ _, _, _, _, ht => by simp [tree] at ht
  | .ptr _ _ _, _, _, _, ht => by simp [tree] at ht
  | .agg cs, u, fp, h, ht => by
    simp only [tree] at ht; simp only [repR] at h; simp only [rep]
    obtain ⟨vs, hu, hr⟩ := h
    exact ⟨vs, hu, repL_of_tree cs vs fp hr ht⟩
  | .tup cs, u, fp, h, ht => by
    simp only [tree] at ht; simp only [repR] at h; simp only [rep]
    obtain ⟨vs, hu, hr⟩ := h
    exact ⟨vs, hu, repL_of_tree cs vs fp hr ht⟩
  | .fn g cs, u, fp, h, ht => by
    simp only [tree] at ht; simp only [repR] at h; simp only [rep]
    obtain ⟨vs, hu, hr⟩ := h
    exact ⟨vs, hu, repL_of_tree cs vs fp hr ht⟩
  | .dead, u, fp, h, _ => by simpa only [repR] using h
  | .lit _, u, fp, h, _ => by simpa only [repR] using h
  | .ro _ _, u, fp, h, _ => by simpa only [repR] using h
  | .own _ _ _, u, fp, h, _ => by simpa only [repR] using h
  | .rop _ _, u, fp, h, _ => by simpa only [repR] using h
theorem repL_of_tree {w : World} {S U : Nat → Prop} {ρ : Tab} : ∀ (cs : List AV) (vs : List Value) (fp : List Nat), repRL w S U ρ cs vs fp → treeL cs = true → repL w S cs vs fp
  | [], _, _, h, _ => by simpa only [repL, repRL] using h
  | c :: cs, vs, fp, h, ht => by
    simp only [treeL, Bool.and_eq_true] at ht
    simp only [repRL] at h; simp only [repL]
    obtain ⟨u, us, f1, f2, hv, hf, h1, h2⟩ := h
    exact ⟨u, us, f1, f2, hv, hf, rep_of_tree c u f1 h1 ht.1, repL_of_tree cs us f2 h2 ht.2⟩
end
theorem repLL_of_tree {w : World} {S U : Nat → Prop} {ρ : Tab} {sz : Nat} : ∀ (xs : List (List AV)) (vs : List Value) (fp : List Nat), repRLL w S U ρ sz xs vs fp → treeLL xs = true → repLL w S sz xs vs fp
  | [], _, _, h, _ => by simpa only [repLL, repRLL] using h
  | x :: xs, vs, fp, h, ht => by
    simp only [treeLL, List.all_cons, Bool.and_eq_true] at ht
    simp only [repRLL] at h; simp only [repLL]
    obtain ⟨us, us', f1, f2, hv, hf, hl, h1c, h1, h2⟩ := h
    exact ⟨us, us', f1, f2, hv, hf, hl, h1c, repL_of_tree x us f1 h1 ht.1, repLL_of_tree xs us' f2 h2 ht.2⟩

theorem ownsRow_hd {w : World} {e size n : Nat} {v : Value} {xs : List Value} (h : w.ownsRow 0 e size v n xs) : ∃ A cap, v = .slice A n cap ∧ n ≤ cap ∧ (0 < n → ∃ b, A = some ⟨b, 0, none⟩) ∧ (v.ownBlock = none → n = 0) := by
  rcases h.2 with ⟨rfl, rfl⟩ | ⟨g, cap, cur, rfl, _, _, hnc, _⟩
  · exact ⟨none, 0, rfl, Nat.le_refl _, fun h => absurd h (Nat.lt_irrefl 0), fun _ => rfl⟩
  · exact ⟨_, cap, rfl, hnc, fun _ => ⟨g, rfl⟩, fun h => by simp [Value.ownBlock] at h⟩
theorem subHd_self {w : World} {e size n : Nat} {v : Value} {xs : List Value} (h : w.ownsRow 0 e size v n xs) : SubHd v size 0 n v := by
  obtain ⟨A, cap, rfl, hc, hA, _⟩ := ownsRow_hd h
  refine ⟨A, cap, rfl, hc, fun _ => ⟨n, rfl⟩, fun hp => ?_⟩
  obtain ⟨b, rfl⟩ := hA hp
  exact ⟨b, n, cap, rfl, by simp⟩
theorem ownsRow_cap {w : World} {e size n : Nat} {v : Value} {xs : List Value} (h : w.ownsRow 0 e size v n xs) : n ≤ 0 + sCap v := by
  rcases h.2 with ⟨rfl, h1⟩ | ⟨g, cap, cur, rfl, _, _, h1, _⟩
  · omega
  · show n ≤ 0 + cap; omega
theorem subHd_eq {w : World} {e size n sz' : Nat} {v u : Value} {xs : List Value} (h : w.ownsRow 0 e size v n xs) (hs : SubHd v sz' 0 n u) : u = v := by
  obtain ⟨A, cap, rfl, hc, hA, _⟩ := ownsRow_hd h
  obtain ⟨A', cap', rfl, _, h0, _⟩ := hs
  obtain ⟨m, hm⟩ := h0 rfl
  simp only [Value.slice.injEq] at hm
  obtain ⟨rfl, _, rfl⟩ := hm
  rfl

/-- a cell's own row gets a name -/
theorem Rel0.unpack {E : Env} {s : St} {a : Act} {w : World} {χ : Nat → Option Nat} {hd : Nat → Value} (h : Rel0 E s a w χ hd) {i j : Nat} (hj : j ∉ s.us) {R : Root} (hR : s.root i = some R) {e o T sz : Nat} {x : List AV} {ys : List (List AV)} (he : R.xs[e]? = some x) (ho : x[o]? = some (.own T sz ys)) (hz : 0 < sz) :
    Rel E ((s.setR i ⟨R.T, R.sz, R.xs.set e (x.set o (.sl j 0 ys.length))⟩).add j ⟨T, sz, ys⟩) a w := by
  obtain ⟨hus, fp, ⟨hz0, vs, fp', hown, hrep, rfl⟩, hnd, hcol⟩ := h.rts i R hR
  have helt : e < R.xs.length := (List.getElem?_eq_some_iff.1 he).1
  have holt : o < x.length := (List.getElem?_eq_some_iff.1 ho).1
  have hji : j ≠ i := fun e => hj (e ▸ hus)
  have hij : i ≠ JJ := fun e => by rw [e, h.rj] at hR; cases hR
  obtain ⟨v1, us, v2, f1, fe, f2, rfl, rfl, hl1, hlus, h1c, k1, kx, k2⟩ := repRLL_at hrep he
  obtain ⟨x1, u0, x2, g1, gc, g2, rfl, rfl, hlx, m1, mc, m2⟩ := repRL_at kx ho
  simp only [repR, rep] at mc
  obtain ⟨ws, fq, hown2, hrep2, rfl⟩ := mc
  let fc := u0.ownBlock.toList ++ fq
  let fi := (hd i).ownBlock.toList ++ (f1 ++ (g1 ++ g2) ++ f2)
  have hfc : ∀ b ∈ fc, χ b = some i := fun b hb => hcol b (by simp only [List.mem_append] at hb ⊢; exact .inr (.inl (.inr (.inl (.inr (by simpa [fc] using hb))))))
  have hfi : ∀ b ∈ fi, χ b = some i ∧ b ∉ fc := by
    have hh : ((hd i).ownBlock.toList ++ (f1 ++ (g1 ++ fc ++ g2) ++ f2)).Nodup := hnd
    intro b hb
    constructor
    · refine hcol b ?_
      simp only [fi, List.mem_append] at hb ⊢
      rcases hb with hb | (hb | hb | hb) | hb
      · exact .inl hb
      · exact .inr (.inl (.inl hb))
      · exact .inr (.inl (.inr (.inl (.inl hb))))
      · exact .inr (.inl (.inr (.inr hb)))
      · exact .inr (.inr hb)
    · intro hc
      have hp : List.Perm ((hd i).ownBlock.toList ++ (f1 ++ (g1 ++ fc ++ g2) ++ f2)) (fi ++ fc) := by
        simp only [fi, List.append_assoc]
        refine List.Perm.append_left _ (List.Perm.append_left _ (List.Perm.append_left _ ?_))
        rw [← List.append_assoc g2]
        exact List.perm_append_comm
      have := (hp.nodup_iff).1 hh
      rw [List.nodup_append] at this
      exact this.2.2 b hb b hc rfl
  have hfin : fi.Nodup ∧ fc.Nodup := by
    have hp : List.Perm ((hd i).ownBlock.toList ++ (f1 ++ (g1 ++ fc ++ g2) ++ f2)) (fi ++ fc) := by
      simp only [fi, List.append_assoc]
      refine List.Perm.append_left _ (List.Perm.append_left _ (List.Perm.append_left _ ?_))
      rw [← List.append_assoc g2]
      exact List.perm_append_comm
    have := (hp.nodup_iff).1 hnd
    rw [List.nodup_append] at this
    exact ⟨this.1, this.2.1⟩
  let χ' : Nat → Option Nat := fun b => if b ∈ fc then some j else χ b
  let hd' : Nat → Value := fun k => if k = j then u0 else hd k
  let s' := (s.setR i ⟨R.T, R.sz, R.xs.set e (x.set o (.sl j 0 ys.length))⟩).add j ⟨T, sz, ys⟩
  have hS : ∀ b, free χ w b → free χ' w b := fun b hb => ⟨by
    have : b ∉ fc := fun hc => by have := hfc b hc; rw [hb.1] at this; cases this
    simp [χ', this, hb.1], hb.2⟩
  have hU : ∀ k, k ∈ s.us → k ∈ s'.us := fun k hk => List.mem_cons_of_mem _ hk
  have hρ : ∀ k, k ∈ s.us → ∀ x, tab s' hd' k = some x → tab s hd k = some x := by
    intro k hk x hx
    have hne : k ≠ j := fun e => hj (e ▸ hk)
    by_cases hki : k = i
    · subst hki
      simpa [tab, s', hd', St.root_add_ne _ hne, St.root_setR_same, hne, hR] using hx
    · simpa [tab, s', hd', St.root_add_ne _ hne, St.root_setR_ne s hki, hne] using hx
  refine ⟨χ', hd', ⟨h.defers, h.size, h.os, h.tape, h.output, h.hsz, h.frame, fx_add h.fx hj, hU _ h.jj, by
    rw [St.root_add_ne _ (by rintro rfl; exact hj h.jj), St.root_setR_ne s (Ne.symm hij)]; exact h.rj, fun b hb => by
    have h1 := h.jk b hb
    show (if b ∈ fc then _ else _) = _
    rw [if_neg (fun hm => by have h2 := hfc b hm; rw [h1] at h2; exact hij (by cases h2; rfl))]; exact h1, ?_, ?_, ?_⟩⟩
  · intro b r hr
    simp only [χ'] at hr
    split at hr
    · rename_i hm; exact ⟨fun _ => (h.col b i (hfc b hm)).1 hij, (h.col b i (hfc b hm)).2⟩
    · exact h.col b r hr
  · intro k Q hQ
    by_cases hk : k = j
    · subst hk
      rw [St.root_add_same] at hQ
      cases hQ
      refine ⟨List.mem_cons_self, fc, ⟨hz, ws, fq, by simpa [hd'] using hown2, ?_, by simp [fc, hd']⟩, hfin.2, fun b hb => by simp [χ', hb]⟩
      exact repRLL_of _ _ _ (repLL_frame sz _ _ _ hrep2 hS (fun _ _ => rfl) (fun _ _ => rfl))
    · rw [St.root_add_ne _ hk] at hQ
      by_cases hki : k = i
      · subst hki
        rw [St.root_setR_same] at hQ
        cases hQ
        refine ⟨hU _ hus, fi, ⟨hz0, v1 ++ (x1 ++ u0 :: x2) ++ v2, f1 ++ (g1 ++ g2) ++ f2, by simpa [hd', hk] using hown, ?_, by simp [fi, hd', hk]⟩, hfin.1, fun b hb => by simp [χ', (hfi b hb).1, (hfi b hb).2]⟩
        have hc : repR w (free χ' w) (· ∈ s'.us) (tab s' hd') (.sl j 0 ys.length) u0 [] := by
          simp only [repR]
          refine ⟨trivial, List.mem_cons_self, ?_⟩
          intro h' n' sz' hh'
          simp [tab, s', hd', St.root_add_same] at hh'
          obtain ⟨rfl, rfl, rfl⟩ := hh'
          exact ⟨by omega, subHd_self hown2, ownsRow_cap hown2⟩
        have m1' := repRL_mono (w2 := w) (S2 := free χ' w) (U2 := (· ∈ s'.us)) (ρ2 := tab s' hd') _ _ _ m1 hS (fun _ _ => rfl) (fun _ _ => rfl) hU hρ
        have m2' := repRL_mono (w2 := w) (S2 := free χ' w) (U2 := (· ∈ s'.us)) (ρ2 := tab s' hd') _ _ _ m2 hS (fun _ _ => rfl) (fun _ _ => rfl) hU hρ
        have k1' := repRLL_mono (w2 := w) (S2 := free χ' w) (U2 := (· ∈ s'.us)) (ρ2 := tab s' hd') hS (fun _ _ => rfl) hU hρ _ _ _ k1 (fun _ _ => rfl)
        have k2' := repRLL_mono (w2 := w) (S2 := free χ' w) (U2 := (· ∈ s'.us)) (ρ2 := tab s' hd') hS (fun _ _ => rfl) hU hρ _ _ _ k2 (fun _ _ => rfl)
        have hrow := repRL_set holt m1' hc m2'
        rw [show g1 ++ [] ++ g2 = g1 ++ g2 by simp] at hrow
        exact repRLL_set helt k1' hlus h1c hrow k2'
      · rw [St.root_setR_ne s hki] at hQ
        obtain ⟨q1, fr, q2, q3, q4⟩ := h.rts k Q hQ
        refine ⟨hU _ q1, fr, ?_, q3, fun b hb => ?_⟩
        · simp only [hd', hk, if_false]
          exact q2.mono hS (fun _ _ => rfl) (fun _ _ => rfl) hU hρ
        · have : b ∉ fc := fun hc => by have h1 := hfc b hc; rw [q4 b hb] at h1; cases h1; exact hki rfl
          simp [χ', this, q4 b hb]
  · intro t
    exact repR_mono _ _ _ (h.slots t) hS (fun _ _ => rfl) (by simp) hU hρ

/-- and goes back into the cell -/
theorem Rel0.pack {E : Env} {s : St} {a : Act} {w : World} {χ : Nat → Option Nat} {hd : Nat → Value} (h : Rel0 E s a w χ hd) {i j : Nat} (hij : j ≠ i) {R Y : Root} (hR : s.root i = some R) (hY : s.root j = some Y) {e o : Nat} {x : List AV} (he : R.xs[e]? = some x) (ho : x[o]? = some (.sl j 0 Y.xs.length)) (ht : treeLL Y.xs = true) :
    Rel E ((s.setR i ⟨R.T, R.sz, R.xs.set e (x.set o (.own Y.T Y.sz Y.xs))⟩).kill j) a w := by
  obtain ⟨hus, fp, ⟨hz0, vs, fp', hown, hrep, rfl⟩, hnd, hcol⟩ := h.rts i R hR
  obtain ⟨hus2, fc, ⟨hz, ws, fq, hown2, hrep2, rfl⟩, hnd2, hcol2⟩ := h.rts j Y hY
  have hiJ : i ≠ JJ := fun e => by rw [e, h.rj] at hR; cases hR
  have hjJ : j ≠ JJ := fun e => by rw [e, h.rj] at hY; cases hY
  have helt : e < R.xs.length := (List.getElem?_eq_some_iff.1 he).1
  have holt : o < x.length := (List.getElem?_eq_some_iff.1 ho).1
  obtain ⟨v1, us, v2, f1, fe, f2, rfl, rfl, hl1, hlus, h1c, k1, kx, k2⟩ := repRLL_at hrep he
  obtain ⟨x1, u0, x2, g1, gc, g2, rfl, rfl, hlx, m1, mc, m2⟩ := repRL_at kx ho
  simp only [repR] at mc
  obtain ⟨rfl, _, mc⟩ := mc
  have hu0 : u0 = hd j := subHd_eq hown2 (mc (hd j) Y.xs.length Y.sz (by simp [tab, hY])).2.1
  subst hu0
  let fc := (hd j).ownBlock.toList ++ fq
  let fi := (hd i).ownBlock.toList ++ (f1 ++ (g1 ++ fc ++ g2) ++ f2)
  have hold : ((hd i).ownBlock.toList ++ (f1 ++ (g1 ++ g2) ++ f2)).Nodup := by simpa using hnd
  have hcol' : ∀ b ∈ (hd i).ownBlock.toList ++ (f1 ++ (g1 ++ g2) ++ f2), χ b = some i := by simpa using hcol
  have hp : List.Perm fi (((hd i).ownBlock.toList ++ (f1 ++ (g1 ++ g2) ++ f2)) ++ fc) := by
    simp only [fi, List.append_assoc]
    refine List.Perm.append_left _ (List.Perm.append_left _ (List.Perm.append_left _ ?_))
    rw [← List.append_assoc g2]
    exact List.perm_append_comm
  let χ' : Nat → Option Nat := fun b => if χ b = some j then some i else χ b
  let s' := (s.setR i ⟨R.T, R.sz, R.xs.set e (x.set o (.own Y.T Y.sz Y.xs))⟩).kill j
  have hS : ∀ b, free χ w b → free χ' w b := fun b hb => ⟨by simp [χ', hb.1], hb.2⟩
  have hρ : ∀ k, k ∈ s.us → ∀ x, tab s' hd k = some x → tab s hd k = some x := by
    intro k hk x hx
    by_cases hkj : k = j
    · subst hkj; simp [tab, s', St.root_kill_same] at hx
    · by_cases hki : k = i
      · subst hki
        simpa [tab, s', St.root_kill_ne _ hkj, St.root_setR_same, hR] using hx
      · simpa [tab, s', St.root_kill_ne _ hkj, St.root_setR_ne s hki] using hx
  refine ⟨χ', hd, ⟨h.defers, h.size, h.os, h.tape, h.output, h.hsz, h.frame, h.fx, h.jj, by
    rw [St.root_kill_ne _ (Ne.symm hjJ), St.root_setR_ne s (Ne.symm hiJ)]; exact h.rj, fun b hb => by
    have h1 := h.jk b hb
    show (if χ b = some j then _ else _) = _
    rw [if_neg (by rw [h1]; exact fun e => hjJ (by cases e; rfl))]; exact h1, ?_, ?_, ?_⟩⟩
  · intro b r hr
    simp only [χ'] at hr
    split at hr
    · rename_i hm; exact ⟨fun _ => (h.col b j hm).1 hjJ, (h.col b j hm).2⟩
    · exact h.col b r hr
  · intro k Q hQ
    by_cases hkj : k = j
    · subst hkj; rw [St.root_kill_same] at hQ; cases hQ
    rw [St.root_kill_ne _ hkj] at hQ
    by_cases hki : k = i
    · subst hki
      rw [St.root_setR_same] at hQ
      cases hQ
      refine ⟨hus, fi, ⟨hz0, v1 ++ (x1 ++ hd j :: x2) ++ v2, f1 ++ (g1 ++ fc ++ g2) ++ f2, by simpa using hown, ?_, rfl⟩, ?_, ?_⟩
      · have hc : repR w (free χ' w) (· ∈ s'.us) (tab s' hd) (.own Y.T Y.sz Y.xs) (hd j) fc := by
          simp only [repR, rep]
          exact ⟨ws, fq, hown2, repLL_frame _ _ _ _ (repLL_of_tree _ _ _ hrep2 ht) hS (fun _ _ => rfl) (fun _ _ => rfl), rfl⟩
        have m1' := repRL_mono (w2 := w) (S2 := free χ' w) (U2 := (· ∈ s'.us)) (ρ2 := tab s' hd) _ _ _ m1 hS (fun _ _ => rfl) (fun _ _ => rfl) (fun _ y => y) hρ
        have m2' := repRL_mono (w2 := w) (S2 := free χ' w) (U2 := (· ∈ s'.us)) (ρ2 := tab s' hd) _ _ _ m2 hS (fun _ _ => rfl) (fun _ _ => rfl) (fun _ y => y) hρ
        have k1' := repRLL_mono (w2 := w) (S2 := free χ' w) (U2 := (· ∈ s'.us)) (ρ2 := tab s' hd) hS (fun _ _ => rfl) (fun _ y => y) hρ _ _ _ k1 (fun _ _ => rfl)
        have k2' := repRLL_mono (w2 := w) (S2 := free χ' w) (U2 := (· ∈ s'.us)) (ρ2 := tab s' hd) hS (fun _ _ => rfl) (fun _ y => y) hρ _ _ _ k2 (fun _ _ => rfl)
        exact repRLL_set helt k1' hlus h1c (repRL_set holt m1' hc m2') k2'
      · rw [hp.nodup_iff, List.nodup_append]
        refine ⟨hold, hnd2, ?_⟩
        intro b hb b' hb' e
        subst e
        have h1 := hcol' b hb
        rw [hcol2 b hb'] at h1
        cases h1; exact hij rfl
      · intro b hb
        rcases List.mem_append.1 ((hp.mem_iff).1 hb) with hb | hb
        · have h1 := hcol' b hb
          simp [χ', h1]
        · simp [χ', hcol2 b hb]
    · rw [St.root_setR_ne s hki] at hQ
      obtain ⟨q1, fr, q2, q3, q4⟩ := h.rts k Q hQ
      refine ⟨q1, fr, q2.mono hS (fun _ _ => rfl) (fun _ _ => rfl) (fun _ y => y) hρ, q3, fun b hb => ?_⟩
      have h1 := q4 b hb
      simp [χ', h1, hkj]
  · intro t
    exact repR_mono _ _ _ (h.slots t) hS (fun _ _ => rfl) (by simp) (fun _ y => y) hρ
end Go.T
