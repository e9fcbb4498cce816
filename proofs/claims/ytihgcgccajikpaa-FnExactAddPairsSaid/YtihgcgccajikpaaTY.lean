/- Lemmas for FnExactAddPairs; no condition. -/

import Derived.Test.YtihgcgccajikpaaTK
import Derived.Laws.CopyRow
set_option linter.unusedVariables false
namespace Go.T
open Go Go.RowKit Go.Proofs

/- ------------------------------------------------ rows of plain values, written as a whole -/
def isLit : AV → Bool
  | .lit v => v.oneCell' && nf v
  | _ => false
def unl : AV → Value
  | .lit v => v
  | _ => undef
def litR (xs : List (List AV)) : Bool := xs.all fun r => r.all isLit
def valR (xs : List (List AV)) : List Value := (xs.map fun r => r.map unl).flatten
theorem repRL_val {w : World} {S U : Nat → Prop} {ρ : Tab} : ∀ (x : List AV) (us : List Value) (f : List Nat), x.all isLit = true → repRL w S U ρ x us f → us = x.map unl ∧ f = []
  | [], us, f, _, h => by simp only [repRL] at h; exact ⟨h.1, h.2⟩
  | c :: x, us, f, hl, h => by
    simp only [List.all_cons, Bool.and_eq_true] at hl
    simp only [repRL] at h
    obtain ⟨u, us', f1, f2, rfl, rfl, h1, h2⟩ := h
    obtain ⟨e1, e2⟩ := repRL_val x us' f2 hl.2 h2
    cases c with
    | lit v =>
      simp only [repR, rep] at h1
      simp only [isLit, Bool.and_eq_true] at hl
      exact ⟨by rw [e1, h1.2.eq hl.1.2]; rfl, by rw [h1.1, e2]; rfl⟩
    | _ => simp [isLit] at hl
theorem repRLL_val {w : World} {S U : Nat → Prop} {ρ : Tab} {sz : Nat} : ∀ (xs : List (List AV)) (vs : List Value) (f : List Nat), litR xs = true → repRLL w S U ρ sz xs vs f → vs = valR xs ∧ f = [] ∧ ∀ r ∈ xs, r.length = sz
  | [], vs, f, _, h => by simp only [repRLL] at h; exact ⟨h.1, h.2, by simp⟩
  | x :: xs, vs, f, hl, h => by
    simp only [litR, List.all_cons, Bool.and_eq_true] at hl
    simp only [repRLL] at h
    obtain ⟨us, us', f1, f2, rfl, rfl, h1, _, h2, h3⟩ := h
    obtain ⟨e1, e2⟩ := repRL_val x us f1 hl.1 h2
    obtain ⟨e3, e4, e5⟩ := repRLL_val xs us' f2 hl.2 h3
    refine ⟨by rw [e1, e3]; rfl, by rw [e2, e4]; rfl, fun r hr => ?_⟩
    rcases List.mem_cons.1 hr with rfl | hr
    · rw [← h1, e1, List.length_map]
    · exact e5 r hr
theorem repRL_lit {w : World} {S U : Nat → Prop} {ρ : Tab} : ∀ (x : List AV), x.all isLit = true → repRL w S U ρ x (x.map unl) []
  | [], _ => by simp [repRL]
  | c :: x, hl => by
    simp only [List.all_cons, Bool.and_eq_true] at hl
    simp only [List.map_cons, repRL]
    refine ⟨_, _, [], [], rfl, rfl, ?_, repRL_lit x hl.2⟩
    cases c with
    | lit v => simp only [repR, rep]; exact ⟨trivial, VEq.refl v⟩
    | _ => simp [isLit] at hl
theorem lit_cell {x : List AV} (hl : x.all isLit = true) : ∀ u ∈ x.map unl, u.oneCell' = true := by
  intro u hu
  obtain ⟨c, hc, rfl⟩ := List.mem_map.1 hu
  have := List.all_eq_true.1 hl c hc
  cases c with
  | lit v => simp only [isLit, Bool.and_eq_true] at this; exact this.1
  | _ => simp [isLit] at this
theorem repRLL_lit {w : World} {S U : Nat → Prop} {ρ : Tab} {sz : Nat} : ∀ (xs : List (List AV)), litR xs = true → (∀ r ∈ xs, r.length = sz) → repRLL w S U ρ sz xs (valR xs) []
  | [], _, _ => by simp [repRLL, valR]
  | x :: xs, hl, hn => by
    simp only [litR, List.all_cons, Bool.and_eq_true] at hl
    have e : valR (x :: xs) = x.map unl ++ valR xs := rfl
    rw [e]
    simp only [repRLL]
    exact ⟨_, _, [], [], rfl, rfl, by rw [List.length_map]; exact hn x List.mem_cons_self, lit_cell hl.1, repRL_lit x hl.1, repRLL_lit xs hl.2 (fun r hr => hn r (List.mem_cons_of_mem _ hr))⟩
theorem valR_len {sz : Nat} : ∀ (xs : List (List AV)), (∀ r ∈ xs, r.length = sz) → (valR xs).length = xs.length * sz
  | [], _ => by simp [valR]
  | x :: xs, hn => by
    have e : valR (x :: xs) = x.map unl ++ valR xs := rfl
    rw [e, List.length_append, valR_len xs (fun r hr => hn r (List.mem_cons_of_mem _ hr)), List.length_map, hn x List.mem_cons_self, List.length_cons, Nat.add_mul, Nat.one_mul, Nat.add_comm]
theorem valR_app (xs ys : List (List AV)) : valR (xs ++ ys) = valR xs ++ valR ys := by simp [valR]
theorem valR_cell {xs : List (List AV)} (hl : litR xs = true) : ∀ u ∈ valR xs, u.oneCell' = true := by
  intro u hu
  simp only [valR, List.mem_flatten, List.mem_map] at hu
  obtain ⟨l, ⟨r, hr, rfl⟩, hu⟩ := hu
  exact lit_cell (List.all_eq_true.1 hl r hr) u hu
theorem valR_take {sz : Nat} {xs : List (List AV)} (hn : ∀ r ∈ xs, r.length = sz) (k : Nat) (hk : k ≤ xs.length) : (valR xs).take (k * sz) = valR (xs.take k) := by
  have h1 : xs = xs.take k ++ xs.drop k := (List.take_append_drop k xs).symm
  have h2 : (valR (xs.take k)).length = k * sz := by
    rw [valR_len _ (fun r hr => hn r (List.mem_of_mem_take hr)), List.length_take, Nat.min_eq_left hk]
  conv => lhs; rw [h1, valR_app]
  rw [List.take_append_of_le_length (by omega), List.take_of_length_le (by omega)]
theorem valR_drop {sz : Nat} {xs : List (List AV)} (hn : ∀ r ∈ xs, r.length = sz) (k : Nat) (hk : k ≤ xs.length) : (valR xs).drop (k * sz) = valR (xs.drop k) := by
  have h1 : xs = xs.take k ++ xs.drop k := (List.take_append_drop k xs).symm
  have h2 : (valR (xs.take k)).length = k * sz := by
    rw [valR_len _ (fun r hr => hn r (List.mem_of_mem_take hr)), List.length_take, Nat.min_eq_left hk]
  conv => lhs; rw [h1, valR_app]
  rw [List.drop_append_of_le_length (by omega), List.drop_of_length_le (by omega), List.nil_append]
theorem litR_app {xs ys : List (List AV)} : litR (xs ++ ys) = (litR xs && litR ys) := by simp [litR]
theorem litR_sub {xs ys : List (List AV)} (h : litR xs = true) (hs : ∀ r ∈ ys, r ∈ xs) : litR ys = true := by
  unfold litR at *
  rw [List.all_eq_true] at *
  exact fun r hr => h r (hs r hr)

/-- what is known of a root's block -/
theorem Rel0.block {E : Env} {s : St} {a : Act} {w : World} {χ : Nat → Option Nat} {hd : Nat → Value} (h : Rel0 E s a w χ hd) {i : Nat} {R : Root} (hR : s.root i = some R) (hl : litR R.xs = true) (hp : 0 < R.xs.length) :
    ∃ b cap cur, hd i = .slice (some ⟨b, 0, none⟩) R.xs.length cap ∧ w.heap[b]? = some (.cells cur R.T (0, 0)) ∧ cur.size = cap * R.sz ∧ R.xs.length ≤ cap ∧ cap ≤ maxLen ∧ cur.toList.take (R.xs.length * R.sz) = valR R.xs ∧ (∀ r ∈ R.xs, r.length = R.sz) ∧ χ b = some i := by
  obtain ⟨_, fp, ⟨hz, vs, fp', hown, hrep, rfl⟩, _, hcol⟩ := h.rts i R hR
  obtain ⟨e1, e2, e3⟩ := repRLL_val _ _ _ hl hrep
  rcases hown.2 with ⟨_, hn⟩ | ⟨b, cap, cur, hhd, _, hheap, hnc, hcm, hcs, htake⟩
  · omega
  · exact ⟨b, cap, cur, hhd, hheap, hcs, hnc, hcm, by rw [htake, e1], e3, hcol b (by simp [hhd, Value.ownBlock])⟩
/-- a root's plain rows are others now -/
theorem Rel0.setRow {E : Env} {s : St} {a : Act} {w : World} {χ : Nat → Option Nat} {hd : Nat → Value} (h : Rel0 E s a w χ hd) {i : Nat} {R : Root} (hR : s.root i = some R) (hl : litR R.xs = true) {b cap : Nat} {cur cur' : Array Value}
    (hh : hd i = .slice (some ⟨b, 0, none⟩) R.xs.length cap) (hg : w.heap[b]? = some (.cells cur R.T (0, 0))) (hcs : cur'.size = cap * R.sz) {xs' : List (List AV)} (hn : xs'.length = R.xs.length) (hl' : litR xs' = true) (hr' : ∀ r ∈ xs', r.length = R.sz)
    (ht : cur'.toList.take (R.xs.length * R.sz) = valR xs') : Rel0 E (s.setR i ⟨R.T, R.sz, xs'⟩) a (w.setRow b cur') χ hd := by
  obtain ⟨hus, fp, ⟨hz, vs, fp', hown, hrep, rfl⟩, hnd, hcol⟩ := h.rts i R hR
  obtain ⟨e1, e2, e3⟩ := repRLL_val _ _ _ hl hrep
  subst e2
  have hij : i ≠ JJ := fun e => by rw [e, h.rj] at hR; cases hR
  have hbi : χ b = some i := hcol b (by simp [hh, Value.ownBlock])
  have hother : ∀ k : Nat, k ≠ b → (w.setRow b cur').heap[k]? = w.heap[k]? := fun k hk => setRow_other w b k cur' hk
  have hsize : (w.setRow b cur').heap.size = w.heap.size := size_setRow w b cur'
  have hS : ∀ k, free χ w k → free χ (w.setRow b cur') k := fun k hk => ⟨hk.1, by rw [hsize]; exact hk.2⟩
  have hSh : ∀ k, free χ w k → (w.setRow b cur').heap[k]? = w.heap[k]? := fun k hk => hother k (fun e => by rw [e, free, hbi] at hk; simp at hk)
  have htab : tab (s.setR i ⟨R.T, R.sz, xs'⟩) hd = tab s hd := by
    funext j
    by_cases hj : j = i
    · subst hj; simp [tab, St.root_setR_same, hR, hn]
    · simp [tab, St.root_setR_ne s hj]
  have hρ : ∀ j, j ∈ s.us → ∀ y, tab (s.setR i ⟨R.T, R.sz, xs'⟩) hd j = some y → tab s hd j = some y := fun j _ y hy => by rwa [htab] at hy
  have hcapn : R.xs.length ≤ cap ∧ cap ≤ maxLen := by
    rcases hown.2 with ⟨h1, _⟩ | ⟨b2, cap2, cur2, hhd, _, _, hnc, hcm, _⟩
    · rw [hh] at h1; cases h1
    · rw [hh] at hhd; cases hhd; exact ⟨hnc, hcm⟩
  refine ⟨h.defers, h.size, h.os, h.tape, h.output, by rw [hsize]; exact h.hsz, ?_, h.fx, h.jj, by rw [St.root_setR_ne s (Ne.symm hij)]; exact h.rj, h.jk, ?_, ?_, ?_⟩
  · intro k hk1 hk2
    refine (hother k (fun e => ?_)).trans (h.frame k hk1 hk2)
    subst e
    rcases (h.col k i hbi).1 hij with hh | hh
    · omega
    · exact hk2 hh
  · intro k r hr
    rw [hsize]; exact h.col k r hr
  · intro j Q hQ
    by_cases hj : j = i
    · subst hj
      rw [St.root_setR_same] at hQ
      cases hQ
      refine ⟨hus, _, ⟨hz, valR xs', [], ⟨?_, .inr ⟨b, cap, cur', ?_, Nat.zero_le _, setRow_heap w b cur cur' R.T (0, 0) hg, by simp only [hn]; exact hcapn.1, hcapn.2, hcs, by simp only [hn]; exact ht⟩⟩, repRLL_lit _ hl' hr', rfl⟩, by simp [hh, Value.ownBlock], fun k hk => hcol k hk⟩
      · simp only; rw [valR_len _ hr']
      · simp only [hn]; exact hh
    · rw [St.root_setR_ne s hj] at hQ
      obtain ⟨q1, fq, q2, q3, q4⟩ := h.rts j Q hQ
      have hne : ∀ k ∈ fq, k ≠ b := fun k hk e => by
        have := q4 k hk
        rw [e, hbi] at this
        exact hj (by cases this; rfl)
      exact ⟨q1, fq, q2.mono hS hSh (fun k hk => hother k (hne k hk)) (fun _ y => y) hρ, q3, q4⟩
  · intro t
    exact repR_mono _ _ _ (h.slots t) hS hSh (by simp) (fun _ y => y) hρ
/-- some rows over others -/
def ovr_ (xs : List (List AV)) (a : Nat) (ys : List (List AV)) : List (List AV) := xs.take a ++ ys ++ xs.drop (a + ys.length)
theorem ovr_len {xs ys : List (List AV)} {a : Nat} (h : a + ys.length ≤ xs.length) : (ovr_ xs a ys).length = xs.length := by unfold ovr_; simp; omega
theorem Rel0.over {E : Env} {s : St} {a : Act} {w : World} {χ : Nat → Option Nat} {hd : Nat → Value} (h : Rel0 E s a w χ hd) {i : Nat} {R : Root} (hR : s.root i = some R) (hl : litR R.xs = true) {b cap : Nat} {cur : Array Value}
    (hh : hd i = .slice (some ⟨b, 0, none⟩) R.xs.length cap) (hg : w.heap[b]? = some (.cells cur R.T (0, 0))) (hcs : cur.size = cap * R.sz) (hcap : R.xs.length ≤ cap) (ht : cur.toList.take (R.xs.length * R.sz) = valR R.xs) (hr : ∀ r ∈ R.xs, r.length = R.sz)
    {k : Nat} {ys : List (List AV)} (hk : k + ys.length ≤ R.xs.length) (hly : litR ys = true) (hry : ∀ r ∈ ys, r.length = R.sz) :
    Rel0 E (s.setR i ⟨R.T, R.sz, ovr_ R.xs k ys⟩) a (w.setRow b (cur.toList.take (k * R.sz) ++ valR ys ++ cur.toList.drop (k * R.sz + (valR ys).length)).toArray) χ hd := by
  have hvl := valR_len ys hry
  have hkz : k * R.sz + ys.length * R.sz ≤ R.xs.length * R.sz := by rw [← Nat.add_mul]; exact Nat.mul_le_mul_right _ hk
  have hcl : cur.toList.length = cap * R.sz := by simpa using hcs
  have hcz : R.xs.length * R.sz ≤ cap * R.sz := Nat.mul_le_mul_right _ hcap
  have hmem : ∀ r ∈ ovr_ R.xs k ys, r ∈ R.xs ∨ r ∈ ys := by
    intro r hr'
    simp only [ovr_, List.mem_append] at hr'
    rcases hr' with (h1 | h1) | h1
    · exact .inl (List.mem_of_mem_take h1)
    · exact .inr h1
    · exact .inl (List.mem_of_mem_drop h1)
  refine h.setRow hR hl hh hg ?_ (ovr_len hk) ?_ ?_ ?_
  · simp only [List.size_toArray, List.length_append, List.length_take, List.length_drop, hcl, hvl]
    omega
  · unfold litR at *
    rw [List.all_eq_true] at *
    intro r hr'
    rcases hmem r hr' with h1 | h1
    · exact hl r h1
    · exact hly r h1
  · intro r hr'
    rcases hmem r hr' with h1 | h1
    · exact hr r h1
    · exact hry r h1
  · simp only [ovr_, valR_app]
    rw [← valR_take hr k (by omega), ← valR_drop hr (k + ys.length) (by omega), ← ht, List.take_take, hvl]
    have e1 : min (k * R.sz) (R.xs.length * R.sz) = k * R.sz := Nat.min_eq_left (by omega)
    have e2 : (k + ys.length) * R.sz = k * R.sz + ys.length * R.sz := Nat.add_mul _ _ _
    rw [e1, e2, List.drop_take]
    have e3 : (cur.toList.take (k * R.sz) ++ valR ys).length = k * R.sz + ys.length * R.sz := by
      rw [List.length_append, List.length_take, hvl, hcl]; omega
    rw [List.take_append, e3, List.take_of_length_le (by omega)]
/-- append within a root: a cut behind a cut -/
theorem opTo_appIn {E : Env} {Θ : Tys} (hΘ : TOK E.P Θ) {o : Oper} {s : St} {x y : Operand} {t el : Nat} {ti te : TI} (hop : o.op = .call ⟨.builtin .append, #[x, y], #[t, t]⟩) (hd : okD E.n o.dst = true)
    (hti : Θ.lookup t = some ti) (hun : ti.und = .slice el) (hte : Θ.lookup el = some te) {i k k2 n : Nat} {R : Root} (hx : opnd s x = .sl i 0 k) (hy : opnd s y = .sl i k2 n) (hR : s.root i = some R) (hsz : R.sz = te.sz) (hpos : 0 < R.sz) (hT : R.T = el) (hl : litR R.xs = true) (hk : k + n ≤ R.xs.length) :
    OpTo E o s ((s.setR i ⟨R.T, R.sz, ovr_ R.xs k ((R.xs.drop k2).take n)⟩).putO o.dst (.sl i 0 (k + n))) := by
  rintro a w ⟨χ, hd', h⟩ K Q hK
  have rx := opnd_rep h x
  have ry := opnd_rep h y
  rw [hx] at rx
  rw [hy] at ry
  simp only [repR] at rx ry
  obtain ⟨_, hus, rx⟩ := rx
  obtain ⟨_, _, ry⟩ := ry
  obtain ⟨r1, ⟨A1, cap1, hu1, hc1, hz1, hp1⟩, hcp1⟩ := rx (hd' i) R.xs.length R.sz (by simp [tab, hR])
  obtain ⟨r2, ⟨A2, cap2, hu2, hc2, hz2, hp2⟩, _⟩ := ry (hd' i) R.xs.length R.sz (by simp [tab, hR])
  obtain ⟨m1, hm1⟩ := hz1 rfl
  obtain ⟨ii, z, hi1, hi2, hi3⟩ : ∃ (ii : TypeInfo) (z : Value), E.P.info? el = some ii ∧ ii.size = te.sz ∧ True := by
    obtain ⟨ii, z, h1, h2, _⟩ := tiOf_info (hΘ.get hte)
    exact ⟨ii, z, h1, h2, trivial⟩
  have hund := tiOf_und (hΘ.get hti)
  rw [hun] at hund
  rw [hu1] at hcp1
  have hcp1 : R.xs.length ≤ 0 + cap1 := hcp1
  have hroom : k + n ≤ cap1 := by omega
  rcases Nat.eq_zero_or_pos n with h0 | h0
  · -- nothing comes behind
    subst h0
    have hrun : (Builtin.append_ #[t, t] o.type #[.slice A1 k cap1, .slice A2 0 cap2]).run E.P w = .ok (.slice A1 k cap1) w := by
      cases A1 <;> cases A2 <;> simp [Builtin.append_, run_underlying hund, sizeOf, typeInfo, hi1, Builtin.lenOf, Builtin.firstCells, loadCells, loadCellsFrom, storeCells, show k ≤ cap1 by omega]
    have hs : ovr_ R.xs k ((R.xs.drop k2).take 0) = R.xs := by unfold ovr_; simp
    refine upon_val (v := .slice A1 k cap1) (w' := w) ?_ (hK _ _ ⟨χ, hd', Rel0.putO ?_ hd ?_⟩)
    · obtain ⟨dst, op, type, pos, after, guard⟩ := o
      simp only at hop hrun
      subst hop
      simp only [execOp, resolve, invoke, builtin, Sem.run_bind, Sem.run_pure, Result.andThen_ok, List.map_toArray, List.map_cons, List.map_nil, hu1, hu2, hrun]
    · rw [hs]
      refine h.congr (fun _ => rfl) (fun j => ?_) rfl
      by_cases hj : j = i
      · subst hj; rw [St.root_setR_same, hR]
      · rw [St.root_setR_ne _ hj]
    · rw [hs]
      simp only [repR]
      refine ⟨trivial, hus, fun h' n' sz' hh => ?_⟩
      have : tab (s.setR i ⟨R.T, R.sz, R.xs⟩) hd' i = some (hd' i, R.xs.length, R.sz) := by simp [tab, St.root_setR_same]
      rw [this] at hh
      cases hh
      exact ⟨by omega, ⟨A1, cap1, rfl, by omega, fun _ => ⟨m1, hm1⟩, fun hp => hp1 (by omega)⟩, hcp1⟩
  · obtain ⟨b, cap, cur, hh, hg, hcs, hcap, hcm, ht, hr, hbi⟩ := h.block hR hl (by omega)
    have hA1 : A1 = some ⟨b, 0, none⟩ ∧ m1 = R.xs.length ∧ cap1 = cap := by
      rw [hh] at hm1; cases hm1; exact ⟨rfl, rfl, rfl⟩
    obtain ⟨rfl, rfl, rfl⟩ := hA1
    obtain ⟨b2, m2, c2, hh2, rfl⟩ := hp2 h0
    rw [hh] at hh2
    cases hh2
    have hvl : (valR ((R.xs.drop k2).take n)).length = n * R.sz := by
      rw [valR_len (sz := R.sz) _ (fun r hr' => hr r (List.mem_of_mem_drop (List.mem_of_mem_take hr'))), List.length_take, List.length_drop]
      congr 1; omega
    have hcells : ∀ j u, (valR ((R.xs.drop k2).take n))[j]? = some u → w.cell? ((⟨b, k2 * R.sz, none⟩ : Addr).add j) = some u := by
      intro j u hj
      have hjl := (List.getElem?_eq_some_iff.1 hj).1
      rw [hvl] at hjl
      rw [add_at, cell_of_row w b _ cur R.T (0, 0) hg]
      have e1 : valR ((R.xs.drop k2).take n) = ((valR R.xs).drop (k2 * R.sz)).take (n * R.sz) := by
        rw [valR_drop hr k2 (by omega), valR_take (fun r hr' => hr r (List.mem_of_mem_drop hr')) n (by rw [List.length_drop]; omega)]
      rw [e1, ← ht, List.getElem?_take, if_pos hjl, List.getElem?_drop, List.getElem?_take] at hj
      split at hj
      · simpa using hj
      · cases hj
    have hfit : k * ii.size + (valR ((R.xs.drop k2).take n)).length ≤ cur.size := by
      rw [hi2, ← hsz, hvl, hcs, ← Nat.add_mul]
      exact Nat.mul_le_mul_right _ (by omega)
    have hly : litR ((R.xs.drop k2).take n) = true := litR_sub hl (fun r hr' => List.mem_of_mem_drop (List.mem_of_mem_take hr'))
    have hrun := run_append_room w t o.type el ii hund hi1 b k cap1 cur (by rw [hg, hT]) ⟨b, k2 * R.sz, none⟩ n cap2 (valR ((R.xs.drop k2).take n)) (by rw [hvl, hi2, hsz]) hcells (valR_cell hly) hroom hfit
    have hlt : ((R.xs.drop k2).take n).length ≤ n := by rw [List.length_take]; omega
    have hmle : k + ((R.xs.drop k2).take n).length ≤ R.xs.length := by omega
    have hr' := h.over hR hl hh hg hcs hcap ht hr hmle hly (fun r hm => hr r (List.mem_of_mem_drop (List.mem_of_mem_take hm)))
    rw [hi2, ← hsz] at hrun
    refine upon_val (v := .slice (some ⟨b, 0, none⟩) (k + n) cap1) (w' := w.setRow b (cur.toList.take (k * R.sz) ++ valR ((R.xs.drop k2).take n) ++ cur.toList.drop (k * R.sz + (valR ((R.xs.drop k2).take n)).length)).toArray) ?_ (hK _ _ ⟨χ, hd', Rel0.putO hr' hd ?_⟩)
    · obtain ⟨dst, op, type, pos, after, guard⟩ := o
      simp only at hop hrun
      subst hop
      simp only [execOp, resolve, invoke, builtin, Sem.run_bind, Sem.run_pure, Result.andThen_ok, List.map_toArray, List.map_cons, List.map_nil, hu1, hu2, hrun]
    · simp only [repR]
      refine ⟨trivial, hus, fun h' n' sz' hh' => ?_⟩
      have : tab (s.setR i ⟨R.T, R.sz, ovr_ R.xs k ((R.xs.drop k2).take n)⟩) hd' i = some (hd' i, R.xs.length, R.sz) := by simp [tab, St.root_setR_same, ovr_len hmle]
      rw [this] at hh'
      cases hh'
      refine ⟨by omega, ⟨some ⟨b, 0, none⟩, cap1, rfl, by omega, fun _ => ⟨_, hh⟩, fun _ => ⟨b, _, _, hh, by simp⟩⟩, ?_⟩
      simp only [sCap]
      omega
/-- a cut that reaches behind a cut's end, within the root's rows -/
theorem opTo_sliceB {E : Env} {Θ : Tys} (hΘ : TOK E.P Θ) {o : Oper} {s : St} {t el : Nat} {x : Operand} {lo hi : Option Operand} {ti te : TI} (hop : o.op = .slice t x lo hi none) (hd : okD E.n o.dst = true)
    (hti : Θ.lookup t = some ti) (hun : ti.und = .slice el) (hte : Θ.lookup el = some te) {id len : Nat} {R : Root} (hx : opnd s x = .sl id 0 len) (hR : s.root id = some R) (hsz : R.sz = te.sz) {l : Int} {hh : Nat} {k : IntKind} (hhi : hi.map (opnd s) = some (.lit (.int k hh))) (hl : bnd 0 (lo.map (opnd s)) = some l) (h0 : 0 ≤ l) (h1 : l ≤ hh) (h2 : hh ≤ R.xs.length) :
    OpTo E o s (s.putO o.dst (.sl id l.toNat (hh - l.toNat))) := by
  rintro a w ⟨χ, hd', h⟩ K Q hK
  have hu := run_underlying (P := E.P) (w := w) (d := .slice el) (by rw [tiOf_und (hΘ.get hti), hun])
  have hte' := run_sizeOf (P := E.P) (w := w) (hΘ.get hte)
  have rx := opnd_rep h x
  rw [hx] at rx
  simp only [repR] at rx
  obtain ⟨_, hus, rx⟩ := rx
  obtain ⟨hle, ⟨A, cap, hv, hcap, hA0, hA⟩, hcp⟩ := rx (hd' id) R.xs.length R.sz (by simp [tab, hR])
  rw [hv] at hcp
  have hcp : R.xs.length ≤ 0 + cap := hcp
  have rlo := repO_opnd h lo
  have rhi := repO_opnd h hi
  rw [hhi] at rhi
  obtain ⟨uh, huh, rh⟩ := rhi
  simp only [repR, rep] at rh
  obtain ⟨_, rfl⟩ := rh
  have hb : (Instr.sliceBounds true len cap (lo.map a.eval) (hi.map a.eval) none).run E.P w = .ok (l.toNat, hh, cap) w := by
    rw [huh]
    have b1 : ∀ (k : IntKind) (i : Int) (y : Nat) (code : BoundsCode), 0 ≤ i → i ≤ y → (Instr.sliceBound (.int k i) y code).run E.P w = .ok i.toNat w := fun k i y code a b => by
      simp [Instr.sliceBound, asIntOf, a, b]
    have e2 : (Instr.sliceBound (.int k hh) cap .sliceAcap).run E.P w = .ok hh w := by
      have := b1 k hh cap .sliceAcap (by omega) (by omega)
      simpa using this
    rcases bnd_sound rlo hl with ⟨e, e'⟩ | ⟨kl, e⟩
    · rw [e, e']
      simp [Instr.sliceBounds, e2]
    · rw [e]
      simp [Instr.sliceBounds, e2, b1 kl l hh _ h0 h1]
  refine upon_val (v := .slice (if cap = l.toNat then A else A.map (·.add (l.toNat * te.sz))) (hh - l.toNat) (cap - l.toNat)) (w' := w) ?_ (hK _ _ ⟨χ, hd', h.putO hd ?_⟩)
  · obtain ⟨dst, op, type, pos, after, guard⟩ := o
    simp only at hop
    subst hop
    simp only [execOp, Instr.sliceAt, hv, Instr.slice, Sem.run_bind, hu, Result.andThen_ok, hb, hte', Option.map_none, Sem.run_pure]
  · simp only [repR]
    refine ⟨trivial, hus, ?_⟩
    intro h' n sz' hh'
    simp [tab, hR] at hh'
    obtain ⟨rfl, rfl, rfl⟩ := hh'
    refine ⟨by omega, ⟨_, _, rfl, by omega, ?_, ?_⟩, (by show R.xs.length ≤ l.toNat + (cap - l.toNat); omega)⟩
    · intro h00
      obtain ⟨m, hm⟩ := hA0 (by omega)
      have hl0 : l.toNat = 0 := by omega
      refine ⟨m, ?_⟩
      rw [hm, hl0]
      simp only [Nat.zero_mul, Nat.sub_zero]
      split
      · rfl
      · cases A <;> simp [Addr.add]
    · intro hpos
      obtain ⟨m0, hm0⟩ := hA0 rfl
      obtain ⟨_, fp, ⟨_, vs, fp', hown, _⟩, _⟩ := h.rts id R hR
      obtain ⟨A1, cap1, he1, _, hb1, _⟩ := ownsRow_hd hown
      rw [hm0] at he1
      cases he1
      obtain ⟨b, rfl⟩ := hb1 (by omega)
      refine ⟨b, _, _, hm0, ?_⟩
      rw [if_neg (by omega)]
      simp [add_at, hsz]
/-- a cut whose room is told: its value is not asked for -/
theorem opTo_slice3 {E : Env} {Θ : Tys} (hΘ : TOK E.P Θ) {o : Oper} {s : St} {t el : Nat} {x : Operand} {lo hi mx : Option Operand} {ti te : TI} (hop : o.op = .slice t x lo hi mx) (hd : okD E.n o.dst = true)
    (hti : Θ.lookup t = some ti) (hun : ti.und = .slice el) (hte : Θ.lookup el = some te) {id off len : Nat} {R : Root} (hx : opnd s x = .sl id off len) (hR : s.root id = some R) {l hh mm : Int} {k k' : IntKind} (hmx : mx.map (opnd s) = some (.lit (.int k' mm))) (hhi : hi.map (opnd s) = some (.lit (.int k hh))) (hl : bnd 0 (lo.map (opnd s)) = some l) (h0 : 0 ≤ l) (h1 : l ≤ hh) (h2 : hh ≤ mm) (h3 : mm ≤ (len : Int)) :
    OpTo E o s (s.putO o.dst .dead) := by
  rintro a w ⟨χ, hd', h⟩ K Q hK
  have hu := run_underlying (P := E.P) (w := w) (d := .slice el) (by rw [tiOf_und (hΘ.get hti), hun])
  have hte' := run_sizeOf (P := E.P) (w := w) (hΘ.get hte)
  have rx := opnd_rep h x
  rw [hx] at rx
  simp only [repR] at rx
  obtain ⟨_, hus, rx⟩ := rx
  obtain ⟨hle, ⟨A, cap, hv, hcap, hA0, hA⟩, hcp⟩ := rx (hd' id) R.xs.length R.sz (by simp [tab, hR])
  have rlo := repO_opnd h lo
  have rhi := repO_opnd h hi
  rw [hhi] at rhi
  obtain ⟨uh, huh, rh⟩ := rhi
  simp only [repR, rep] at rh
  obtain ⟨_, rfl⟩ := rh
  have rmx := repO_opnd h mx
  rw [hmx] at rmx
  obtain ⟨um, hum, rm⟩ := rmx
  simp only [repR, rep] at rm
  obtain ⟨_, rfl⟩ := rm
  have hb : (Instr.sliceBounds true len cap (lo.map a.eval) (hi.map a.eval) (mx.map a.eval)).run E.P w = .ok (l.toNat, hh.toNat, mm.toNat) w := by
    rw [huh, hum]
    have b1 : ∀ (k : IntKind) (i : Int) (y : Nat) (code : BoundsCode), 0 ≤ i → i ≤ y → (Instr.sliceBound (.int k i) y code).run E.P w = .ok i.toNat w := fun k i y code a b => by
      simp [Instr.sliceBound, asIntOf, a, b]
    have e3 := b1 k' mm cap .slice3Acap (by omega) (by omega)
    have e2 := b1 k hh mm.toNat .slice3B (by omega) (by omega)
    rcases bnd_sound rlo hl with ⟨e, e'⟩ | ⟨kl, e⟩
    · rw [e, e']
      simp [Instr.sliceBounds, e2, e3]
    · rw [e]
      simp [Instr.sliceBounds, e2, e3, b1 kl l hh.toNat _ h0 (by omega)]
  refine upon_val (v := .slice (if mm.toNat = l.toNat then A else A.map (·.add (l.toNat * te.sz))) (hh.toNat - l.toNat) (mm.toNat - l.toNat)) (w' := w) ?_ (hK _ _ ⟨χ, hd', h.putO hd ?_⟩)
  · obtain ⟨dst, op, type, pos, after, guard⟩ := o
    simp only at hop
    subst hop
    simp only [execOp, Instr.sliceAt, hv, Instr.slice, Sem.run_bind, hu, Result.andThen_ok, hb, hte', Sem.run_pure]
  · simp [repR, rep]
theorem valR_rep (z : List Value) : ∀ n, valR (List.replicate n (litL z)) = (List.replicate n z).flatten
  | 0 => rfl
  | n + 1 => by
    have e : (litL z).map unl = z := by
      unfold litL
      rw [List.map_map]
      exact List.map_id _
    have := valR_rep z n
    simp only [valR, List.replicate_succ, List.map_cons, List.flatten_cons, e] at this ⊢
    rw [this]
theorem litR_rep {z : List Value} (hz : ∀ u ∈ z, u.oneCell' = true) (hzn : ∀ u ∈ z, nf u = true) (n : Nat) : litR (List.replicate n (litL z)) = true := by
  unfold litR
  rw [List.all_eq_true]
  intro r hr
  rw [List.eq_of_mem_replicate hr]
  simp only [litL, List.all_map, List.all_eq_true, Function.comp, isLit, Bool.and_eq_true]
  exact fun u hu => ⟨hz u hu, hzn u hu⟩
theorem zeroCells_flat (z : Array Value) (hz : 0 < z.size) : ∀ n, (Builtin.zeroCells z n).toList = (List.replicate n z.toList).flatten := by
  intro n
  apply List.ext_getElem?
  intro k
  by_cases hk : k < n * z.size
  · have h1 : (List.replicate n z.toList).flatten[k]? = z.toList[k % z.size]? := by
      induction n generalizing k with
      | zero => omega
      | succ n ih =>
        rw [List.replicate_succ, List.flatten_cons]
        by_cases hh : k < z.size
        · rw [List.getElem?_append_left (by simpa using hh), Nat.mod_eq_of_lt hh]
        · rw [List.getElem?_append_right (by simpa using hh), Array.length_toList, ih _ (by rw [Nat.add_mul] at hk; omega), ← Nat.mod_eq_sub_mod (by omega)]
    rw [h1]
    have hm : k % z.size < z.size := Nat.mod_lt _ hz
    simp [Builtin.zeroCells, hk, hm]
  · rw [List.getElem?_eq_none (by simp [Builtin.zeroCells]; omega), List.getElem?_eq_none (by simp; omega)]
/-- a cut's rows become zero -/
theorem opTo_clear {E : Env} {Θ : Tys} (hΘ : TOK E.P Θ) {o : Oper} {s : St} {x : Operand} {t el : Nat} {ti te : TI} (hop : o.op = .call ⟨.builtin .clear, #[x], #[t]⟩) (hd : okD E.n o.dst = true)
    (hti : Θ.lookup t = some ti) (hun : ti.und = .slice el) (hte : Θ.lookup el = some te) (hz : zOK te = true) {i off n : Nat} {R : Root} (hx : opnd s x = .sl i off n) (hR : s.root i = some R) (hsz : R.sz = te.sz) (hl : litR R.xs = true) (hn : off + n ≤ R.xs.length) :
    OpTo E o s ((s.setR i ⟨R.T, R.sz, ovr_ R.xs off (List.replicate n (litL te.zero))⟩).putO o.dst .dead) := by
  rintro a w ⟨χ, hd', h⟩ K Q hK
  have hund := tiOf_und (hΘ.get hti)
  rw [hun] at hund
  obtain ⟨z, hzr, hzc⟩ := run_zeroValue (P := E.P) (w := w) (hΘ.get hte)
  obtain ⟨z0, z1, z2⟩ := zOK_iff hz
  have z3 := zOK_nf hz
  have rx := opnd_rep h x
  rw [hx] at rx
  simp only [repR] at rx
  obtain ⟨_, hus, rx⟩ := rx
  obtain ⟨hle, ⟨A, cap1, hv, hcap1, hA0, hA⟩, hcp⟩ := rx (hd' i) R.xs.length R.sz (by simp [tab, hR])
  have hzr' : (zeroValue el).runT E.P w #[] = (.ok z w, #[]) ∨ True := .inr trivial
  rcases Nat.eq_zero_or_pos n with h0 | h0
  · subst h0
    have hs : ovr_ R.xs off (List.replicate 0 (litL te.zero)) = R.xs := by unfold ovr_; simp
    refine upon_val (v := .tuple #[]) (w' := w) ?_ (hK _ _ ⟨χ, hd', Rel0.putO ?_ hd (by simp [repR, rep])⟩)
    · obtain ⟨dst, op, type, pos, after, guard⟩ := o
      simp only at hop
      subst hop
      cases A <;> simp [execOp, resolve, invoke, builtin, hv, Builtin.clear_, run_underlying hund]
    · rw [hs]
      refine h.congr (fun _ => rfl) (fun j => ?_) rfl
      by_cases hj : j = i
      · subst hj; rw [St.root_setR_same, hR]
      · rw [St.root_setR_ne _ hj]
  · obtain ⟨b, cap, cur, hh, hg, hcs, hcap, hcm, ht, hr, hbi⟩ := h.block hR hl (by omega)
    obtain ⟨b2, m2, c2, hh2, rfl⟩ := hA h0
    rw [hh] at hh2
    cases hh2
    have hflat : (Builtin.zeroCells z.cells n).toList = valR (List.replicate n (litL te.zero)) := by
      rw [zeroCells_flat _ (by rw [← Array.length_toList, hzc]; omega), hzc, valR_rep]
    have hlz := litR_rep z2 z3 n
    have hrz : ∀ r ∈ List.replicate n (litL te.zero), r.length = R.sz := fun r hr => by
      rw [List.eq_of_mem_replicate hr]; simp [litL, z1, hsz]
    have hvl := valR_len (sz := R.sz) _ hrz
    rw [List.length_replicate] at hvl
    have hst := run_storeCells_at E.P b (off * R.sz) R.T (valR (List.replicate n (litL te.zero))) 0 cur w hg (by
      rw [hvl, hcs, Nat.add_zero, ← Nat.add_mul]; exact Nat.mul_le_mul_right _ (by omega)) (valR_cell hlz)
    simp only [Nat.add_zero] at hst
    have hr' := h.over hR hl hh hg hcs hcap ht hr (k := off) (ys := List.replicate n (litL te.zero)) (by simpa using hn) hlz hrz
    refine upon_val (v := .tuple #[]) (w' := w.setRow b (cur.toList.take (off * R.sz) ++ valR (List.replicate n (litL te.zero)) ++ cur.toList.drop (off * R.sz + (valR (List.replicate n (litL te.zero))).length)).toArray) ?_ (hK _ _ ⟨χ, hd', Rel0.putO hr' hd (by simp [repR, rep])⟩)
    obtain ⟨m, rfl⟩ : ∃ m, n = m + 1 := ⟨n - 1, by omega⟩
    obtain ⟨dst, op, type, pos, after, guard⟩ := o
    simp only at hop
    subst hop
    simp [execOp, resolve, invoke, builtin, hv, Builtin.clear_, run_underlying hund, hzr, hflat, hst]
end Go.T
