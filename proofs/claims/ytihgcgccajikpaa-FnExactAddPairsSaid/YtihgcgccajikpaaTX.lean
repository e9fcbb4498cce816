/- Lemmas for FnExactAddPairs; no condition. -/

import Derived.Test.YtihgcgccajikpaaTT
import Derived.Laws.Cover2
set_option linter.unusedVariables false
namespace Go.T
open Go Go.RowKit Go.Proofs

/- ------------------------------------------------ what a call is handed, read by its type -/
section
variable {H : Type} {enc : TypeId × Value → H} {P : Program} {w : World}
/-- what is read as a value of a type has one form -/
def Opens (enc : TypeId × Value → H) (P : Program) (w : World) (t : TypeId) {α : Type} (f : α → List AV) (G : α → Prop) : Prop :=
  ∀ (fuel : Nat) (cs : List Value) (x : DataW H × List MemPlace), DataW.trod enc P w 0 (fun _ => true) true fuel t cs = some x →
    (∀ u ∈ cs, u.oneCell' = true) ∧ ∃ a, G a ∧ repL w (fun b => b < w.heap.size) (f a) cs []
theorem repL_one {S : Nat → Prop} {v : Value} : repL w S [.lit v] [v] [] := repL_lits [v]
theorem opens_int {t : TypeId} {k : IntKind} (ht : P.underlying t = some (.int k)) : Opens enc P w t (fun n : Int => [AV.lit (.int k n)]) (fun n => (Lit.int k n).wf = true) := by
  intro fuel cs x h
  obtain ⟨n, rfl, _, hw⟩ := DataW.trod_int ht h
  exact ⟨by simp [Value.oneCell'], n, hw, repL_one⟩
theorem opens_bool {t : TypeId} (ht : P.underlying t = some .bool) : Opens enc P w t (fun b : Bool => [AV.lit (.bool b)]) (fun _ => True) := by
  intro fuel cs x h
  obtain ⟨n, rfl, _⟩ := DataW.trod_bool ht h
  exact ⟨by simp [Value.oneCell'], n, trivial, repL_one⟩
theorem opens_string {t : TypeId} (ht : P.underlying t = some .string) : Opens enc P w t (fun l : List UInt8 => [AV.lit (.string ⟨l.toArray⟩)]) (fun l => l.length ≤ 9223372036854775807) := by
  intro fuel cs x h
  obtain ⟨s, rfl, _, hw⟩ := DataW.trod_string ht h
  exact ⟨by simp [Value.oneCell'], s.data.toList, hw, repL_one⟩
theorem opens_float {t : TypeId} (ht : P.underlying t = some (.float .f64)) : Opens enc P w t (fun n : Nat => [AV.lit (.float .f64 n)]) (fun n => n < 18446744073709551616) := by
  intro fuel cs x h
  cases fuel with
  | zero => simp [DataW.trod] at h
  | succ n =>
    unfold DataW.trod at h
    rw [ht] at h
    split at h
    all_goals try (simp at h; done)
    all_goals simp_all
    rename_i k k' b e
    subst e
    exact ⟨rfl, b, by simpa [Lit.wf] using h.1.2, repL_one⟩
theorem Opens.map {t : TypeId} {α β : Type} {f : α → List AV} {G : α → Prop} {f' : β → List AV} {G' : β → Prop} (h : Opens enc P w t f G) (g : α → β) (hf : ∀ a, f' (g a) = f a) (hG : ∀ a, G a → G' (g a)) : Opens enc P w t f' G' := by
  intro fuel cs x hx
  obtain ⟨h1, a, h2, h3⟩ := h fuel cs x hx
  exact ⟨h1, g a, hG a h2, by rw [hf]; exact h3⟩
theorem repL_app {S : Nat → Prop} : ∀ (xs ys : List AV) (us vs : List Value), repL w S xs us [] → repL w S ys vs [] → repL w S (xs ++ ys) (us ++ vs) []
  | [], ys, us, vs, h, k => by
    simp only [repL] at h
    obtain ⟨rfl, _⟩ := h
    exact k
  | x :: xs, ys, us, vs, h, k => by
    simp only [repL] at h
    obtain ⟨u, us', f1, f2, rfl, hf, h1, h2⟩ := h
    obtain ⟨rfl, rfl⟩ := List.append_eq_nil_iff.1 hf.symm
    simp only [List.cons_append, repL]
    exact ⟨u, us' ++ vs, [], [], rfl, rfl, h1, repL_app xs ys us' vs h2 k⟩
def OpensL (enc : TypeId × Value → H) (P : Program) (w : World) (L : List (Nat × TypeId)) (off m : Nat) {α : Type} (f : α → List AV) (G : α → Prop) : Prop :=
  ∀ (n : Nat) (cs : List Value), (∀ p ∈ L, ∃ x, DataW.trod enc P w 0 (fun _ => true) true n p.2 ((cs.drop p.1).take (P.cellsOf p.2)) = some x) → cs.length = m →
    (∀ u ∈ cs.drop off, u.oneCell' = true) ∧ ∃ a, G a ∧ repL w (fun b => b < w.heap.size) (f a) (cs.drop off) []
theorem opensL_nil {m : Nat} : OpensL enc P w [] m m (fun _ : Unit => []) (fun _ => True) := by
  intro n cs _ hl
  rw [List.drop_of_length_le (by omega)]
  exact ⟨by simp, (), trivial, by simp [repL]⟩
theorem opensL_cons {L : List (Nat × TypeId)} {off off2 m sz : Nat} {t : TypeId} {α β : Type} {f : α → List AV} {G : α → Prop} {f' : β → List AV} {G' : β → Prop} (hs : P.cellsOf t = sz) (ho : off2 = off + sz) (h : Opens enc P w t f G) (k : OpensL enc P w L off2 m f' G') :
    OpensL enc P w ((off, t) :: L) off m (fun p : α × β => f p.1 ++ f' p.2) (fun p => G p.1 ∧ G' p.2) := by
  intro n cs hx hl
  obtain ⟨x, hx0⟩ := hx (off, t) List.mem_cons_self
  simp only at hx0
  rw [hs] at hx0
  obtain ⟨h1, a, h2, h3⟩ := h n _ _ hx0
  obtain ⟨k1, b, k2, k3⟩ := k n cs (fun p hp => hx p (List.mem_cons_of_mem _ hp)) hl
  have e : cs.drop off = (cs.drop off).take sz ++ cs.drop off2 := by rw [ho, ← List.drop_drop, List.take_append_drop]
  rw [e]
  refine ⟨fun u hu => ?_, (a, b), ⟨h2, k2⟩, repL_app _ _ _ _ h3 k3⟩
  rcases List.mem_append.1 hu with hu | hu
  · exact h1 u hu
  · exact k1 u hu
theorem opens_struct {t : TypeId} {fs : Array Field} {L : List (Nat × TypeId)} {m : Nat} {α : Type} {f : α → List AV} {G : α → Prop} (ht : P.underlying t = some (.struct fs)) (hc : P.cellsOf t = m) (hL : fs.toList.map (fun x => (x.offset, x.type)) = L) (h : OpensL enc P w L 0 m f G) : Opens enc P w t f G := by
  intro fuel cs x hx
  obtain ⟨xs, n, _, _, hlc, hlx, hf⟩ := DataW.trod_struct ht hx
  have := h n cs (fun p hp => by
    rw [← hL] at hp
    obtain ⟨fd, hfd, rfl⟩ := List.mem_map.1 hp
    obtain ⟨i, hi⟩ := List.mem_iff_getElem?.1 hfd
    have hi' : fs[i]? = some fd := by simpa using hi
    have hlt : i < xs.length := by
      rw [hlx]
      rcases Nat.lt_or_ge i fs.size with h1 | h1
      · exact h1
      · rw [Array.getElem?_eq_none h1] at hi'; cases hi'
    exact ⟨xs[i], by rw [hf i fd hi']; simp [hlt]⟩) (by rw [hlc, hc])
  simpa using this
theorem repLL_list {S : Nat → Prop} {α : Type} {f : α → List AV} {sz : Nat} : ∀ (l : List (α × List Value)), (∀ p ∈ l, p.2.length = sz ∧ (∀ u ∈ p.2, u.oneCell' = true) ∧ repL w S (f p.1) p.2 []) → repLL w S sz (l.map fun p => f p.1) (l.map (·.2)).flatten []
  | [], _ => by simp [repLL]
  | p :: l, h => by
    obtain ⟨h1, h2, h3⟩ := h p List.mem_cons_self
    simp only [List.map_cons, List.flatten_cons, repLL]
    exact ⟨p.2, _, [], [], rfl, rfl, h1, h2, h3, repLL_list l (fun q hq => h q (List.mem_cons_of_mem _ hq))⟩
theorem opens_slice {t e : TypeId} {sz : Nat} {α : Type} [Inhabited α] {f : α → List AV} {G : α → Prop} (ht : P.underlying t = some (.slice e)) (hsz : P.cellsOf e = sz) (hz : 0 < sz) (h : Opens enc P w e f G) :
    Opens enc P w t (fun l : List α => [AV.ro sz (l.map f)]) (fun l => l.length ≤ 9223372036854775807 ∧ ∀ y ∈ l, G y) := by
  intro fuel cs x hx0
  rcases Deep.open_slice ht hx0 with ⟨rfl, _⟩ | ⟨a, len, cap, m, n, D, Pl, rfl, _, hl, hm, hmm, _, hx⟩
  · refine ⟨by simp [Value.oneCell'], [], ⟨by simp, by simp⟩, ?_⟩
    simp only [List.map_nil, repL]
    exact ⟨_, [], [], [], rfl, rfl, rep_rows0, rfl, rfl⟩
  · refine ⟨by simp [Value.oneCell'], ?_⟩
    simp at hmm
    subst hmm
    rcases Nat.eq_zero_or_pos len with h0 | h0
    · subst h0
      refine ⟨[], ⟨by simp, by simp⟩, ?_⟩
      simp only [List.map_nil, repL]
      exact ⟨_, [], [], [], rfl, rfl, rep_rows0, rfl, rfl⟩
    obtain ⟨g, hg⟩ := Deep.choose_lt (α := α × List Value) (n := m) (p := fun i q => G q.1 ∧ repL w (fun b => b < w.heap.size) (f q.1) q.2 [] ∧ (∀ u ∈ q.2, u.oneCell' = true) ∧ q.2.length = sz ∧ ∀ k, k < sz → w.cell? ((a.add (i * sz)).add k) = q.2[k]?) (fun i hi => by
      obtain ⟨cs', h2, h3⟩ := hx i hi
      obtain ⟨k1, y, k2, k3⟩ := h _ _ _ h3
      obtain ⟨_, h5, h4⟩ := World.cells?_some h2
      rw [hsz] at h4 h5
      exact ⟨(y, cs'), k2, k3, k1, h5, h4⟩)
    obtain ⟨q1, q2, q3, q4, q5⟩ := hg 0 (by omega)
    have hcell0 : w.cell? a = (g 0).2[0]? := by
      have := q5 0 hz
      simpa [Addr.add] using this
    obtain ⟨u0, hu0⟩ : ∃ u, (g 0).2[0]? = some u := ⟨(g 0).2[0]'(by rw [q4]; exact hz), by simp⟩
    rw [hu0] at hcell0
    obtain ⟨b, o, sp⟩ := a
    have hsp : sp = none := World.cell?_spot hcell0
    subst hsp
    have hb : b < w.heap.size := block_lt_of_cell hcell0
    let L : List (α × List Value) := (List.range len).map g
    have hLl : L.length = len := by simp [L]
    refine ⟨L.map (·.1), ⟨by rw [List.length_map, hLl]; exact Nat.le_trans hl hm, fun y hy => ?_⟩, ?_⟩
    · obtain ⟨q, hq, rfl⟩ := List.mem_map.1 hy
      obtain ⟨i, hi, rfl⟩ := List.mem_map.1 hq
      exact (hg i (by have := List.mem_range.1 hi; omega)).1
    · simp only [repL]
      refine ⟨_, [], [], [], rfl, rfl, ?_, rfl, rfl⟩
      simp only [rep]
      refine ⟨trivial, some ⟨b, o, none⟩, m, by simp [hLl], by simpa [hLl] using hl, .inr ⟨b, o, (L.map (·.2)).flatten, rfl, hb, ?_, ?_⟩⟩
      · refine at_rows (sz := sz) (L.map (·.2)) o (fun r hr => ?_) (fun i r hr => ?_)
        · obtain ⟨q, hq, rfl⟩ := List.mem_map.1 hr
          obtain ⟨i, hi, rfl⟩ := List.mem_map.1 hq
          exact (hg i (by have := List.mem_range.1 hi; omega)).2.2.2.1
        · intro k v hk
          simp only [L, List.getElem?_map, Option.map_eq_some_iff] at hr
          obtain ⟨q, ⟨j, hj, rfl⟩, rfl⟩ := hr
          have hji := List.getElem?_eq_some_iff.1 hj
          simp at hji
          obtain ⟨hil, rfl⟩ := hji
          obtain ⟨_, _, _, h4, h5⟩ := hg i (by omega)
          have hks : k < sz := by rw [← h4]; exact (List.getElem?_eq_some_iff.1 hk).1
          have := h5 k hks
          rw [hk] at this
          have e : ((⟨b, o, none⟩ : Addr).add (i * sz)).add k = ⟨b, o + i * sz + k, none⟩ := by
            unfold Addr.add
            split <;> split <;> simp_all
          rwa [e] at this
      · have := repLL_list (w := w) (S := fun b => b < w.heap.size) (f := f) (sz := sz) L (fun p hp => by
          obtain ⟨i, hi, rfl⟩ := List.mem_map.1 hp
          obtain ⟨_, h2, h3, h4, _⟩ := hg i (by have := List.mem_range.1 hi; omega)
          exact ⟨h4, h3, h2⟩)
        rw [List.map_map]
        exact this
/-- a value that comes in, of one cell -/
theorem open_cell {t : TypeId} {v : Value} {d : DataW H} {ps : List MemPlace} {α : Type} {f : α → AV} {G : α → Prop} (ho : Opens enc P w t (fun x => [f x]) G) (h : DataW.Trod enc P w 0 (fun _ => true) true t v d ps) (hv : v.cells = #[v]) : ∃ a, G a ∧ rep w (fun b => b < w.heap.size) (f a) v [] := by
  obtain ⟨fuel, hf⟩ := h
  obtain ⟨_, a, h1, h2⟩ := ho fuel _ _ hf
  rw [hv] at h2
  simp only [repL] at h2
  obtain ⟨u, us, f1, f2, e, ef, h3, rfl, rfl⟩ := h2
  obtain ⟨rfl, _⟩ := List.append_eq_nil_iff.1 ef.symm
  cases e
  exact ⟨a, h1, h3⟩
theorem open_slc {t : TypeId} {v : Value} {d : DataW H} {ps : List MemPlace} {α : Type} {f : α → AV} {G : α → Prop} (ho : Opens enc P w t (fun x => [f x]) G) (h : DataW.Trod enc P w 0 (fun _ => true) true t v d ps) (hv : ∃ a len cap, v = .slice a len cap) : ∃ a, G a ∧ rep w (fun b => b < w.heap.size) (f a) v [] := by
  obtain ⟨_, _, _, rfl⟩ := hv
  exact open_cell ho h rfl
theorem open_str {t : TypeId} {v : Value} {d : DataW H} {ps : List MemPlace} {α : Type} {f : α → AV} {G : α → Prop} (ho : Opens enc P w t (fun x => [f x]) G) (h : DataW.Trod enc P w 0 (fun _ => true) true t v d ps) (hv : ∃ s, v = .string s) : ∃ a, G a ∧ rep w (fun b => b < w.heap.size) (f a) v [] := by
  obtain ⟨_, rfl⟩ := hv
  exact open_cell ho h rfl
theorem open_agg {t : TypeId} {v : Value} {d : DataW H} {ps : List MemPlace} {α : Type} {f : α → List AV} {G : α → Prop} {m : Nat} (ho : Opens enc P w t f G) (h : DataW.Trod enc P w 0 (fun _ => true) true t v d ps) (hv : ∃ cs, v = .agg cs ∧ cs.size = m) : ∃ a, G a ∧ rep w (fun b => b < w.heap.size) (.agg (f a)) v [] := by
  obtain ⟨cs, rfl, _⟩ := hv
  obtain ⟨fuel, hf⟩ := h
  obtain ⟨_, a, h1, h2⟩ := ho fuel _ _ hf
  refine ⟨a, h1, ?_⟩
  simp only [rep]
  exact ⟨_, by simp [Value.cells], h2⟩
end
end Go.T
