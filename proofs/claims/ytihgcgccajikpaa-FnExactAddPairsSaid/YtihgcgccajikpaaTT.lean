/- Lemmas for FnExactAddPairs; no condition. -/

import Derived.Test.YtihgcgccajikpaaTW
import Derived.Deep.Slices
import Derived.DataReads
set_option linter.unusedVariables false
namespace Go.T
open Go Go.RowKit Go.Proofs

/- ------------------------------------------------ what a call is handed, read as rows -/
theorem At.app {w : World} {b o : Nat} {xs ys : List Value} (h1 : At w b o xs) (h2 : At w b (o + xs.length) ys) : At w b o (xs ++ ys) := by
  intro k v hk
  rw [List.getElem?_append] at hk
  split at hk
  · exact h1 k v hk
  · have := h2 (k - xs.length) v hk
    rwa [show o + xs.length + (k - xs.length) = o + k by omega] at this
theorem at_rows {w : World} {b sz : Nat} : ∀ (rows : List (List Value)) (o : Nat), (∀ r ∈ rows, r.length = sz) → (∀ i r, rows[i]? = some r → At w b (o + i * sz) r) → At w b o rows.flatten
  | [], o, _, _ => by intro k v hk; simp at hk
  | r :: rows, o, hl, h => by
    rw [List.flatten_cons]
    have h0 := h 0 r rfl
    rw [Nat.zero_mul, Nat.add_zero] at h0
    refine At.app h0 (at_rows rows _ (fun r' hr => hl r' (List.mem_cons_of_mem _ hr)) (fun i r' hr => ?_))
    have := h (i + 1) r' (by simpa using hr)
    rw [hl r List.mem_cons_self]
    rwa [Nat.add_mul, Nat.one_mul, Nat.add_comm (i * sz) sz, ← Nat.add_assoc] at this
theorem repL_lits {w : World} {S : Nat → Prop} : ∀ vs : List Value, repL w S (litL vs) vs []
  | [] => by simp [litL, repL]
  | v :: vs => by
    simp only [litL, List.map_cons, repL]
    exact ⟨v, vs, [], [], rfl, rfl, by simp [rep], repL_lits vs⟩
theorem repLL_lits {w : World} {S : Nat → Prop} {sz : Nat} : ∀ rows : List (List Value), (∀ r ∈ rows, r.length = sz) → (∀ r ∈ rows, ∀ u ∈ r, u.oneCell' = true) → repLL w S sz (rows.map litL) rows.flatten []
  | [], _, _ => by simp [repLL]
  | r :: rows, hl, h1 => by
    simp only [List.map_cons, List.flatten_cons, repLL]
    exact ⟨r, rows.flatten, [], [], rfl, rfl, hl r List.mem_cons_self, h1 r List.mem_cons_self, repL_lits r, repLL_lits rows (fun r' hr => hl r' (List.mem_cons_of_mem _ hr)) (fun r' hr => h1 r' (List.mem_cons_of_mem _ hr))⟩
theorem rep_rows {w : World} {S : Nat → Prop} {sz b o cap : Nat} (rows : List (List Value)) (hl : ∀ r ∈ rows, r.length = sz) (h1 : ∀ r ∈ rows, ∀ u ∈ r, u.oneCell' = true) (hS : S b) (hat : ∀ i r, rows[i]? = some r → At w b (o + i * sz) r) (hc : rows.length ≤ cap) :
    rep w S (.ro sz (rows.map litL)) (.slice (some ⟨b, o, none⟩) rows.length cap) [] := by
  simp only [rep]
  refine ⟨trivial, some ⟨b, o, none⟩, cap, by simp, by simpa using hc, ?_⟩
  exact .inr ⟨b, o, rows.flatten, rfl, hS, at_rows rows o hl hat, repLL_lits rows hl h1⟩
theorem rep_rows0 {w : World} {S : Nat → Prop} {sz cap : Nat} {A : Option Addr} : rep w S (.ro sz []) (.slice A 0 cap) [] := by
  simp only [rep]
  exact ⟨trivial, A, cap, rfl, by simp, .inl trivial⟩

/-- a slice that comes in, its elements read by a law of their own -/
theorem open_rows {α H : Type} [Inhabited α] {P : Program} {w : World} {enc : TypeId × Value → H} {t e sz : Nat} {v : Value} {d : DataW H} {ps : List MemPlace} (f : α → List Value) (ht : P.underlying t = some (.slice e)) (hsz : P.cellsOf e = sz) (hz : 0 < sz) (hf : ∀ x, (f x).length = sz) (h1 : ∀ x, ∀ u ∈ f x, u.oneCell' = true)
    (hel : ∀ (fuel : Nat) (cs : List Value) (x : DataW H × List MemPlace), DataW.trod enc P w 0 (fun _ => true) true fuel e cs = some x → ∃ a, cs = f a)
    (h : DataW.Trod enc P w 0 (fun _ => true) true t v d ps) (hok : ∃ a len cap, v = .slice a len cap) : ∃ l : List α, l.length ≤ maxLen ∧ rep w (fun b => b < w.heap.size) (.ro sz (l.map fun x => litL (f x))) v [] := by
  obtain ⟨a0, len, cap, rfl⟩ := hok
  obtain ⟨fuel, hf'⟩ := h
  rcases Deep.open_slice ht hf' with ⟨hcs, _⟩ | ⟨a, l, c, m, n, D, Pl, hcs, _, hl, hm, hmm, _, hx⟩
  · simp [Value.cells] at hcs
    obtain ⟨rfl, rfl, rfl⟩ := hcs
    exact ⟨[], by simp, rep_rows0⟩
  · simp [Value.cells] at hcs
    obtain ⟨rfl, rfl, rfl⟩ := hcs
    simp at hmm
    subst hmm
    rcases Nat.eq_zero_or_pos len with h0 | h0
    · subst h0; exact ⟨[], by simp, rep_rows0⟩
    obtain ⟨g, hg⟩ := Deep.choose_lt (α := α) (n := m) (p := fun i x => ∀ k, k < sz → w.cell? ((a.add (i * sz)).add k) = (f x)[k]?) (fun i hi => by
      obtain ⟨cs', h2, h3⟩ := hx i hi
      obtain ⟨x, rfl⟩ := hel _ _ _ h3
      obtain ⟨_, _, h4⟩ := World.cells?_some h2
      rw [hsz] at h4
      exact ⟨x, h4⟩)
    have hcell0 : w.cell? a = (f (g 0))[0]? := by
      have := hg 0 (by omega) 0 hz
      simpa [Addr.add] using this
    obtain ⟨u0, hu0⟩ : ∃ u, (f (g 0))[0]? = some u := ⟨(f (g 0))[0]'(by rw [hf]; exact hz), by simp⟩
    rw [hu0] at hcell0
    obtain ⟨b, o, sp⟩ := a
    have hsp : sp = none := World.cell?_spot hcell0
    subst hsp
    have hb : b < w.heap.size := block_lt_of_cell hcell0
    refine ⟨(List.range len).map g, by simpa using Nat.le_trans hl hm, ?_⟩
    have := rep_rows (w := w) (S := fun b => b < w.heap.size) (sz := sz) (b := b) (o := o) (cap := m) ((List.range len).map fun i => f (g i)) (by simp [hf]) (by
      intro r hr u hu
      obtain ⟨i, _, rfl⟩ := List.mem_map.1 hr
      exact h1 _ u hu) hb (by
      intro i r hr k v hk
      simp only [List.getElem?_map, Option.map_eq_some_iff] at hr
      obtain ⟨j, hj, rfl⟩ := hr
      have hji := List.getElem?_eq_some_iff.1 hj
      simp at hji
      obtain ⟨hil, rfl⟩ := hji
      have hks : k < sz := by rw [← hf (g i)]; exact (List.getElem?_eq_some_iff.1 hk).1
      have := hg i (by omega) k hks
      rw [hk] at this
      have e : ((⟨b, o, none⟩ : Addr).add (i * sz)).add k = ⟨b, o + i * sz + k, none⟩ := by
        unfold Addr.add
        split <;> split <;> simp_all
      rwa [e] at this) (by simpa using hl)
    simpa [List.map_map, Function.comp_def] using this
end Go.T
