/- Lemmas for FnExactAddPairs; no condition. -/

import Derived.Test.YtihgcgccajikpaaTA
set_option linter.unusedVariables false
namespace Go.T
open Go Go.RowKit

/- with references into what the call owns -/
def SubHd (h : Value) (sz off len : Nat) (u : Value) : Prop :=
  ∃ A cap, u = .slice A len cap ∧ len ≤ cap ∧ (off = 0 → ∃ m, h = .slice A m cap) ∧ (0 < len → ∃ b m c, h = .slice (some ⟨b, 0, none⟩) m c ∧ A = some ⟨b, off * sz, none⟩)

/-- how many elements a slice has room for -/
def sCap : Value → Nat
  | .slice _ _ c => c
  | _ => 0
abbrev Tab := Nat → Option (Value × Nat × Nat)

mutual
def repR (w : World) (S : Nat → Prop) (U : Nat → Prop) (ρ : Tab) : AV → Value → List Nat → Prop
  | .sl id off len, u, fp => fp = [] ∧ U id ∧ ∀ h n sz, ρ id = some (h, n, sz) → off + len ≤ n ∧ SubHd h sz off len u ∧ n ≤ off + sCap u
  | .ptr id e o, u, fp => fp = [] ∧ U id ∧ ∀ h n sz, ρ id = some (h, n, sz) → e < n ∧ ∃ b m c, h = .slice (some ⟨b, 0, none⟩) m c ∧ u = .pointer (some ⟨b, e * sz + o, none⟩)
  | .agg cs, u, fp => ∃ vs, u = .agg vs.toArray ∧ repRL w S U ρ cs vs fp
  | .tup cs, u, fp => ∃ vs, u = .tuple vs.toArray ∧ repRL w S U ρ cs vs fp
  | .fn g caps, u, fp => ∃ vs, u = .func (.func g) #[] vs.toArray ∧ repRL w S U ρ caps vs fp
  | .dead, u, fp => rep w S .dead u fp
  | .lit v, u, fp => rep w S (.lit v) u fp
  | .ro sz xs, u, fp => rep w S (.ro sz xs) u fp
  | .own T sz xs, u, fp => rep w S (.own T sz xs) u fp
  | .rop cs o, u, fp => rep w S (.rop cs o) u fp
def repRL (w : World) (S : Nat → Prop) (U : Nat → Prop) (ρ : Tab) : List AV → List Value → List Nat → Prop
  | [], vs, fp => vs = [] ∧ fp = []
  | c :: cs, vs, fp => ∃ u us f1 f2, vs = u :: us ∧ fp = f1 ++ f2 ∧ repR w S U ρ c u f1 ∧ repRL w S U ρ cs us f2
end
def repRLL (w : World) (S : Nat → Prop) (U : Nat → Prop) (ρ : Tab) (sz : Nat) : List (List AV) → List Value → List Nat → Prop
  | [], vs, fp => vs = [] ∧ fp = []
  | x :: xs, vs, fp => ∃ us us' f1 f2, vs = us ++ us' ∧ fp = f1 ++ f2 ∧ us.length = sz ∧ (∀ u ∈ us, u.oneCell' = true) ∧ repRL w S U ρ x us f1 ∧ repRLL w S U ρ sz xs us' f2

mutual
theorem repR_mono {w w2 : World} {S S2 U U2 : Nat → Prop} {ρ ρ2 : Tab} : ∀ (a : AV) (u : Value) (fp : List Nat), repR w S U ρ a u fp → (∀ b, S b → S2 b) → (∀ b, S b → w2.heap[b]? = w.heap[b]?) → (∀ b ∈ fp, w2.heap[b]? = w.heap[b]?) →
    (∀ i, U i → U2 i) → (∀ i, U i → ∀ x, ρ2 i = some x → ρ i = some x) → repR w2 S2 U2 ρ2 a u fp
  | .sl id off len, u, fp, h, _, _, _, hU, hρ => by
    simp only [repR] at h ⊢
    exact ⟨h.1, hU _ h.2.1, fun a b c hh => h.2.2 a b c (hρ _ h.2.1 _ hh)⟩
  | .ptr id e o, u, fp, h, _, _, _, hU, hρ => by
    simp only [repR] at h ⊢
    exact ⟨h.1, hU _ h.2.1, fun a b c hh => h.2.2 a b c (hρ _ h.2.1 _ hh)⟩
  | .agg cs, u, fp, h, hs, hS, hf, hU, hρ => by
    simp only [repR] at h ⊢
    obtain ⟨vs, hu, hr⟩ := h
    exact ⟨vs, hu, repRL_mono cs vs fp hr hs hS hf hU hρ⟩
  | .tup cs, u, fp, h, hs, hS, hf, hU, hρ => by
    simp only [repR] at h ⊢
    obtain ⟨vs, hu, hr⟩ := h
    exact ⟨vs, hu, repRL_mono cs vs fp hr hs hS hf hU hρ⟩
  | .fn g cs, u, fp, h, hs, hS, hf, hU, hρ => by
    simp only [repR] at h ⊢
    obtain ⟨vs, hu, hr⟩ := h
    exact ⟨vs, hu, repRL_mono cs vs fp hr hs hS hf hU hρ⟩
  | .dead, u, fp, h, hs, hS, hf, _, _ => by simp only [repR] at h ⊢; exact rep_frame _ u fp h hs hS hf
  | .lit _, u, fp, h, hs, hS, hf, _, _ => by simp only [repR] at h ⊢; exact rep_frame _ u fp h hs hS hf
  | .ro _ _, u, fp, h, hs, hS, hf, _, _ => by simp only [repR] at h ⊢; exact rep_frame _ u fp h hs hS hf
  | .own _ _ _, u, fp, h, hs, hS, hf, _, _ => by simp only [repR] at h ⊢; exact rep_frame _ u fp h hs hS hf
  | .rop _ _, u, fp, h, hs, hS, hf, _, _ => by simp only [repR] at h ⊢; exact rep_frame _ u fp h hs hS hf
theorem repRL_mono {w w2 : World} {S S2 U U2 : Nat → Prop} {ρ ρ2 : Tab} : ∀ (cs : List AV) (vs : List Value) (fp : List Nat), repRL w S U ρ cs vs fp → (∀ b, S b → S2 b) → (∀ b, S b → w2.heap[b]? = w.heap[b]?) → (∀ b ∈ fp, w2.heap[b]? = w.heap[b]?) →
    (∀ i, U i → U2 i) → (∀ i, U i → ∀ x, ρ2 i = some x → ρ i = some x) → repRL w2 S2 U2 ρ2 cs vs fp
  | [], _, _, h, _, _, _, _, _ => by simpa only [repRL] using h
  | c :: cs, vs, fp, h, hs, hS, hf, hU, hρ => by
    simp only [repRL] at h ⊢
    obtain ⟨u, us, f1, f2, hv, rfl, h1, h2⟩ := h
    exact ⟨u, us, f1, f2, hv, rfl, repR_mono c u f1 h1 hs hS (fun b hb => hf b (by simp [hb])) hU hρ, repRL_mono cs us f2 h2 hs hS (fun b hb => hf b (by simp [hb])) hU hρ⟩
end
theorem repRLL_mono {w w2 : World} {S S2 U U2 : Nat → Prop} {ρ ρ2 : Tab} {sz : Nat} (hs : ∀ b, S b → S2 b) (hS : ∀ b, S b → w2.heap[b]? = w.heap[b]?)
    (hU : ∀ i, U i → U2 i) (hρ : ∀ i, U i → ∀ x, ρ2 i = some x → ρ i = some x) : ∀ (xs : List (List AV)) (vs : List Value) (fp : List Nat), repRLL w S U ρ sz xs vs fp → (∀ b ∈ fp, w2.heap[b]? = w.heap[b]?) → repRLL w2 S2 U2 ρ2 sz xs vs fp
  | [], _, _, h, _ => by simpa only [repRLL] using h
  | x :: xs, vs, fp, h, hf => by
    simp only [repRLL] at h ⊢
    obtain ⟨us, us', f1, f2, hv, rfl, hl, h1c, h1, h2⟩ := h
    exact ⟨us, us', f1, f2, hv, rfl, hl, h1c, repRL_mono x us f1 h1 hs hS (fun b hb => hf b (by simp [hb])) hU hρ, repRLL_mono hs hS hU hρ xs us' f2 h2 (fun b hb => hf b (by simp [hb]))⟩

mutual
theorem repR_of {w : World} {S U : Nat → Prop} {ρ : Tab} : ∀ (a : AV) (u : Value) (fp : List Nat), rep w S a u fp → repR w S U ρ a u fp
  | .sl _ _ _, _, _, h => by simp only [rep] at h
  | .ptr _ _ _, _, _, h => by simp only [rep] at h
  | .agg cs, u, fp, h => by
    simp only [rep] at h; simp only [repR]
    obtain ⟨vs, hu, hr⟩ := h
    exact ⟨vs, hu, repRL_of cs vs fp hr⟩
  | .tup cs, u, fp, h => by
    simp only [rep] at h; simp only [repR]
    obtain ⟨vs, hu, hr⟩ := h
    exact ⟨vs, hu, repRL_of cs vs fp hr⟩
  | .fn g cs, u, fp, h => by
    simp only [rep] at h; simp only [repR]
    obtain ⟨vs, hu, hr⟩ := h
    exact ⟨vs, hu, repRL_of cs vs fp hr⟩
  | .dead, u, fp, h => by simpa only [repR] using h
  | .lit _, u, fp, h => by simpa only [repR] using h
  | .ro _ _, u, fp, h => by simpa only [repR] using h
  | .own _ _ _, u, fp, h => by simpa only [repR] using h
  | .rop _ _, u, fp, h => by simpa only [repR] using h
theorem repRL_of {w : World} {S U : Nat → Prop} {ρ : Tab} : ∀ (cs : List AV) (vs : List Value) (fp : List Nat), repL w S cs vs fp → repRL w S U ρ cs vs fp
  | [], _, _, h => by simpa only [repL, repRL] using h
  | c :: cs, vs, fp, h => by
    simp only [repL] at h; simp only [repRL]
    obtain ⟨u, us, f1, f2, hv, hf, h1, h2⟩ := h
    exact ⟨u, us, f1, f2, hv, hf, repR_of c u f1 h1, repRL_of cs us f2 h2⟩
end
theorem repRLL_of {w : World} {S U : Nat → Prop} {ρ : Tab} {sz : Nat} : ∀ (xs : List (List AV)) (vs : List Value) (fp : List Nat), repLL w S sz xs vs fp → repRLL w S U ρ sz xs vs fp
  | [], _, _, h => by simpa only [repLL, repRLL] using h
  | x :: xs, vs, fp, h => by
    simp only [repLL] at h; simp only [repRLL]
    obtain ⟨us, us', f1, f2, hv, hf, hl, h1c, h1, h2⟩ := h
    exact ⟨us, us', f1, f2, hv, hf, hl, h1c, repRL_of x us f1 h1, repRLL_of xs us' f2 h2⟩

mutual
theorem repR_lt {w : World} {S U : Nat → Prop} {ρ : Tab} : ∀ (a : AV) (u : Value) (fp : List Nat), repR w S U ρ a u fp → ∀ b ∈ fp, b < w.heap.size
  | .sl _ _ _, _, _, h => by simp only [repR] at h; simp [h.1]
  | .ptr _ _ _, _, _, h => by simp only [repR] at h; simp [h.1]
  | .agg cs, u, fp, h => by simp only [repR] at h; obtain ⟨vs, _, hr⟩ := h; exact repRL_lt cs vs fp hr
  | .tup cs, u, fp, h => by simp only [repR] at h; obtain ⟨vs, _, hr⟩ := h; exact repRL_lt cs vs fp hr
  | .fn _ cs, u, fp, h => by simp only [repR] at h; obtain ⟨vs, _, hr⟩ := h; exact repRL_lt cs vs fp hr
  | .dead, u, fp, h => by simp only [repR] at h; exact rep_lt _ _ _ h
  | .lit _, u, fp, h => by simp only [repR] at h; exact rep_lt _ _ _ h
  | .ro _ _, u, fp, h => by simp only [repR] at h; exact rep_lt _ _ _ h
  | .own _ _ _, u, fp, h => by simp only [repR] at h; exact rep_lt _ _ _ h
  | .rop _ _, u, fp, h => by simp only [repR] at h; exact rep_lt _ _ _ h
theorem repRL_lt {w : World} {S U : Nat → Prop} {ρ : Tab} : ∀ (cs : List AV) (vs : List Value) (fp : List Nat), repRL w S U ρ cs vs fp → ∀ b ∈ fp, b < w.heap.size
  | [], _, _, h => by simp only [repRL] at h; simp [h.2]
  | c :: cs, vs, fp, h => by
    simp only [repRL] at h
    obtain ⟨u, us, f1, f2, _, rfl, h1, h2⟩ := h
    intro b hb
    rcases List.mem_append.1 hb with hb | hb
    · exact repR_lt c u f1 h1 b hb
    · exact repRL_lt cs us f2 h2 b hb
end
theorem repRLL_lt {w : World} {S U : Nat → Prop} {ρ : Tab} {sz : Nat} : ∀ (xs : List (List AV)) (vs : List Value) (fp : List Nat), repRLL w S U ρ sz xs vs fp → ∀ b ∈ fp, b < w.heap.size
  | [], _, _, h => by simp only [repRLL] at h; simp [h.2]
  | x :: xs, vs, fp, h => by
    simp only [repRLL] at h
    obtain ⟨us, us', f1, f2, _, rfl, _, _, h1, h2⟩ := h
    intro b hb
    rcases List.mem_append.1 hb with hb | hb
    · exact repRL_lt x us f1 h1 b hb
    · exact repRLL_lt xs us' f2 h2 b hb

theorem repRL_length {w : World} {S U : Nat → Prop} {ρ : Tab} : ∀ (cs : List AV) (vs : List Value) (fp : List Nat), repRL w S U ρ cs vs fp → vs.length = cs.length
  | [], _, _, h => by simp only [repRL] at h; simp [h.1]
  | c :: cs, vs, fp, h => by
    simp only [repRL] at h
    obtain ⟨u, us, f1, f2, rfl, _, _, h2⟩ := h
    simp [repRL_length cs us f2 h2]

theorem repRL_append {w : World} {S U : Nat → Prop} {ρ : Tab} : ∀ (cs ds : List AV) (vs us : List Value) (f g : List Nat), repRL w S U ρ cs vs f → repRL w S U ρ ds us g → repRL w S U ρ (cs ++ ds) (vs ++ us) (f ++ g)
  | [], ds, vs, us, f, g, h, h' => by simp only [repRL] at h; obtain ⟨rfl, rfl⟩ := h; simpa using h'
  | c :: cs, ds, vs, us, f, g, h, h' => by
    simp only [repRL] at h
    obtain ⟨u, us', f1, f2, rfl, rfl, h1, h2⟩ := h
    simp only [List.cons_append, repRL]
    exact ⟨u, us' ++ us, f1, f2 ++ g, rfl, by simp, h1, repRL_append cs ds us' us f2 g h2 h'⟩
theorem repRL_split {w : World} {S U : Nat → Prop} {ρ : Tab} : ∀ (cs ds : List AV) (vs : List Value) (f : List Nat), repRL w S U ρ (cs ++ ds) vs f → ∃ v1 v2 f1 f2, vs = v1 ++ v2 ∧ f = f1 ++ f2 ∧ repRL w S U ρ cs v1 f1 ∧ repRL w S U ρ ds v2 f2
  | [], ds, vs, f, h => ⟨[], vs, [], f, rfl, rfl, by simp [repRL], h⟩
  | c :: cs, ds, vs, f, h => by
    simp only [List.cons_append, repRL] at h
    obtain ⟨u, us, f1, f2, rfl, rfl, h1, h2⟩ := h
    obtain ⟨v1, v2, g1, g2, rfl, rfl, k1, k2⟩ := repRL_split cs ds us f2 h2
    refine ⟨u :: v1, v2, f1 ++ g1, g2, rfl, by simp, ?_, k2⟩
    simp only [repRL]
    exact ⟨u, v1, f1, g1, rfl, rfl, h1, k1⟩
theorem repRLL_append {w : World} {S U : Nat → Prop} {ρ : Tab} {sz : Nat} : ∀ (xs ys : List (List AV)) (vs us : List Value) (f g : List Nat), repRLL w S U ρ sz xs vs f → repRLL w S U ρ sz ys us g → repRLL w S U ρ sz (xs ++ ys) (vs ++ us) (f ++ g)
  | [], ds, vs, us, f, g, h, h' => by simp only [repRLL] at h; obtain ⟨rfl, rfl⟩ := h; simpa using h'
  | x :: xs, ys, vs, us, f, g, h, h' => by
    simp only [repRLL] at h
    obtain ⟨u1, u2, f1, f2, rfl, rfl, hl, h1c, h1, h2⟩ := h
    simp only [List.cons_append, repRLL]
    exact ⟨u1, u2 ++ us, f1, f2 ++ g, by simp, by simp, hl, h1c, h1, repRLL_append xs ys u2 us f2 g h2 h'⟩
theorem repRLL_split {w : World} {S U : Nat → Prop} {ρ : Tab} {sz : Nat} : ∀ (xs ys : List (List AV)) (vs : List Value) (f : List Nat), repRLL w S U ρ sz (xs ++ ys) vs f → ∃ v1 v2 f1 f2, vs = v1 ++ v2 ∧ f = f1 ++ f2 ∧ v1.length = xs.length * sz ∧ repRLL w S U ρ sz xs v1 f1 ∧ repRLL w S U ρ sz ys v2 f2
  | [], ys, vs, f, h => ⟨[], vs, [], f, rfl, rfl, by simp, by simp [repRLL], h⟩
  | x :: xs, ys, vs, f, h => by
    simp only [List.cons_append, repRLL] at h
    obtain ⟨u1, u2, f1, f2, rfl, rfl, hl, h1c, h1, h2⟩ := h
    obtain ⟨v1, v2, g1, g2, rfl, rfl, hl2, k1, k2⟩ := repRLL_split xs ys u2 f2 h2
    refine ⟨u1 ++ v1, v2, f1 ++ g1, g2, by simp, by simp, by simp [hl, hl2, Nat.add_mul, Nat.add_comm], ?_, k2⟩
    simp only [repRLL]
    exact ⟨u1, v1, f1, g1, rfl, rfl, hl, h1c, h1, k1⟩
theorem repRLL_oneCell {w : World} {S U : Nat → Prop} {ρ : Tab} {sz : Nat} : ∀ (xs : List (List AV)) (vs : List Value) (f : List Nat), repRLL w S U ρ sz xs vs f → ∀ u ∈ vs, u.oneCell' = true
  | [], vs, f, h => by simp only [repRLL] at h; simp [h.1]
  | x :: xs, vs, f, h => by
    simp only [repRLL] at h
    obtain ⟨u1, u2, f1, f2, rfl, rfl, hl, h1c, h1, h2⟩ := h
    intro u hu
    rcases List.mem_append.1 hu with hu | hu
    · exact h1c u hu
    · exact repRLL_oneCell xs u2 f2 h2 u hu
theorem repRLL_length {w : World} {S U : Nat → Prop} {ρ : Tab} {sz : Nat} : ∀ (xs : List (List AV)) (vs : List Value) (f : List Nat), repRLL w S U ρ sz xs vs f → vs.length = xs.length * sz
  | [], vs, f, h => by simp only [repRLL] at h; simp [h.1]
  | x :: xs, vs, f, h => by
    simp only [repRLL] at h
    obtain ⟨u1, u2, f1, f2, rfl, rfl, hl, _, _, h2⟩ := h
    simp [hl, repRLL_length xs u2 f2 h2, Nat.add_mul, Nat.add_comm]

/-- one element in the middle -/
theorem repRLL_at {w : World} {S U : Nat → Prop} {ρ : Tab} {sz : Nat} {xs : List (List AV)} {vs : List Value} {f : List Nat} (h : repRLL w S U ρ sz xs vs f) {e : Nat} {x : List AV} (he : xs[e]? = some x) :
    ∃ v1 us v2 f1 fe f2, vs = v1 ++ us ++ v2 ∧ f = f1 ++ fe ++ f2 ∧ v1.length = e * sz ∧ us.length = sz ∧ (∀ u ∈ us, u.oneCell' = true) ∧ repRLL w S U ρ sz (xs.take e) v1 f1 ∧ repRL w S U ρ x us fe ∧ repRLL w S U ρ sz (xs.drop (e + 1)) v2 f2 := by
  have hlt : e < xs.length := (List.getElem?_eq_some_iff.1 he).1
  have hx : xs = xs.take e ++ (x :: xs.drop (e + 1)) := by
    have := List.getElem?_eq_some_iff.1 he
    rw [← this.2, List.getElem_cons_drop, List.take_append_drop]
  rw [hx] at h
  obtain ⟨v1, v2, f1, f2, rfl, rfl, hl, h1, h2⟩ := repRLL_split _ _ _ _ h
  simp only [repRLL] at h2
  obtain ⟨us, us', g1, g2, rfl, rfl, hl2, h1c, k1, k2⟩ := h2
  refine ⟨v1, us, us', f1, g1, g2, by simp, by simp, ?_, hl2, h1c, h1, k1, k2⟩
  rw [hl, List.length_take, Nat.min_eq_left (Nat.le_of_lt hlt)]
theorem repRLL_set {w : World} {S U : Nat → Prop} {ρ : Tab} {sz : Nat} {xs : List (List AV)} {v1 us v2 : List Value} {f1 fe f2 : List Nat} {e : Nat} {x : List AV} (he : e < xs.length)
    (h1 : repRLL w S U ρ sz (xs.take e) v1 f1) (hl : us.length = sz) (h1c : ∀ u ∈ us, u.oneCell' = true) (hx : repRL w S U ρ x us fe) (h2 : repRLL w S U ρ sz (xs.drop (e + 1)) v2 f2) :
    repRLL w S U ρ sz (xs.set e x) (v1 ++ us ++ v2) (f1 ++ fe ++ f2) := by
  have hs : xs.set e x = xs.take e ++ (x :: xs.drop (e + 1)) := by rw [List.set_eq_take_append_cons_drop, if_pos he]
  rw [hs, List.append_assoc, List.append_assoc]
  refine repRLL_append _ _ _ _ _ _ h1 ?_
  simp only [repRLL]
  exact ⟨us, v2, fe, f2, rfl, rfl, hl, h1c, hx, h2⟩
theorem repRL_at {w : World} {S U : Nat → Prop} {ρ : Tab} {x : List AV} {us : List Value} {f : List Nat} (h : repRL w S U ρ x us f) {o : Nat} {c : AV} (ho : x[o]? = some c) :
    ∃ v1 u v2 f1 fc f2, us = v1 ++ u :: v2 ∧ f = f1 ++ fc ++ f2 ∧ v1.length = o ∧ repRL w S U ρ (x.take o) v1 f1 ∧ repR w S U ρ c u fc ∧ repRL w S U ρ (x.drop (o + 1)) v2 f2 := by
  have hlt : o < x.length := (List.getElem?_eq_some_iff.1 ho).1
  have hx : x = x.take o ++ (c :: x.drop (o + 1)) := by
    have := List.getElem?_eq_some_iff.1 ho
    rw [← this.2, List.getElem_cons_drop, List.take_append_drop]
  rw [hx] at h
  obtain ⟨v1, v2, f1, f2, rfl, rfl, h1, h2⟩ := repRL_split _ _ _ _ h
  simp only [repRL] at h2
  obtain ⟨u, us', g1, g2, rfl, rfl, k1, k2⟩ := h2
  refine ⟨v1, u, us', f1, g1, g2, rfl, by simp, ?_, h1, k1, k2⟩
  rw [repRL_length _ _ _ h1, List.length_take, Nat.min_eq_left (Nat.le_of_lt hlt)]
theorem repRL_set {w : World} {S U : Nat → Prop} {ρ : Tab} {x : List AV} {v1 v2 : List Value} {u : Value} {f1 fc f2 : List Nat} {o : Nat} {c : AV} (ho : o < x.length)
    (h1 : repRL w S U ρ (x.take o) v1 f1) (hc : repR w S U ρ c u fc) (h2 : repRL w S U ρ (x.drop (o + 1)) v2 f2) :
    repRL w S U ρ (x.set o c) (v1 ++ u :: v2) (f1 ++ fc ++ f2) := by
  have hs : x.set o c = x.take o ++ (c :: x.drop (o + 1)) := by rw [List.set_eq_take_append_cons_drop, if_pos ho]
  rw [hs, List.append_assoc]
  refine repRL_append _ _ _ _ _ _ h1 ?_
  simp only [repRL]
  exact ⟨u, v2, fc, f2, rfl, rfl, hc, h2⟩
end Go.T
