/- Plain facts for FnExactAddPairs; no condition. -/

import Derived.Test.YtihgcgccajikpaaCP
set_option linter.unusedVariables false
namespace Go.Proofs.Ytihgcgccajikpaa
open Go Go.T Go.Sort Go.Proofs

/- the order of pairs -/
def ltP (x y : GPair) : Bool := decide (ordP x y < 0)
theorem ltP_iff (x y : GPair) : ltP x y = true ↔ x.Cell < y.Cell ∨ x.Cell = y.Cell ∧ (x.One < y.One ∨ x.One = y.One ∧ x.Two < y.Two) := by
  have cz : ∀ a b : Int, cmpI a b = 0 ↔ a = b := by
    intro a b; unfold cmpI; split
    · constructor
      · intro h; omega
      · intro h; omega
    · split
      · constructor
        · intro h; omega
        · intro h; omega
      · constructor
        · intro _; omega
        · intro _; rfl
  have cn : ∀ a b : Int, cmpI a b < 0 ↔ a < b := by
    intro a b; unfold cmpI; split
    · constructor
      · intro _; assumption
      · intro _; omega
    · split
      · constructor
        · intro h; omega
        · intro h; omega
      · constructor
        · intro h; omega
        · intro h; omega
  unfold ltP
  rw [decide_eq_true_eq]
  unfold ordP
  split
  · rename_i h
    have h' : ¬ x.Cell = y.Cell := fun e => h ((cz _ _).2 e)
    rw [cn]
    constructor
    · intro h; exact .inl h
    · rintro (h | ⟨h, _⟩)
      · exact h
      · exact absurd h h'
  · rename_i h
    have h1 : x.Cell = y.Cell := (cz _ _).1 (by omega)
    split
    · rename_i h2
      have h' : ¬ x.One = y.One := fun e => h2 ((cz _ _).2 e)
      rw [cn]
      constructor
      · intro h; exact .inr ⟨h1, .inl h⟩
      · rintro (h | ⟨_, h | ⟨h, _⟩⟩)
        · omega
        · exact h
        · exact absurd h h'
    · rename_i h2
      have h3 : x.One = y.One := (cz _ _).1 (by omega)
      rw [cn]
      constructor
      · intro h; exact .inr ⟨h1, .inr ⟨h3, h⟩⟩
      · rintro (h | ⟨_, h | ⟨_, h⟩⟩)
        · omega
        · omega
        · exact h
theorem ltP_irr (x : GPair) : ltP x x = false := by
  cases h : ltP x x
  · rfl
  · rw [ltP_iff] at h; omega
theorem ltP_trans {x y z : GPair} (h1 : ltP x y = true) (h2 : ltP y z = true) : ltP x z = true := by
  rw [ltP_iff] at *; omega
theorem ltP_tot {x y : GPair} (h1 : ltP x y = false) (h2 : ltP y x = false) : x = y := by
  have h1 := fun h => Bool.eq_false_iff.1 h1 ((ltP_iff x y).2 h)
  have h2 := fun h => Bool.eq_false_iff.1 h2 ((ltP_iff y x).2 h)
  obtain ⟨a, b, c⟩ := x
  obtain ⟨d, e, f⟩ := y
  simp only at h1 h2
  have e1 : a = d := by
    rcases Int.lt_trichotomy a d with h | h | h
    · exact absurd (.inl h) h1
    · exact h
    · exact absurd (.inl h) h2
  have e2 : b = e := by
    rcases Int.lt_trichotomy b e with h | h | h
    · exact absurd (.inr ⟨e1, .inl h⟩) h1
    · exact h
    · exact absurd (.inr ⟨e1.symm, .inl h⟩) h2
  have e3 : c = f := by
    rcases Int.lt_trichotomy c f with h | h | h
    · exact absurd (.inr ⟨e1, .inr ⟨e2, h⟩⟩) h1
    · exact h
    · exact absurd (.inr ⟨e1.symm, .inr ⟨e2.symm, h⟩⟩) h2
  rw [e1, e2, e3]
theorem ltP_nn {x y z : GPair} (h1 : ltP x y = false) (h2 : ltP y z = false) : ltP x z = false := by
  cases h : ltP x z
  · rfl
  · cases h3 : ltP y x
    · have := ltP_tot h1 h3; subst this; rw [h] at h2; cases h2
    · have := ltP_trans h3 h; rw [this] at h2; cases h2
theorem cfO_ord : cfO impl_Pair_order = ordP := by
  funext x y
  simp [cfO, impl_order]
theorem ltOf_ord : ltOf (cfO impl_Pair_order) = ltP := by
  rw [cfO_ord]; rfl
theorem ord_ok : OrdO impl_Pair_order := by
  refine ⟨fun x y => by rw [impl_order]; rfl, ?_, ?_⟩
  · rw [ltOf_ord]
    exact ⟨ltP_irr, fun x y z h1 h2 => ltP_trans h1 h2, fun x y z h1 h2 => ltP_nn h1 h2⟩
  · rw [ltOf_ord]
    exact fun x y h1 h2 => ltP_tot h1 h2
theorem strictP_ext : ∀ {a b : List GPair}, a.Pairwise (fun x y => ltP x y = true) → b.Pairwise (fun x y => ltP x y = true) → (∀ x, x ∈ a ↔ x ∈ b) → a = b
  | [], [], _, _, _ => rfl
  | [], y :: b, _, _, h => by have := (h y).2 (by simp); simp at this
  | x :: a, [], _, _, h => by have := (h x).1 (by simp); simp at this
  | x :: a, y :: b, ha, hb, h => by
    rw [List.pairwise_cons] at ha hb
    have no : ∀ {u v : GPair}, ltP u v = true → ltP v u = true → False := fun h1 h2 => by have := ltP_trans h1 h2; rw [ltP_irr] at this; cases this
    have hxy : x = y := by
      rcases List.mem_cons.1 ((h x).1 (by simp)) with e | e
      · exact e
      · rcases List.mem_cons.1 ((h y).2 (by simp)) with e2 | e2
        · exact e2.symm
        · exact (no (ha.1 y e2) (hb.1 x e)).elim
    subst hxy
    congr 1
    refine strictP_ext ha.2 hb.2 fun z => ?_
    constructor
    · intro hz
      rcases List.mem_cons.1 ((h z).1 (List.mem_cons_of_mem _ hz)) with e | e
      · have := ha.1 z hz; rw [e, ltP_irr] at this; cases this
      · exact e
    · intro hz
      rcases List.mem_cons.1 ((h z).2 (List.mem_cons_of_mem _ hz)) with e | e
      · have := hb.1 z hz; rw [e, ltP_irr] at this; cases this
      · exact e
/- sorted, each once -/
def srtP (p : List GPair) : List GPair := p.mergeSort fun x y => !(ltP y x)
theorem srtP_le (p : List GPair) : (srtP p).Pairwise (fun x y => ltP y x = false) := by
  have := List.pairwise_mergeSort (le := fun x y : GPair => !(ltP y x)) (by
    intro a b c h1 h2
    simp only [Bool.not_eq_true'] at *
    exact ltP_nn h2 h1) (by
    intro a b
    simp only [Bool.or_eq_true, Bool.not_eq_true']
    cases h : ltP b a
    · exact .inl rfl
    · right
      cases h2 : ltP a b
      · rfl
      · have := ltP_trans h h2; rw [ltP_irr] at this; cases this) p
  exact this.imp (by intro a b h; simpa using h)
theorem srtP_mono (p : List GPair) : ∀ i j, i ≤ j → j < (srtP p).length → ltP (gP (srtP p) j) (gP (srtP p) i) = false := by
  intro i j h1 h2
  have hi : i < (srtP p).length := by omega
  rcases Nat.lt_or_ge i j with h | h
  · have := List.pairwise_iff_getElem.1 (srtP_le p) i j hi h2 h
    rw [gP_elem hi, gP_elem h2]; exact this
  · have : i = j := by omega
    subst this; exact ltP_irr _
theorem ddP_sorted {s : List GPair} (hs : ∀ i j, i ≤ j → j < s.length → ltP (gP s j) (gP s i) = false) : ∀ q, q ≤ s.length → (ddP s q).Pairwise (fun x y => ltP x y = true)
  | 0, h => by simp [ddP]
  | q + 1, h => by
    rw [ddP, List.pairwise_append]
    refine ⟨ddP_sorted hs q (by omega), by split <;> simp, ?_⟩
    intro x hx y hy
    split at hy
    · rename_i hc
      simp at hy
      subst hy
      obtain ⟨j, h1, h2⟩ := (ddP_mem q (by omega)).1 hx
      have h3 := hs j (q - 1) (by omega) (by omega)
      have h4 := hs (q - 1) q (by omega) (by omega)
      have h5 := ltP_nn h4 h3
      rw [h2] at h5 h3
      cases h6 : ltP x (gP s q)
      · have e1 := ltP_tot h6 h5
        rw [← e1] at h4
        have e2 := ltP_tot h4 h3
        rcases hc with hc | hc
        · omega
        · exact absurd (e1.symm.trans e2) hc
      · rfl
    · simp at hy
def setP (p : List GPair) : List GPair := ddP (srtP p) (srtP p).length
theorem setP_sorted (p : List GPair) : (setP p).Pairwise (fun x y => ltP x y = true) := ddP_sorted (srtP_mono p) _ (Nat.le_refl _)
theorem setP_mem {p : List GPair} {x : GPair} : x ∈ setP p ↔ x ∈ p := by
  unfold setP
  rw [ddP_mem _ (Nat.le_refl _)]
  have : x ∈ srtP p ↔ x ∈ p := by unfold srtP; exact List.mem_mergeSort
  rw [← this, List.mem_iff_getElem]
  constructor
  · rintro ⟨j, h1, h2⟩; exact ⟨j, h1, by rw [← gP_elem h1]; exact h2⟩
  · rintro ⟨j, h1, h2⟩; exact ⟨j, h1, by rw [gP_elem h1]; exact h2⟩
theorem pairs_eq {p : List GPair} (hp : p.length < 1099511627776) : impl_pairs p = some (setP p) := by
  have hl : (srtP p).length = p.length := by unfold srtP; exact List.length_mergeSort _
  have hs : slices_SortFunc_Pair_Pair__impl_Pair_order p = some ((), srtP p) := by
    rw [slices_SortFunc_Pair_Pair__impl_Pair_order, srtK, if_pos ⟨by omega, ord_ok⟩, ltOf_ord]; rfl
  rw [impl_pairs, hs, Option.bind_some]
  simp only [sameLen_ok hl, Option.bind_some, compactP_eq (s := srtP p) (by rw [hl]; exact hp)]
  rfl
theorem concat_eq {a b : List GPair} (ha : a.length ≤ 1048576) (hb : b.length ≤ 1048576) : slices_Concat_Pair_Pair [a, b] = some (a ++ b) := by
  rw [slices_Concat_Pair_Pair]
  obtain ⟨n, hn⟩ : ∃ n, FU = n + 4 := ⟨FU - 4, by have := FU_gt (n := 4) (by omega); omega⟩
  have r0 : rd [a, b] 0 = some a := rfl
  have r1 : rd [a, b] 1 = some b := rfl
  have w1 : w64 (0 + 1) = 1 := by decide
  have w2 : w64 (1 + 1) = 2 := by decide
  have z1 : w64 (0 + (a.length : Int)) = (a.length : Int) := by rw [Int.zero_add, w64_id (by omega)]
  have z2 : w64 ((a.length : Int) + (b.length : Int)) = ((a.length + b.length : Nat) : Int) := by rw [w64_id (by omega)]; omega
  have d0 : decide ((0 : Int) < (([a, b] : List (List GPair)).length : Int)) = true := by simp
  have d1 : decide ((1 : Int) < (([a, b] : List (List GPair)).length : Int)) = true := by simp
  have d2 : decide ((2 : Int) < (([a, b] : List (List GPair)).length : Int)) = false := by simp
  have n1 : decide ((a.length : Int) < 0) = false := by simp
  have n2 : decide (((a.length + b.length : Nat) : Int) < 0) = false := by simp; omega
  have hg : slices_Grow_Pair_Pair ((a.length + b.length : Nat) : Int) = some [] := by
    rw [slices_Grow_Pair_Pair, growK, if_pos (by omega)]
  have a1 : app ([] : List GPair) a = some a := by rw [app_ok (by simp; omega)]; rfl
  have a2 : app a b = some (a ++ b) := app_ok (by omega)
  rw [hn]
  rw [slices_Concat_Pair_Pair_l0, d0]
  simp only [if_true, r0, Option.bind_some, z1, n1, Bool.false_eq_true, if_false, w1]
  rw [slices_Concat_Pair_Pair_l0, d1]
  simp only [if_true, r1, Option.bind_some, z2, n2, Bool.false_eq_true, if_false, w2]
  rw [slices_Concat_Pair_Pair_l0, d2]
  simp only [Bool.false_eq_true, if_false, hg, Option.bind_some, hn]
  rw [slices_Concat_Pair_Pair_l1, d0]
  simp only [if_true, r0, Option.bind_some, a1, w1]
  rw [slices_Concat_Pair_Pair_l1, d1]
  simp only [if_true, r1, Option.bind_some, a2, w2]
  rw [slices_Concat_Pair_Pair_l1, d2]
  simp only [Bool.false_eq_true, if_false]
end Go.Proofs.Ytihgcgccajikpaa
