/- Plain facts for FnExactWarnsGuarded; no condition. -/

import Derived.Test.YtihgcgccajikpaaH1
set_option linter.unusedVariables false
namespace Go.Proofs.Ytihgcgccajikpaa
open Go Go.T

theorem heldF_succ {T : Int} {p : List GEvent} {i : Nat} (hi : i < p.length) : heldF T (p.take (i + 1)) = stp T (heldF T (p.take i)) (evAt p i) := by
  unfold heldF
  rw [List.take_add_one, List.getElem?_eq_getElem hi, Option.toList_some, List.foldl_append]
  have : p[i] = evAt p i := by simp [evAt, hi]
  rw [this]; rfl
theorem before_l0 {p : List GEvent} {i k : Nat} {r3 : List Int} (hp : p.length < 1000000) (hg : p.all goodE = true) (hi : i < p.length) : ∀ (n j : Nat), j ≤ i → i < n + j →
    spec_l8Before_l0 p i r3 (k : Int) n (heldF (evAt p i).Thread (p.take j) k) j = if heldF (evAt p i).Thread (p.take i) k = true then some r3 else spec_l7Drop r3 k
  | 0, j, h1, h2 => by omega
  | n + 1, j, h1, h2 => by
    rw [spec_l8Before_l0]
    by_cases hj : j < i
    · have next := before_l0 (r3 := r3) (k := k) hp hg hi n (j + 1) hj (by omega)
      rw [heldF_succ (by omega)] at next
      simp only [PS, hj, evAt_rd (show j < p.length by omega), evAt_rd hi, w64_s (k := j) (by omega), spec_takes]
      by_cases ht : (evAt p j).Thread = (evAt p i).Thread
      · have ht' : ((evAt p j).Thread != (evAt p i).Thread) = false := by simp [ht]
        rw [stp_same ht] at next
        have second : ∀ b : Bool, spec_l8Before_j1 (spec_l8Before_l0 p i r3 (k : Int) n) p i r3 k j b = spec_l8Before_l0 p i r3 (k : Int) n (if (k : Int) = givesB (evAt p j) then false else b) ((j + 1 : Nat) : Int) := by
          intro b
          rw [spec_l8Before_j1]
          simp only [PS, evAt_rd (show j < p.length by omega), spec_gives, w64_s (k := j) (by omega)]
          by_cases hgv : givesB (evAt p j) = (k : Int)
          · have e5 : (givesB (evAt p j) == (k : Int)) = true := by simp [hgv]
            rw [if_pos e5, if_pos hgv.symm]
          · have e5 : ¬ (givesB (evAt p j) == (k : Int)) = true := by simp [hgv]
            rw [if_neg e5, if_neg (fun h => hgv h.symm)]
        simp only [PS, ht']
        by_cases htk : takesB (evAt p j) = (k : Int)
        · have e5 : (takesB (evAt p j) == (k : Int)) = true := by simp [htk]
          rw [if_pos e5, second true]
          rw [htk] at next
          simpa using next
        · have e5 : ¬ (takesB (evAt p j) == (k : Int)) = true := by simp [htk]
          rw [if_neg e5, second _]
          have e6 : ¬ (k : Int) = takesB (evAt p j) := fun h => htk h.symm
          simp only [e6, if_false] at next
          exact next
      · have ht' : ((evAt p j).Thread != (evAt p i).Thread) = true := by simp [ht]
        rw [stp_ne ht] at next
        simp only [PS, ht']
        exact next
    · have : j = i := by omega
      subst this
      simp only [PS, Nat.lt_irrefl]
      cases heldF (evAt p j).Thread (p.take j) k <;> simp
theorem spec_before {p : List GEvent} {i : Nat} (hp : p.length < 1000000) (hg : p.all goodE = true) (hi : i < p.length) (hk : 0 ≤ takesB (evAt p i)) : spec_l8Before p i = some (locks (heldF (evAt p i).Thread (p.take i))) := by
  rw [spec_l8Before, spec_held hp hg hi]
  simp only [PS, evAt_rd hi, spec_takes]
  have e5 : decide (takesB (evAt p i) ≥ 0) = true := by simpa using hk
  rw [if_pos e5]
  rcases takes_range (evAt_good hg hi) with hr | ⟨h0, h9, hgv⟩
  · omega
  obtain ⟨k, hkk⟩ : ∃ k : Nat, takesB (evAt p i) = (k : Int) := ⟨(takesB (evAt p i)).toNat, by omega⟩
  have h1 := before_l0 (k := k) (r3 := locks (heldF (evAt p i).Thread (p.take (i + 1)))) hp hg hi FU 0 (by omega) (by have := FU_gt (n := i) (by omega); omega)
  have e0 : heldF (evAt p i).Thread (p.take 0) k = false := rfl
  rw [e0] at h1
  rw [hkk, show (0 : Int) = ((0 : Nat) : Int) from rfl, h1]
  have hs : heldF (evAt p i).Thread (p.take (i + 1)) = fun j : Nat => if (j : Int) = (k : Int) then true else heldF (evAt p i).Thread (p.take i) j := by
    rw [heldF_succ hi, stp_same rfl, hkk, hgv]
    funext j
    rw [if_neg (by omega)]
  by_cases hh : heldF (evAt p i).Thread (p.take i) k = true
  · rw [if_pos hh, hs]
    congr 2
    funext j
    by_cases hj : j = k
    · subst hj; simp [hh]
    · rw [if_neg (by omega)]
  · rw [if_neg hh, hs, locks_drop (by omega)]
    congr 2
    funext j
    by_cases hj : j = k
    · subst hj; simp [hh]
    · rw [if_neg (by omega), if_neg (by omega)]
/-- what a place that takes a lock tells -/
def undAt (p : List GEvent) (i : Nat) : List GUnder := if 0 ≤ takesB (evAt p i) then (locks (heldF (evAt p i).Thread (p.take i))).map (fun h => ⟨h, takesB (evAt p i), (evAt p i).Thread, (i : Int)⟩) else []
def undF (p : List GEvent) (m : Nat) : List GUnder := (List.range m).flatMap (undAt p)
theorem undF_succ (p : List GEvent) (m : Nat) : undF p (m + 1) = undF p m ++ undAt p m := by
  unfold undF; rw [List.range_succ, List.flatMap_append]; simp
theorem undF_len (p : List GEvent) : ∀ m, (undF p m).length ≤ 100 * m
  | 0 => by simp [undF]
  | m + 1 => by
    rw [undF_succ, List.length_append]
    have := undF_len p m
    have : (undAt p m).length ≤ 100 := by
      unfold undAt
      split
      · rw [List.length_map]; exact locks_len _
      · simp
    omega
theorem spec_und_l1 {p : List GEvent} {K : List GUnder → Int → Option (List GUnder)} {i : Nat} {k : Int} {e : GEvent} {r9 : List Int} (h9 : r9.length ≤ 100) {o : List GUnder} (ho : o.length ≤ 100000) : ∀ (n j : Nat) (a : List GUnder), j ≤ r9.length → r9.length < n + j → a = o ++ (r9.take j).map (fun h => ⟨h, k, e.Thread, (i : Int)⟩) →
    spec_l8Unders_l1 K p i k r9 n a e r9 j = K (o ++ r9.map (fun h => ⟨h, k, e.Thread, (i : Int)⟩)) (w64 ((i : Int) + 1))
  | 0, j, a, h1, h2, h3 => by omega
  | n + 1, j, a, h1, h2, h3 => by
    rw [spec_l8Unders_l1]
    by_cases hj : j < r9.length
    · have hal : a.length ≤ 100200 := by rw [h3]; simp; omega
      simp only [PS, hj, rd_at hj, w64_s (k := j) (by omega), app_ok (a := a) (b := [(⟨r9[j], k, e.Thread, (i : Int)⟩ : GUnder)]) (by simp; omega)]
      exact spec_und_l1 h9 ho n (j + 1) _ hj (by omega) (by
        rw [h3, List.take_add_one, List.getElem?_eq_getElem hj, Option.toList_some, List.map_append, List.append_assoc]; rfl)
    · have : j = r9.length := by omega
      subst this
      simp only [PS, Nat.lt_irrefl]
      rw [h3, List.take_length]
theorem impl_und_l1 {p : List GEvent} {K : List GUnder → Int → Option (List GUnder)} {i : Nat} {k : Int} {e : GEvent} {r9 : List Int} (he : impl_Event_takes e = some k) (h9 : r9.length ≤ 100) {o : List GUnder} (ho : o.length ≤ 100000) : ∀ (n j : Nat) (a : List GUnder), j ≤ r9.length → r9.length < n + j → a = o ++ (r9.take j).map (fun h => ⟨h, k, e.Thread, (i : Int)⟩) →
    impl_unders_l1 K p i r9 n a e r9 j = K (o ++ r9.map (fun h => ⟨h, k, e.Thread, (i : Int)⟩)) (w64 ((i : Int) + 1))
  | 0, j, a, h1, h2, h3 => by omega
  | n + 1, j, a, h1, h2, h3 => by
    rw [impl_unders_l1]
    by_cases hj : j < r9.length
    · have hal : a.length ≤ 100200 := by rw [h3]; simp; omega
      simp only [PS, hj, rd_at hj, he, w64_s (k := j) (by omega), app_ok (a := a) (b := [(⟨r9[j], k, e.Thread, (i : Int)⟩ : GUnder)]) (by simp; omega)]
      exact impl_und_l1 he h9 ho n (j + 1) _ hj (by omega) (by
        rw [h3, List.take_add_one, List.getElem?_eq_getElem hj, Option.toList_some, List.map_append, List.append_assoc]; rfl)
    · have : j = r9.length := by omega
      subst this
      simp only [PS, Nat.lt_irrefl]
      rw [h3, List.take_length]
theorem unders_l0 {p : List GEvent} (hl : p.length ≤ 200) (hg : p.all goodE = true) : ∀ (n i : Nat), i ≤ p.length → p.length < n + i →
    spec_l8Unders_l0 p n (undF p i) i = some (undF p p.length) ∧ impl_unders_l0 p n (undF p i) i = some (undF p p.length)
  | 0, i, h1, h2 => by omega
  | n + 1, i, h1, h2 => by
    rw [spec_l8Unders_l0, impl_unders_l0]
    by_cases hi : i < p.length
    · have next := unders_l0 hl hg n (i + 1) hi (by omega)
      have hul := undF_len p i
      have ho : (undF p i).length ≤ 100000 := by omega
      have hs := undF_succ p i
      unfold undAt at hs
      simp only [PS, hi, evAt_rd hi, spec_takes, impl_takes (evAt_good hg hi), w64_s (k := i) (by omega)]
      rcases takes_range (evAt_good hg hi) with hr | ⟨h0, h9, hgv⟩
      · have e5 : decide (takesB (evAt p i) < 0) = true := by rw [hr]; decide
        have e6 : decide ((if takesB (evAt p i) = -3 then (-1 : Int) else takesB (evAt p i)) < 0) = true := by rw [hr]; decide
        rw [if_neg (by omega), List.append_nil] at hs
        rw [hs] at next
        simp only [PS, e5, e6]
        exact next
      · have e5 : decide (takesB (evAt p i) < 0) = false := by simpa using h0
        have e7 : ¬ takesB (evAt p i) = -3 := by omega
        rw [if_neg e7]
        rw [if_pos h0] at hs
        have ht : impl_Event_takes (evAt p i) = some (takesB (evAt p i)) := by rw [impl_takes (evAt_good hg hi), if_neg e7]
        simp only [PS, e5, spec_before (show p.length < 1000000 by omega) hg hi h0, impl_held_eq (T := (evAt p i).Thread) (show p.length < 1000000 by omega) hg (show i ≤ p.length by omega)]
        rw [show (0 : Int) = ((0 : Nat) : Int) from rfl, spec_und_l1 (locks_len _) ho FU 0 _ (by omega) (by have := locks_len (heldF (evAt p i).Thread (p.take i)); have := FU_gt (n := (locks (heldF (evAt p i).Thread (p.take i))).length) (by omega); omega) (by simp),
          impl_und_l1 ht (locks_len _) ho FU 0 _ (by omega) (by have := locks_len (heldF (evAt p i).Thread (p.take i)); have := FU_gt (n := (locks (heldF (evAt p i).Thread (p.take i))).length) (by omega); omega) (by simp), w64_s (k := i) (by omega), ← hs]
        exact next
    · have : i = p.length := by omega
      subst this
      simp only [PS, Nat.lt_irrefl]
      exact ⟨trivial, trivial⟩
theorem unders_both {p : List GEvent} (hl : p.length ≤ 200) (hg : p.all goodE = true) : spec_l8Unders p = some (undF p p.length) ∧ impl_unders p = some (undF p p.length) := by
  rw [spec_l8Unders, impl_unders]
  exact unders_l0 hl hg FU 0 (by omega) (by have := FU_gt (n := p.length) (by omega); omega)
end Go.Proofs.Ytihgcgccajikpaa
