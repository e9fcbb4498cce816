/- Plain facts for FnExactFastRace; no condition. -/

import Derived.Test.YthhcnmideecfpaaA1
set_option linter.unusedVariables false
namespace Go.Proofs.Ythhcnmideecfpaa
open Go Go.T

/- how many events of each thread -/
def ct (p : List GEvent) (q : Nat → Bool) : Nat → Nat → Nat
  | 0, _ => 0
  | m + 1, c => ct p q m c + (if q m = true ∧ (evAt p m).Thread = (c : Int) then 1 else 0)
theorem ct_le {p : List GEvent} {q : Nat → Bool} : ∀ (m c : Nat), ct p q m c ≤ m
  | 0, c => by simp [ct]
  | m + 1, c => by
    rw [ct]
    have := ct_le (p := p) (q := q) m c
    split <;> omega
theorem ct_congr {p : List GEvent} {q q' : Nat → Bool} : ∀ (m c : Nat), (∀ i, i < m → q i = q' i) → ct p q m c = ct p q' m c
  | 0, c, h => rfl
  | m + 1, c, h => by rw [ct, ct, h m (by omega), ct_congr m c (fun i hi => h i (by omega))]
theorem ct_more {p : List GEvent} {q : Nat → Bool} {m c : Nat} : ∀ (d : Nat), (∀ i, m ≤ i → i < m + d → q i = false) → ct p q (m + d) c = ct p q m c
  | 0, h => rfl
  | d + 1, h => by
    rw [show m + (d + 1) = m + d + 1 by omega, ct, h (m + d) (by omega) (by omega), ct_more d (fun i h1 h2 => h i h1 (by omega))]
    simp
/-- the clock of a place -/
def clk (p : List GEvent) (j : Nat) : List Int := tbl (fun c => ((ct p (fun i => i == j || aheadF p j i) (j + 1) c : Nat) : Int)) 5
theorem spec_clk {p : List GEvent} (hl : p.length ≤ 200) (hg : p.all goodE = true) {j : Nat} (hj : j < p.length) {K : List (List Bool) → List (List Int) → Int → Option (List (List Int))} {a : List (List Bool)} {o : List (List Int)} (ho : o.length ≤ 1000) (ha : rd a (j : Int) = some (tbl (aheadF p j) p.length)) :
    ∀ (n k : Nat), k ≤ p.length → p.length < n + k →
    spec_l6Clocks_l1 K p j (tbl (aheadF p j) p.length) n a (tbl (aheadF p j) p.length) o (tbl (fun c => (((if (evAt p j).Thread = (c : Int) then 1 else 0) + ct p (aheadF p j) k c : Nat) : Int)) 5) k = K (a.set j (tbl (aheadF p j) p.length)) (o ++ [clk p j]) (w64 ((j : Int) + 1))
  | 0, k, h1, h2 => by omega
  | n + 1, k, h1, h2 => by
    rw [spec_l6Clocks_l1]
    by_cases hk : k < p.length
    · have next := spec_clk hl hg hj (K := K) ho ha n (k + 1) hk (by omega)
      obtain ⟨t, ht, e⟩ := thr hg hk
      simp only [PS, tbl_len, hk, tbl_rd (f := aheadF p j) hk, w64_s (k := k) (by omega)]
      by_cases hq : aheadF p j k = true
      · simp only [PS, hq, evAt_rd hk, e]
        rw [tbl_rd ht]
        have b := ct_le (p := p) (q := aheadF p j) k t
        have hw : w64 ((((if (evAt p j).Thread = (t : Int) then 1 else 0) + ct p (aheadF p j) k t : Nat) : Int) + 1) = (((if (evAt p j).Thread = (t : Int) then 1 else 0) + ct p (aheadF p j) k t + 1 : Nat) : Int) := by
          rw [w64_id]
          · omega
          · split <;> omega
        simp only [PS, ]
        rw [hw, tbl_set]
        have : (fun c : Nat => if c = t then (((if (evAt p j).Thread = (t : Int) then 1 else 0) + ct p (aheadF p j) k t + 1 : Nat) : Int) else (((if (evAt p j).Thread = (c : Int) then 1 else 0) + ct p (aheadF p j) k c : Nat) : Int)) = (fun c : Nat => (((if (evAt p j).Thread = (c : Int) then 1 else 0) + ct p (aheadF p j) (k + 1) c : Nat) : Int)) := by
          funext c
          rw [ct]
          by_cases hc : c = t
          · subst hc; simp only [hq, e, if_true, and_self]; omega
          · have : ¬ (t : Int) = (c : Int) := by omega
            simp only [hc, hq, e, this, if_false, and_false, Nat.add_zero]
        rw [this]; exact next
      · have hq' : aheadF p j k = false := by simpa using hq
        have : (fun c : Nat => (((if (evAt p j).Thread = (c : Int) then 1 else 0) + ct p (aheadF p j) (k + 1) c : Nat) : Int)) = (fun c : Nat => (((if (evAt p j).Thread = (c : Int) then 1 else 0) + ct p (aheadF p j) k c : Nat) : Int)) := by
          funext c; rw [ct]; simp [hq']
        rw [this] at next
        simp only [PS, hq']; exact next
    · have : k = p.length := by omega
      subst this
      have : tbl (fun c => (((if (evAt p j).Thread = (c : Int) then 1 else 0) + ct p (aheadF p j) p.length c : Nat) : Int)) 5 = clk p j := by
        unfold clk
        refine tbl_congr fun c hc => ?_
        have h1 := ct_more (p := p) (q := aheadF p j) (m := j) (c := c) (p.length - j) (fun i h1 h2 => by
          cases h : aheadF p j i
          · rfl
          · have := ahead_lt j hj i h; omega)
        rw [show j + (p.length - j) = p.length by omega] at h1
        rw [h1, ct]
        have h2 : ct p (fun i => i == j || aheadF p j i) j c = ct p (aheadF p j) j c := ct_congr j c (fun i hi => by
          have : (i == j) = false := by simp; omega
          rw [this, Bool.false_or])
        rw [h2]
        simp only [beq_self_eq_true, Bool.true_or, true_and]
        omega
      simp only [PS, tbl_len, Nat.lt_irrefl, app_ok (a := o) (b := [clk p j]) (by simp; omega), this, ha]
theorem spec_clocks_l0 {p : List GEvent} (hl : p.length ≤ 200) (hg : p.all goodE = true) : ∀ (n j : Nat) (o : List (List Int)), j ≤ p.length → p.length < n + j → o = tbl (clk p) j →
    spec_l6Clocks_l0 p n (tbl (fun i => tbl (aheadF p i) p.length) p.length) o j = some (tbl (clk p) p.length)
  | 0, j, o, h1, h2, h3 => by omega
  | n + 1, j, o, h1, h2, h3 => by
    rw [spec_l6Clocks_l0]
    by_cases hj : j < p.length
    · obtain ⟨t, ht, e⟩ := thr hg hj
      have hm : mk (0 : Int) 5 = some (tbl (fun _ => 0) 5) := by rw [show (5 : Int) = ((5 : Nat) : Int) from rfl, mk_ok (by omega), tbl_rep]
      have ho : o.length ≤ 1000 := by rw [h3, tbl_len]; omega
      have ha := tbl_rd (f := fun i => tbl (aheadF p i) p.length) hj
      simp only [PS, hj, evAt_rd hj, hm, e, tbl_rd (f := fun _ => (0 : Int)) ht, ha]
      rw [tbl_set, show w64 (0 + 1) = 1 from by rw [w64_id (by omega)]; rfl]
      have : (fun c => if c = t then (1 : Int) else 0) = (fun c : Nat => (((if (evAt p j).Thread = (c : Int) then 1 else 0) + ct p (aheadF p j) 0 c : Nat) : Int)) := by
        funext c
        rw [ct]
        by_cases hc : c = t
        · subst hc; simp [e]
        · have : ¬ (t : Int) = (c : Int) := by omega
          simp [hc, e, this]
      rw [this, show (0 : Int) = ((0 : Nat) : Int) from rfl, spec_clk hl hg hj ho ha FU 0 (by omega) (by have := FU_gt (n := p.length) (by omega); omega), w64_s (k := j) (by omega)]
      have es : (tbl (fun i => tbl (aheadF p i) p.length) p.length).set j (tbl (aheadF p j) p.length) = tbl (fun i => tbl (aheadF p i) p.length) p.length := by
        rw [tbl_set]
        exact tbl_congr fun k hk => by
          split
          · rename_i h; subst h; rfl
          · rfl
      rw [es]
      exact spec_clocks_l0 hl hg n (j + 1) _ hj (by omega) (by rw [h3]; unfold tbl; rw [List.range_succ, List.map_append]; rfl)
    · have : j = p.length := by omega
      subst this
      simp only [PS, Nat.lt_irrefl]; rw [h3]
theorem impl_clk {p : List GEvent} (hl : p.length ≤ 200) (hg : p.all goodE = true) {j : Nat} (hj : j < p.length) {K : List (List Int) → List (Vector Int 4) → Int → Option (List (List Int))} {r2 a : List (Vector Int 4)} {v : Vector Int 4} (hv : VR v (aheadF p j)) {o : List (List Int)} (ho : o.length ≤ 1000) :
    ∀ (n k : Nat), k ≤ j + 1 → j + 1 < n + k →
    impl_clocks_l1 K p r2 j n o v (tbl (fun c => ((ct p (fun i => i == j || aheadF p j i) k c : Nat) : Int)) 5) a k = K (o ++ [clk p j]) a ((j + 1 : Nat) : Int)
  | 0, k, h1, h2 => by omega
  | n + 1, k, h1, h2 => by
    rw [impl_clocks_l1]
    by_cases hk : k < j + 1
    · have next := impl_clk hl hg hj (K := K) (r2 := r2) (a := a) hv ho n (k + 1) hk (by omega)
      obtain ⟨t, ht, e⟩ := thr hg (show k < p.length by omega)
      have hd : decide ((k : Int) < ((j + 1 : Nat) : Int)) = true := by simp; omega
      have add : impl_clocks_j2 K (impl_clocks_l1 K p r2 j n) p r2 j o v (tbl (fun c => ((ct p (fun i => i == j || aheadF p j i) k c : Nat) : Int)) 5) a k = (if (k == j || aheadF p j k) = true then K (o ++ [clk p j]) a ((j + 1 : Nat) : Int) else impl_clocks_j2 K (impl_clocks_l1 K p r2 j n) p r2 j o v (tbl (fun c => ((ct p (fun i => i == j || aheadF p j i) k c : Nat) : Int)) 5) a k) := by
        split
        case isFalse => rfl
        rename_i hq
        rw [impl_clocks_j2]
        simp only [PS, evAt_rd (show k < p.length by omega), e]
        rw [tbl_rd ht]
        have b := ct_le (p := p) (q := fun i => i == j || aheadF p j i) k t
        have hw : w64 (((ct p (fun i => i == j || aheadF p j i) k t : Nat) : Int) + 1) = ((ct p (fun i => i == j || aheadF p j i) k t + 1 : Nat) : Int) := by
          rw [w64_id (by omega)]; omega
        simp only [PS, ]
        rw [hw, tbl_set, w64_s (k := k) (by omega)]
        have : (fun c => if c = t then ((ct p (fun i => i == j || aheadF p j i) k t + 1 : Nat) : Int) else ((ct p (fun i => i == j || aheadF p j i) k c : Nat) : Int)) = (fun c => ((ct p (fun i => i == j || aheadF p j i) (k + 1) c : Nat) : Int)) := by
          funext c
          rw [ct]
          by_cases hc : c = t
          · subst hc; simp only [hq, e, if_true, and_self]
          · have : ¬ (t : Int) = (c : Int) := by omega
            simp only [hc, e, this, if_false, and_false, Nat.add_zero]
        rw [this]; exact next
      simp only [PS, w64_s (k := j) (by omega), hd]
      by_cases hkj : k = j
      · subst hkj
        simp only [PS, ]
        rw [add]; simp
      · have h3 : ((k : Int) == (j : Int)) = false := by simp; omega
        simp only [PS, h3, has_ok hv (show k < 256 by omega)]
        cases hq : aheadF p j k
        · have hkj' : (k == j) = false := by simp [hkj]
          have : (fun c : Nat => ((ct p (fun i => i == j || aheadF p j i) (k + 1) c : Nat) : Int)) = (fun c => ((ct p (fun i => i == j || aheadF p j i) k c : Nat) : Int)) := by
            funext c; rw [ct]; simp [hq, hkj']
          rw [this] at next
          simp only [PS, w64_s (k := k) (by omega)]; exact next
        · simp only [PS, ]
          rw [add, hq]; simp
    · have : k = j + 1 := by omega
      subst this
      simp only [PS, w64_s (k := j) (by omega), Int.lt_irrefl]
      rw [show tbl (fun c => ((ct p (fun i => i == j || aheadF p j i) (j + 1) c : Nat) : Int)) 5 = clk p j from rfl]
      simp only [PS, app_ok (a := o) (b := [clk p j]) (by simp; omega)]
theorem impl_clocks_run {p : List GEvent} (hl : p.length ≤ 200) (hg : p.all goodE = true) {a : List (Vector Int 4)} (ha : ∀ i, i < p.length → ∃ v, a[i]? = some v ∧ VR v (aheadF p i)) (hal : a.length = p.length) : ∀ (n j : Nat) (o : List (List Int)), j ≤ p.length → p.length < n + j → o = tbl (clk p) j →
    impl_clocks_l0 p a n o a j = some (tbl (clk p) p.length)
  | 0, j, o, h1, h2, h3 => by omega
  | n + 1, j, o, h1, h2, h3 => by
    rw [impl_clocks_l0]
    by_cases hj : j < p.length
    · have hm : mk (0 : Int) 5 = some (tbl (fun _ => 0) 5) := by rw [show (5 : Int) = ((5 : Nat) : Int) from rfl, mk_ok (by omega), tbl_rep]
      have ho : o.length ≤ 1000 := by rw [h3, tbl_len]; omega
      obtain ⟨v, v1, v2⟩ := ha j hj
      have hrv : rd a (j : Int) = some v := by rw [rd_nat]; exact v1
      simp only [PS, hal, hj, hm, hrv]
      have := impl_clk hl hg hj (K := impl_clocks_l0 p a n) (r2 := a) (a := a) v2 ho FU 0 (by omega) (by have := FU_gt (n := j + 1) (by omega); omega)
      rw [show (0 : Int) = ((0 : Nat) : Int) from rfl]
      have e0 : tbl (fun _ => ((0 : Nat) : Int)) 5 = tbl (fun c => ((ct p (fun i => i == j || aheadF p j i) 0 c : Nat) : Int)) 5 := rfl
      rw [e0, this]
      exact impl_clocks_run hl hg ha hal n (j + 1) _ hj (by omega) (by rw [h3]; unfold tbl; rw [List.range_succ, List.map_append]; rfl)
    · have : j = p.length := by omega
      subst this
      simp only [PS, hal, Nat.lt_irrefl]; rw [h3]
theorem clocks_two {p : List GEvent} (hl : p.length ≤ 200) (hg : p.all goodE = true) : spec_l6Clocks p = some (tbl (clk p) p.length) ∧ impl_clocks p = some (tbl (clk p) p.length) := by
  obtain ⟨a, e1, hal, e2⟩ := implAhead_eq' hl hg
  constructor
  · rw [spec_l6Clocks, specAhead_eq (by omega)]
    exact spec_clocks_l0 hl hg FU 0 [] (by omega) (by have := FU_gt (n := p.length) (by omega); omega) rfl
  · rw [impl_clocks, e1]
    exact impl_clocks_run hl hg e2 hal FU 0 [] (by omega) (by have := FU_gt (n := p.length) (by omega); omega) rfl
end Go.Proofs.Ythhcnmideecfpaa
