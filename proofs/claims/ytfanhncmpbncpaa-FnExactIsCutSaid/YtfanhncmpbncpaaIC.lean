/- Plain facts for FnExactIsCut; no condition. -/

import Derived.Test.YtfanhncmpbncpaaQFnExactIsCut
set_option linter.unusedVariables false
namespace Go.Proofs.Ytfanhncmpbncpaa
open Go Go.T

/-- how many of the first events a thread has -/
def cn (p : List GEvent) : Nat → Nat → Nat
  | 0, _ => 0
  | m + 1, t => cn p m t + (if (evAt p m).Thread = (t : Int) then 1 else 0)
theorem cn_le {p : List GEvent} : ∀ (m t : Nat), cn p m t ≤ m
  | 0, t => by simp [cn]
  | m + 1, t => by
    rw [cn]
    have := cn_le (p := p) m t
    split <;> omega
def cutAt (c : List Int) (t : Nat) : Int := (c[t]?).getD 0
def tN (p : List GEvent) (j : Nat) : Nat := (evAt p j).Thread.toNat
/-- whether a place lies within the counts -/
def wi (p : List GEvent) (c : List Int) (j : Nat) : Bool := decide ((cn p j (tN p j) : Int) < cutAt c (tN p j))
theorem rd_cut {c : List Int} {t : Nat} (h : t < c.length) : rd c (t : Int) = some (cutAt c t) := by rw [rd_at h]; simp [cutAt, h]
theorem tN_eq {p : List GEvent} {j t : Nat} (h : (evAt p j).Thread = (t : Int)) : tN p j = t := by unfold tN; rw [h]; rfl
def fits (p : List GEvent) (c : List Int) : Nat → Nat → Bool
  | _, 0 => true
  | k, m + 1 => decide (cutAt c k ≤ (cn p p.length k : Int)) && fits p c (k + 1) m
theorem spec_within_l1 {p : List GEvent} {c : List Int} {w : List Bool} (hc : c.length = 5) : ∀ (n m k : Nat), k + m = 5 → m < n →
    spec_l18Within_l1 c (tbl (fun t => (cn p p.length t : Int)) 5) w n k = some (if fits p c k m then (w, true) else ([], false))
  | 0, m, k, h1, h2 => by omega
  | n + 1, 0, k, h1, h2 => by
    rw [spec_l18Within_l1]
    have : k = 5 := by omega
    subst this
    simp [hc, fits]
  | n + 1, m + 1, k, h1, h2 => by
    rw [spec_l18Within_l1]
    have hk : k < 5 := by omega
    simp only [PS, hc, hk, rd_cut (c := c) (t := k) (by omega), tbl_rd (f := fun t => (cn p p.length t : Int)) hk, w64_s (k := k) (by omega), spec_within_l1 hc n m (k + 1) (by omega) (by omega), fits]
    by_cases h : cutAt c k ≤ (cn p p.length k : Int)
    · have h' : ¬ cutAt c k > (cn p p.length k : Int) := by omega
      simp [h, h']
    · have h' : cutAt c k > (cn p p.length k : Int) := by omega
      simp [h, h']
theorem cn_set {p : List GEvent} {k t : Nat} (e : (evAt p k).Thread = (t : Int)) : (fun j : Nat => if j = t then ((cn p k t + 1 : Nat) : Int) else ((cn p k j : Nat) : Int)) = fun j => ((cn p (k + 1) j : Nat) : Int) := by
  funext j
  rw [cn]
  by_cases h : j = t
  · subst h; simp [e]
  · have : ¬ (t : Int) = (j : Int) := by omega
    simp [h, e, this]
theorem spec_within_l0 {p : List GEvent} {c : List Int} (hl : p.length ≤ 200) (hg : p.all goodE = true) (hc : c.length = 5) : ∀ (n k : Nat) (w : List Bool), k ≤ p.length → p.length < n + k → w = tbl (wi p c) k →
    spec_l18Within_l0 p c n (tbl (fun t => (cn p k t : Int)) 5) w k = some (if fits p c 0 5 then (tbl (wi p c) p.length, true) else ([], false))
  | 0, k, w, h1, h2, h3 => by omega
  | n + 1, k, w, h1, h2, h3 => by
    rw [spec_l18Within_l0]
    by_cases hk : k < p.length
    · obtain ⟨t, ht, e⟩ := thr hg hk
      have b := cn_le (p := p) k t
      have hw : w64 (((cn p k t : Nat) : Int) + 1) = ((cn p k t + 1 : Nat) : Int) := by rw [w64_id (by omega)]; omega
      have hwl : w.length = k := by rw [h3, tbl_len]
      simp only [PS, hk, evAt_rd hk, e, tbl_rd (f := fun t => (cn p k t : Int)) ht, rd_cut (c := c) (t := t) (by omega), hw, tbl_set, cn_set e, app_ok (a := w) (b := [decide (((cn p k t + 1 : Nat) : Int) ≤ cutAt c t)]) (by simp; omega), w64_s (k := k) (by omega)]
      refine spec_within_l0 hl hg hc n (k + 1) _ hk (by omega) ?_
      rw [h3]
      unfold tbl
      rw [List.range_succ, List.map_append]
      congr 1
      have : (decide (((cn p k t + 1 : Nat) : Int) ≤ cutAt c t)) = wi p c k := by
        unfold wi; rw [tN_eq e]
        by_cases hcc : ((cn p k t : Nat) : Int) < cutAt c t
        · rw [decide_eq_true hcc, decide_eq_true (by omega)]
        · rw [decide_eq_false hcc, decide_eq_false (by omega)]
      rw [this]; rfl
    · have : k = p.length := by omega
      subst this
      simp only [PS, Nat.lt_irrefl]
      rw [show (0 : Int) = ((0 : Nat) : Int) from rfl, spec_within_l1 hc FU 5 0 rfl (FU_gt (by omega)), h3]
theorem spec_within {p : List GEvent} {c : List Int} (hl : p.length ≤ 200) (hg : p.all goodE = true) (hc : c.length = 5) : spec_l18Within p c = some (if fits p c 0 5 then (tbl (wi p c) p.length, true) else ([], false)) := by
  have hm : mk (0 : Int) 5 = some (tbl (fun _ => 0) 5) := by rw [show (5 : Int) = ((5 : Nat) : Int) from rfl, mk_ok (by omega), tbl_rep]
  rw [spec_l18Within, hm]
  simp only [PS, ]
  exact spec_within_l0 hl hg hc FU 0 [] (by omega) (by have := FU_gt (n := p.length) (by omega); omega) rfl
/-- the numbers, as an array -/
def VN (p : List GEvent) (m : Nat) (v : Vector Int 5) : Prop := ∀ t, t < 5 → v[t]? = some ((cn p m t : Nat) : Int)
theorem vn_rd {p : List GEvent} {m t : Nat} {v : Vector Int 5} (h : VN p m v) (ht : t < 5) : rdv v (t : Int) = some ((cn p m t : Nat) : Int) := by
  unfold rdv; rw [if_pos (by omega)]; exact h t ht
theorem impl_numbers_run {p : List GEvent} {z : Vector Int 5} (hl : p.length ≤ 200) (hg : p.all goodE = true) : ∀ (n k : Nat) (o : List Int) (v : Vector Int 5), k ≤ p.length → p.length < n + k → o = tbl (fun j => ((cn p j (tN p j) : Nat) : Int)) k → VN p k v →
    ∃ v', impl_numbers_l0 p n z o v k = some (tbl (fun j => ((cn p j (tN p j) : Nat) : Int)) p.length, v') ∧ VN p p.length v'
  | 0, k, o, v, h1, h2, h3, h4 => by omega
  | n + 1, k, o, v, h1, h2, h3, h4 => by
    rw [impl_numbers_l0]
    by_cases hk : k < p.length
    · obtain ⟨t, ht, e⟩ := thr hg hk
      have b := cn_le (p := p) k t
      have hw : w64 (((cn p k t : Nat) : Int) + 1) = ((cn p k t + 1 : Nat) : Int) := by rw [w64_id (by omega)]; omega
      have hol : o.length = k := by rw [h3, tbl_len]
      simp only [PS, hk, evAt_rd hk, e, vn_rd h4 ht, hw, app_ok (a := o) (b := [((cn p k t : Nat) : Int)]) (by simp; omega), w64_s (k := k) (by omega)]
      refine impl_numbers_run hl hg n (k + 1) _ _ hk (by omega) ?_ ?_
      · rw [h3]; unfold tbl; rw [List.range_succ, List.map_append]; simp [tN_eq e]
      · intro j hj
        rw [Vector.getElem?_setIfInBounds]
        have := congrFun (cn_set (p := p) e) j
        by_cases h : t = j
        · subst h
          rw [if_pos rfl, if_pos (by omega), ← this, if_pos rfl]
        · rw [if_neg h, h4 j hj, ← this, if_neg (fun e => h e.symm)]
    · have : k = p.length := by omega
      subst this
      simp only [PS, Nat.lt_irrefl]
      exact ⟨v, by rw [h3], h4⟩
theorem impl_numbers_eq {p : List GEvent} (hl : p.length ≤ 200) (hg : p.all goodE = true) : ∃ v, impl_numbers p = some (tbl (fun j => ((cn p j (tN p j) : Nat) : Int)) p.length, v) ∧ VN p p.length v := by
  rw [impl_numbers]
  exact impl_numbers_run hl hg FU 0 [] _ (by omega) (by have := FU_gt (n := p.length) (by omega); omega) rfl (fun t ht => by simp [cn, ht])
theorem impl_areOf_l0' {p : List GEvent} {c : List Int} (hc : c.length = 5) {r : List Int × Vector Int 5} (hr : VN p p.length r.2) : ∀ (n m k : Nat), k + m = 5 → m < n → impl_areOf_l0 c r n k = some (fits p c k m)
  | 0, m, k, h1, h2 => by omega
  | n + 1, 0, k, h1, h2 => by
    rw [impl_areOf_l0]
    have : k = 5 := by omega
    subst this
    simp [hc, fits]
  | n + 1, m + 1, k, h1, h2 => by
    rw [impl_areOf_l0]
    have hk : k < 5 := by omega
    simp only [PS, hc, hk, rd_cut (c := c) (t := k) (by omega), vn_rd hr hk, w64_s (k := k) (by omega), impl_areOf_l0' hc hr n m (k + 1) (by omega) (by omega), fits]
    by_cases h : cutAt c k ≤ (cn p p.length k : Int)
    · have h' : ¬ cutAt c k > (cn p p.length k : Int) := by omega
      simp [h, h']
    · have h' : cutAt c k > (cn p p.length k : Int) := by omega
      simp [h, h']
def goodC (c : List Int) : Bool := decide (c.length = 5) && c.all (fun x => inr x 0 200)
theorem spec_all_l0 {c : List Int} (hc : c.length ≤ 1048576) : ∀ (n k : Nat), k ≤ c.length → c.length < n + k → spec_l1All_l0 c 0 200 n k = some ((c.drop k).all (fun x => inr x 0 200))
  | 0, k, h1, h2 => by omega
  | n + 1, k, h1, h2 => by
    rw [spec_l1All_l0]
    by_cases hk : k < c.length
    · rw [List.drop_eq_getElem_cons hk, List.all_cons]
      simp only [PS, hk, rd_at hk, spec_in_eq, w64_s (k := k) (by omega), spec_all_l0 hc n (k + 1) hk (by omega)]
      cases inr c[k] 0 200 <;> simp
    · have : k = c.length := by omega
      subst this
      simp
theorem spec_counts {c : List Int} (hc : c.length ≤ 1048576) : spec_l18Counts c = some (goodC c) := by
  rw [spec_l18Counts]
  have := spec_all_l0 hc FU 0 (by omega) (by have := FU_gt (n := c.length) (by omega); omega)
  rw [spec_l1All]
  rw [List.drop_zero] at this
  unfold goodC
  by_cases h : c.length = 5
  · have h' : ((c.length : Int) == 5) = true := by simp [h]
    rw [if_pos h']
    rw [show ((0 : Nat) : Int) = 0 from rfl] at this
    rw [this]; simp [h]
  · have h' : ¬ ((c.length : Int) == 5) = true := by simp; omega
    rw [if_neg h']; simp [h]
theorem impl_counts {c : List Int} (hc : c.length ≤ 1048576) : impl_areCounts c = some (goodC c) := by
  rw [impl_areCounts]
  obtain ⟨r, e1, e2⟩ := findL (p := c) (t := impl_areCounts_1) (q := fun x => !inr x 0 200) (F := slices_IndexFunc_int_int__impl_areCounts_1_l0 c) (by intros; rw [slices_IndexFunc_int_int__impl_areCounts_1_l0]) (by omega) (fun x _ => by rw [impl_areCounts_1, impl_in_eq]; rfl)
  unfold goodC
  rw [slices_ContainsFunc_int_int__impl_areCounts_1, slices_IndexFunc_int_int__impl_areCounts_1, e1]
  by_cases h : c.length = 5
  · have h' : ((c.length : Int) == 5) = true := by simp [h]
    rw [if_pos h']
    simp only [PS, e2, h, List.not_any_eq_all_not, Bool.not_not]
    simp
  · have h' : ¬ ((c.length : Int) == 5) = true := by simp; omega
    rw [if_neg h']; simp [h]
theorem is_skip {p : List GEvent} {c : List Int} {K : Int → Option Bool} {j : Nat} {e : GEvent} (hj : j < p.length) (hl : p.length ≤ 200) (hw : wi p c j = false) : ∀ (n k : Nat), k ≤ j → j < n + k →
    spec_l18Is_l1 K p (tbl (wi p c) p.length) j (p.take j) n e k = K ((j + 1 : Nat) : Int)
  | 0, k, h1, h2 => by omega
  | n + 1, k, h1, h2 => by
    rw [spec_l18Is_l1]
    have hle : (p.take j).length = j := by simp; omega
    by_cases hk : k < j
    · have hx : rd (p.take j) (k : Int) = some (evAt p k) := by
        rw [rd_nat, List.getElem?_take, if_pos hk]; simp [evAt, show k < p.length by omega]
      simp only [PS, hle, hk, hx, tbl_rd (f := wi p c) hj, hw, w64_s (k := k) (by omega)]
      exact is_skip hj hl hw n (k + 1) hk (by omega)
    · have : k = j := by omega
      subst this
      simp only [PS, hle, Nat.lt_irrefl, w64_s (k := k) (by omega)]
theorem is_l1 {p : List GEvent} {c : List Int} {KS : Int → Option Bool} {KI : List Int → Int → Option Bool} {j : Nat} (hj : j < p.length) (hl : p.length ≤ 200) (hg : p.all goodE = true) (hc : c.length = 5) (hw : wi p c j = true)
    (hK : ∃ b, KS ((j + 1 : Nat) : Int) = some b ∧ KI (tbl (fun j => ((cn p j (tN p j) : Nat) : Int)) p.length) ((j + 1 : Nat) : Int) = some b) : ∀ (n k : Nat), k ≤ j → j < n + k →
    ∃ b, spec_l18Is_l1 KS p (tbl (wi p c) p.length) j (p.take j) n (evAt p j) k = some b ∧ impl_isCut_l1 KI p c j (p.take j) n (tbl (fun j => ((cn p j (tN p j) : Nat) : Int)) p.length) (evAt p j) k = some b
  | 0, k, h1, h2 => by omega
  | n + 1, k, h1, h2 => by
    rw [spec_l18Is_l1, impl_isCut_l1]
    have hle : (p.take j).length = j := by simp; omega
    by_cases hk : k < j
    · have hx : rd (p.take j) (k : Int) = some (evAt p k) := by
        rw [rd_nat, List.getElem?_take, if_pos hk]; simp [evAt, show k < p.length by omega]
      have next := is_l1 (c := c) hj hl hg hc hw hK n (k + 1) hk (by omega)
      obtain ⟨t, ht, e⟩ := thr hg (show k < p.length by omega)
      have hwk : wi p c k = decide (((cn p k (tN p k) : Nat) : Int) < cutAt c t) := by unfold wi; rw [tN_eq e]
      simp only [PS, hle, hk, hx, tbl_rd (f := wi p c) hj, hw, tbl_rd (f := wi p c) (show k < p.length by omega), spec_hang_eq (evAt_good hg (show k < p.length by omega)) (evAt_good hg hj), impl_hang_eq (evAt_good hg (show k < p.length by omega)) (evAt_good hg hj), tbl_rd (f := fun j => ((cn p j (tN p j) : Nat) : Int)) (show k < p.length by omega), e, rd_cut (c := c) (t := t) (by omega), w64_s (k := k) (by omega)]
      cases hangB (evAt p k) (evAt p j)
      · simp only [PS, ]
        cases wi p c k
        · simp only [PS, ]; exact next
        · simp only [PS, ]; exact next
      · by_cases hq : ((cn p k (tN p k) : Nat) : Int) < cutAt c t
        · have h' : decide (((cn p k (tN p k) : Nat) : Int) ≥ cutAt c t) = false := by simp; omega
          rw [hwk, decide_eq_true hq]
          simp only [PS, h']; exact next
        · have h' : decide (((cn p k (tN p k) : Nat) : Int) ≥ cutAt c t) = true := by simp; omega
          rw [hwk, decide_eq_false hq]
          simp only [PS, h']; exact ⟨false, rfl, rfl⟩
    · have : k = j := by omega
      subst this
      simp only [PS, hle, Nat.lt_irrefl, w64_s (k := k) (by omega)]
      exact hK
theorem is_l0 {p : List GEvent} {c : List Int} (hl : p.length ≤ 200) (hg : p.all goodE = true) (hc : c.length = 5) : ∀ (n j : Nat), j ≤ p.length → p.length < n + j →
    ∃ b, spec_l18Is_l0 p (tbl (wi p c) p.length) n j = some b ∧ impl_isCut_l0 p c n (tbl (fun j => ((cn p j (tN p j) : Nat) : Int)) p.length) j = some b
  | 0, j, h1, h2 => by omega
  | n + 1, j, h1, h2 => by
    rw [spec_l18Is_l0, impl_isCut_l0]
    by_cases hj : j < p.length
    · have next := is_l0 (c := c) hl hg hc n (j + 1) hj (by omega)
      obtain ⟨t, ht, e⟩ := thr hg hj
      have hwk : wi p c j = decide (((cn p j (tN p j) : Nat) : Int) < cutAt c t) := by unfold wi; rw [tN_eq e]
      simp only [PS, hj, evAt_rd hj, slc_take (l := p) (k := j) (by omega), tbl_rd (f := fun j => ((cn p j (tN p j) : Nat) : Int)) hj, e, rd_cut (c := c) (t := t) (by omega)]
      by_cases hq : ((cn p j (tN p j) : Nat) : Int) < cutAt c t
      · have h' : decide (((cn p j (tN p j) : Nat) : Int) ≥ cutAt c t) = false := by simp; omega
        simp only [PS, h']
        exact is_l1 hj hl hg hc (by rw [hwk, decide_eq_true hq]) next FU 0 (by omega) (by have := FU_gt (n := j) (by omega); omega)
      · have h' : decide (((cn p j (tN p j) : Nat) : Int) ≥ cutAt c t) = true := by simp; omega
        simp only [PS, h', w64_s (k := j) (by omega)]
        rw [show (0 : Int) = ((0 : Nat) : Int) from rfl, is_skip hj hl (by rw [hwk, decide_eq_false hq]) FU 0 (by omega) (by have := FU_gt (n := j) (by omega); omega)]
        exact next
    · have : j = p.length := by omega
      subst this
      simp only [PS, Nat.lt_irrefl]
      exact ⟨true, rfl, rfl⟩
theorem isCut_both {p : List GEvent} {c : List Int} (hp : smEventS p) (hs : smIntS c) : ∃ r : Bool × Bool, spec_IsCut p c = some r ∧ impl_IsCut p c = some r := by
  have hp' : p.length < 1099511627776 := by have := (show p.length ≤ 1048576 from hp); omega
  rw [spec_IsCut, impl_IsCut]
  simp only [PS, spec_trace_eq hp', impl_trace_eq hp', spec_counts hs, impl_counts hs]
  cases hg : goodT p
  · exact ⟨(false, false), by simp, by simp⟩
  · unfold goodT at hg
    simp only [Bool.and_eq_true, decide_eq_true_eq] at hg
    cases hgc : goodC c
    · exact ⟨(false, false), by simp, by simp⟩
    · unfold goodC at hgc
      simp only [Bool.and_eq_true, decide_eq_true_eq] at hgc
      obtain ⟨v, n1, n2⟩ := impl_numbers_eq hg.2 hg.1
      have ha : impl_areOf p c = some (fits p c 0 5) := by
        rw [impl_areOf, n1]
        exact impl_areOf_l0' hgc.1 n2 FU 5 0 rfl (FU_gt (by omega))
      simp only [PS, spec_IsCut_j0, spec_within (c := c) hg.2 hg.1 hgc.1, ha]
      cases fits p c 0 5
      · exact ⟨(false, false), by simp, by simp⟩
      · obtain ⟨b, b1, b2⟩ := is_l0 (c := c) hg.2 hg.1 hgc.1 FU 0 (by omega) (by have := FU_gt (n := p.length) (by omega); omega)
        have c1 : spec_l18Is p (tbl (wi p c) p.length) = some b := b1
        have c2 : impl_isCut p c = some b := by rw [impl_isCut, n1]; exact b2
        simp only [PS, c1, c2]
        exact ⟨(b, true), rfl, rfl⟩
theorem law_IsCut (p : List GEvent) (c : List Int) (hq : p.length ≤ 9223372036854775807) (hc : c.length ≤ 9223372036854775807) : laws_FnExactIsCut p c = some true :=
  law_IsCut_of p c hq hc isCut_both
end Go.Proofs.Ytfanhncmpbncpaa
