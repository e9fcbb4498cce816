/- Plain facts for FnExactAddPairs; no condition. -/

import Derived.Test.YtihgcgccajikpaaAP
set_option linter.unusedVariables false
namespace Go.Proofs.Ytihgcgccajikpaa
open Go Go.T Go.Sort Go.Proofs

theorem key_ord {x y : GPair} (hx : goodPr x = true) (hy : goodPr y = true) : decide (keyP x < keyP y) = ltP x y := by
  have := ord_key hx hy
  unfold ltP
  rw [decide_eq_decide] at this ⊢
  omega
/-- a pair, put into rising ones -/
def insP (x : GPair) : List GPair → List GPair
  | [] => [x]
  | y :: l => if ltP x y = true then x :: y :: l else if y = x then y :: l else y :: insP x l
theorem insP_mem {x z : GPair} : ∀ {l : List GPair}, z ∈ insP x l ↔ z = x ∨ z ∈ l
  | [] => by simp [insP]
  | y :: l => by
    unfold insP
    split
    · rw [List.mem_cons]
    · split
      · rename_i h
        subst h
        constructor
        · intro h; exact .inr h
        · rintro (h | h)
          · rw [h]; exact List.mem_cons_self
          · exact h
      · rw [List.mem_cons, List.mem_cons, insP_mem]
        constructor
        · rintro (h | h | h)
          · exact .inr (.inl h)
          · exact .inl h
          · exact .inr (.inr h)
        · rintro (h | h | h)
          · exact .inr (.inl h)
          · exact .inl h
          · exact .inr (.inr h)
theorem insP_sorted {x : GPair} : ∀ {l : List GPair}, l.Pairwise (fun x y => ltP x y = true) → (insP x l).Pairwise (fun x y => ltP x y = true)
  | [], _ => by simp [insP]
  | y :: l, h => by
    unfold insP
    have h' := h
    rw [List.pairwise_cons] at h
    split
    · rename_i hx
      rw [List.pairwise_cons]
      refine ⟨fun z hz => ?_, h'⟩
      rcases List.mem_cons.1 hz with e | e
      · rw [e]; exact hx
      · exact ltP_trans hx (h.1 z e)
    · rename_i hx
      split
      · exact h'
      · rename_i hne
        rw [List.pairwise_cons]
        refine ⟨fun z hz => ?_, insP_sorted h.2⟩
        rcases insP_mem.1 hz with e | e
        · rw [e]
          cases h6 : ltP y x
          · exact absurd (ltP_tot h6 (Bool.eq_false_iff.2 hx)) hne
          · rfl
        · exact h.1 z e
theorem insP_len {x : GPair} : ∀ {l : List GPair}, (insP x l).length ≤ l.length + 1
  | [] => by simp [insP]
  | y :: l => by
    unfold insP
    have := insP_len (x := x) (l := l)
    split
    · simp
    · split <;> simp <;> omega
theorem add_put {l : List GPair} {x : GPair} (hL : l.length ≤ 1048576) : ∀ (n k : Nat) (acc : List GPair), k ≤ l.length → l.length < n + k → acc.length ≤ k + 1 → x ∉ l.drop k → spec_l11Add_l0 l n l x acc true (k : Int) = some (acc ++ l.drop k)
  | 0, k, acc, h1, h2, h3, h4 => by omega
  | n + 1, k, acc, h1, h2, h3, h4 => by
    rw [spec_l11Add_l0]
    by_cases hk : k < l.length
    · have e := List.drop_eq_getElem_cons hk
      rw [e] at h4
      have hne : l[k] ≠ x := fun h => h4 (by rw [h]; exact List.mem_cons_self)
      have c1 : decide (l[k] = x) = false := by simp [hne]
      rw [decF hk]
      simp only [if_true, rd_at hk, Option.bind_some, c1, Bool.false_eq_true, if_false, Bool.not_true, app_ok (a := acc) (b := [l[k]]) (by simp; omega), w64_s (show k < 4611686018427387904 by omega)]
      rw [add_put hL n (k + 1) _ (by omega) (by omega) (by simp; omega) (fun h => h4 (List.mem_cons_of_mem _ h)), e]
      simp
    · have hk' : k = l.length := by omega
      subst hk'
      rw [decE]
      simp
theorem add_fresh {l : List GPair} {x : GPair} (hL : l.length ≤ 1048576) (hx : goodPr x = true) (hl : ∀ y ∈ l, goodPr y = true) (hs : l.Pairwise (fun x y => ltP x y = true)) : ∀ (n k : Nat), k ≤ l.length → l.length < n + k → spec_l11Add_l0 l n l x (l.take k) false (k : Int) = some (l.take k ++ insP x (l.drop k))
  | 0, k, h1, h2 => by omega
  | n + 1, k, h1, h2 => by
    rw [spec_l11Add_l0]
    have hlt : (l.take k).length ≤ k := by rw [List.length_take]; omega
    by_cases hk : k < l.length
    · have e := List.drop_eq_getElem_cons hk
      have hg := hl l[k] (List.getElem_mem hk)
      rw [decF hk, e, insP]
      simp only [if_true, rd_at hk, Option.bind_some]
      by_cases hy : l[k] = x
      · have c1 : decide (l[k] = x) = true := by simp [hy]
        simp only [c1, if_true]
        rw [hy, ltP_irr]
        simp only [Bool.false_eq_true, if_false, if_true]
        rw [← hy, ← e, List.take_append_drop]
      · have c1 : decide (l[k] = x) = false := by simp [hy]
        have k1 : spec_l11Key x = some (keyP x) := by rw [spec_l11Key]; rfl
        have k2 : spec_l11Key l[k] = some (keyP l[k]) := by rw [spec_l11Key]; rfl
        simp only [c1, Bool.false_eq_true, if_false, Bool.not_false, if_true, k1, k2, Option.bind_some, key_ord hx hg]
        cases hc : ltP x l[k]
        · simp only [Bool.false_eq_true, if_false, hy]
          rw [app_ok (by simp; omega), Option.bind_some, w64_s (show k < 4611686018427387904 by omega)]
          have e2 : l.take k ++ [l[k]] = l.take (k + 1) := by rw [List.take_add_one, List.getElem?_eq_getElem hk]; rfl
          rw [e2, add_fresh hL hx hl hs n (k + 1) (by omega) (by omega), ← e2, List.append_assoc]
          rfl
        · simp only [if_true]
          rw [spec_l11Add_j1, app_ok (by simp; omega), Option.bind_some, app_ok (by simp; omega), Option.bind_some, w64_s (show k < 4611686018427387904 by omega)]
          rw [add_put hL n (k + 1) _ (by omega) (by omega) (by simp; omega) (fun h => ?_)]
          · simp
          · have hp := (List.pairwise_append.1 ((List.take_append_drop k l).symm ▸ hs)).2.1
            rw [e, List.pairwise_cons] at hp
            have := ltP_trans hc (hp.1 x h)
            rw [ltP_irr] at this; cases this
    · have hk' : k = l.length := by omega
      subst hk'
      rw [decE]
      simp only [Bool.false_eq_true, if_false, Bool.not_false, if_true]
      rw [app_ok (by simp; omega)]
      simp [insP]
theorem spec_add {l : List GPair} {x : GPair} (hL : l.length ≤ 1048576) (hx : goodPr x = true) (hl : ∀ y ∈ l, goodPr y = true) (hs : l.Pairwise (fun x y => ltP x y = true)) : spec_l11Add l x = some (insP x l) := by
  rw [spec_l11Add]
  have := add_fresh hL hx hl hs FU 0 (by omega) (FU_gt (by omega))
  simpa using this
def allP (a b : List GPair) : List GPair := b.foldl (fun l x => insP x l) a
theorem spec_all_l0 {m : List GPair} (hm : m.length ≤ 1000) (hg : ∀ y ∈ m, goodPr y = true) : ∀ (n k : Nat) (l : List GPair), k ≤ m.length → m.length < n + k → l.length ≤ 1000 + k → (∀ y ∈ l, goodPr y = true) → l.Pairwise (fun x y => ltP x y = true) → spec_l11All_l0 m n l (k : Int) = some (allP l (m.drop k))
  | 0, k, l, h1, h2, h3, h4, h5 => by omega
  | n + 1, k, l, h1, h2, h3, h4, h5 => by
    rw [spec_l11All_l0]
    by_cases hk : k < m.length
    · have e := List.drop_eq_getElem_cons hk
      have hgk := hg m[k] (List.getElem_mem hk)
      rw [decF hk]
      simp only [if_true, rd_at hk, Option.bind_some, spec_add (show l.length ≤ 1048576 by omega) hgk h4 h5, w64_s (show k < 4611686018427387904 by omega)]
      rw [spec_all_l0 hm hg n (k + 1) _ (by omega) (by omega) (by have := insP_len (x := m[k]) (l := l); omega) (fun y hy => by
        rcases insP_mem.1 hy with h | h
        · rw [h]; exact hgk
        · exact h4 y h) (insP_sorted h5), e]
      rfl
    · have hk' : k = m.length := by omega
      subst hk'
      rw [decE]
      simp [allP]
theorem allP_mem {z : GPair} : ∀ {b a : List GPair}, z ∈ allP a b ↔ z ∈ a ∨ z ∈ b
  | [], a => by simp [allP]
  | x :: b, a => by
    have : allP a (x :: b) = allP (insP x a) b := rfl
    rw [this, allP_mem, insP_mem, List.mem_cons]
    constructor
    · rintro ((h | h) | h)
      · exact .inr (.inl h)
      · exact .inl h
      · exact .inr (.inr h)
    · rintro (h | h | h)
      · exact .inl (.inr h)
      · exact .inl (.inl h)
      · exact .inr h
theorem allP_sorted : ∀ {b a : List GPair}, a.Pairwise (fun x y => ltP x y = true) → (allP a b).Pairwise (fun x y => ltP x y = true)
  | [], a, h => h
  | x :: b, a, h => by
    have : allP a (x :: b) = allP (insP x a) b := rfl
    rw [this]
    exact allP_sorted (insP_sorted h)
theorem spec_all {a b : List GPair} (ha : a.length ≤ 200) (hb : b.length ≤ 200) (ga : ∀ y ∈ a, goodPr y = true) (gb : ∀ y ∈ b, goodPr y = true) (hs : a.Pairwise (fun x y => ltP x y = true)) : spec_l11All a b = some (setP (a ++ b)) := by
  rw [spec_l11All, app_ok (by simp; omega), Option.bind_some, List.nil_append]
  have := spec_all_l0 (m := b) (by omega) gb FU 0 a (by omega) (FU_gt (by omega)) (by omega) ga hs
  simp only [List.drop_zero] at this
  rw [show (0 : Int) = ((0 : Nat) : Int) from rfl, this]
  congr 1
  refine strictP_ext (allP_sorted hs) (setP_sorted _) fun x => ?_
  rw [allP_mem, setP_mem, List.mem_append]
/- rising pairs -/
def risQ (p : List GPair) : Bool := (List.range p.length).all (risP (fun x y => decide (ordP x y ≥ 0)) p) && decide (p.length ≤ 200)
theorem risQ_true {p : List GPair} (h : risQ p = true) : p.length ≤ 200 ∧ (∀ y ∈ p, goodPr y = true) ∧ p.Pairwise (fun x y => ltP x y = true) := by
  unfold risQ at h
  rw [Bool.and_eq_true, decide_eq_true_eq, List.all_eq_true] at h
  obtain ⟨h, hl⟩ := h
  have hk : ∀ k (hk : k < p.length), goodPr p[k] = true ∧ (k = 0 ∨ ∃ h0 : k - 1 < p.length, ltP p[k - 1] p[k] = true) := by
    intro k hk
    have := h k (List.mem_range.2 hk)
    unfold risP at this
    rw [Bool.and_eq_true, getD_at dP hk, getD_at dP (show k - 1 < p.length by omega)] at this
    refine ⟨this.1, ?_⟩
    by_cases h0 : k = 0
    · exact .inl h0
    · right
      have h2 := this.2
      simp only [Bool.or_eq_true, beq_iff_eq, h0, false_or, Bool.not_eq_true', decide_eq_false_iff_not] at h2
      refine ⟨by omega, ?_⟩
      unfold ltP
      rw [decide_eq_true_eq]
      omega
  refine ⟨hl, fun y hy => ?_, ?_⟩
  · obtain ⟨k, h1, rfl⟩ := List.getElem_of_mem hy
    exact (hk k h1).1
  · rw [List.pairwise_iff_getElem]
    intro i j hi hj hij
    obtain ⟨d, rfl⟩ : ∃ d, j = i + 1 + d := ⟨j - i - 1, by omega⟩
    clear hij
    induction d with
    | zero =>
      rcases (hk (i + 1) (by omega)).2 with h0 | ⟨h0, h1⟩
      · omega
      · simpa using h1
    | succ d ih =>
      have h1 := ih (by omega)
      rcases (hk (i + 1 + (d + 1)) (by omega)).2 with h0 | ⟨h0, h2⟩
      · omega
      · exact ltP_trans h1 (by simpa using h2)
def addV (a b : List GPair) : List GPair × Bool := if risQ a = true ∧ risQ b = true ∧ (setP (a ++ b)).length ≤ 200 then (setP (a ++ b), true) else ([], false)
theorem spec_addpairs {a b : List GPair} (ha : a.length ≤ 1048576) (hb : b.length ≤ 1048576) : spec_AddPairs a b = some (addV a b) := by
  have e1 : spec_l11Rising a = some (risQ a) := by rw [spec_ris ha, ← ris_same]; rfl
  have e2 : spec_l11Rising b = some (risQ b) := by rw [spec_ris hb, ← ris_same]; rfl
  rw [spec_AddPairs, e1, e2]
  unfold addV
  cases h1 : risQ a
  · simp
  · cases h2 : risQ b
    · simp
    · obtain ⟨a1, a2, a3⟩ := risQ_true h1
      obtain ⟨b1, b2, b3⟩ := risQ_true h2
      simp only [Option.bind_some, Bool.not_true, Bool.false_eq_true, if_false, spec_AddPairs_j0, spec_all a1 b1 a2 b2 a3, true_and]
      by_cases h : (setP (a ++ b)).length ≤ 200
      · have : decide (((setP (a ++ b)).length : Int) > 200) = false := by simp; omega
        simp [this, h]
      · have : decide (((setP (a ++ b)).length : Int) > 200) = true := by simp; omega
        simp [this, h]
theorem impl_addpairs {a b : List GPair} (ha : a.length ≤ 1048576) (hb : b.length ≤ 1048576) : impl_AddPairs a b = some (addV a b) := by
  have e1 : impl_areRising a = some (risQ a) := impl_ris ha
  have e2 : impl_areRising b = some (risQ b) := impl_ris hb
  rw [impl_AddPairs, e1, e2]
  unfold addV
  cases h1 : risQ a
  · simp
  · cases h2 : risQ b
    · simp
    · simp only [Option.bind_some, Bool.not_true, Bool.false_eq_true, if_false, impl_AddPairs_j0, concat_eq ha hb, pairs_eq (p := a ++ b) (by rw [List.length_append]; omega), true_and]
      by_cases h : (setP (a ++ b)).length ≤ 200
      · have : decide (((setP (a ++ b)).length : Int) > 200) = false := by simp; omega
        simp [this, h]
      · have : decide (((setP (a ++ b)).length : Int) > 200) = true := by simp; omega
        simp [this, h]
end Go.Proofs.Ytihgcgccajikpaa
