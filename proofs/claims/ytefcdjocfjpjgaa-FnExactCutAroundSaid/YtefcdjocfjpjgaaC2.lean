/- Plain facts for FnExactCutAround; no condition. -/

import Derived.Test.YtefcdjocfjpjgaaC1
set_option linter.unusedVariables false
namespace Go.Proofs.Ytefcdjocfjpjgaa
open Go Go.T

/-- the event at a place -/
def evAt (p : List GEvent) (i : Nat) : GEvent := p[i]?.getD ⟨0, 0, 0, 0, 0⟩
theorem evAt_rd {p : List GEvent} {i : Nat} (h : i < p.length) : rd p (i : Int) = some (evAt p i) := by rw [rd_at h]; simp [evAt, h]
theorem evAt_good {p : List GEvent} {i : Nat} (hg : p.all goodE = true) (h : i < p.length) : goodE (evAt p i) = true := by
  have : evAt p i = p[i] := by simp [evAt, h]
  rw [this]
  exact List.all_eq_true.1 hg _ (List.getElem_mem h)
def hangAt (p : List GEvent) (i j : Nat) : Bool := hangB (evAt p i) (evAt p j)

theorem specCut_l1 {p : List GEvent} {m : Nat} (hp : p.length ≤ 200) (hg : p.all goodE = true) (hm : m < p.length) {K : List Bool → List Int → Int → Option (List Int × Bool)} {i : Nat} (hi : i ≤ m) {c : List Int} : ∀ (n k : Nat) (f : Nat → Bool), i < k → k ≤ m + 1 → m + 1 < n + k →
    spec_CutAround_l1 K p m i n (tbl f (m + 1)) c k =
      (if (f i || exi (fun j => f j && hangAt p i j) k (m + 1 - k)) = true then
        Option.bind (rd c (evAt p i).Thread) fun x => K (tbl (fun j => if j = i then true else f j) (m + 1)) (c.set (Int.toNat (evAt p i).Thread) (w64 (x + 1))) ((i : Int) - 1)
      else K (tbl (fun j => if j = i then false else f j) (m + 1)) c ((i : Int) - 1))
  | 0, k, f, h1, h2, h3 => by omega
  | n + 1, k, f, h1, h2, h3 => by
    rw [spec_CutAround_l1]
    by_cases hk : k ≤ m
    · have d1 : decide ((k : Int) ≤ (m : Int)) = true := by simp; omega
      have e : m + 1 - k = (m + 1 - (k + 1)) + 1 := by omega
      simp only [PS, d1, tbl_rd (f := f) (show i < m + 1 by omega), tbl_rd (f := f) (show k < m + 1 by omega), tbl_set, w64_s (k := k) (by omega)]
      rw [e, exi]
      have step : ∀ b : Bool, spec_CutAround_l1 K p m i n (tbl (fun j => if j = i then b else f j) (m + 1)) c ((k + 1 : Nat) : Int) = (if (b || exi (fun j => f j && hangAt p i j) (k + 1) (m + 1 - (k + 1))) = true then
        Option.bind (rd c (evAt p i).Thread) fun x => K (tbl (fun j => if j = i then true else f j) (m + 1)) (c.set (Int.toNat (evAt p i).Thread) (w64 (x + 1))) ((i : Int) - 1)
      else K (tbl (fun j => if j = i then false else f j) (m + 1)) c ((i : Int) - 1)) := by
        intro b
        rw [specCut_l1 hp hg hm hi n (k + 1) (fun j => if j = i then b else f j) (by omega) (by omega) (by omega)]
        have e1 : exi (fun j => (if j = i then b else f j) && hangAt p i j) (k + 1) (m + 1 - (k + 1)) = exi (fun j => f j && hangAt p i j) (k + 1) (m + 1 - (k + 1)) := exi_congr _ _ (fun j h4 h5 => by rw [if_neg (by omega)])
        have e2 : ∀ x : Bool, tbl (fun j => if j = i then x else (fun j => if j = i then b else f j) j) (m + 1) = tbl (fun j => if j = i then x else f j) (m + 1) := fun x => tbl_congr (fun j _ => by by_cases h : j = i <;> simp [h])
        rw [e1, e2, e2]
        simp only [if_true]
      cases hfi : f i
      · cases hfk : f k
        · simp only [PS, step]; simp
        · simp only [PS, evAt_rd (show i < p.length by omega), evAt_rd (show k < p.length by omega), spec_hang_eq (evAt_good hg (show i < p.length by omega)) (evAt_good hg (show k < p.length by omega)), step]
          simp [hangAt]
      · simp only [PS, step]; simp
    · have hk' : k = m + 1 := by omega
      subst hk'
      have d1 : decide (((m + 1 : Nat) : Int) ≤ (m : Int)) = false := by simp; omega
      simp only [PS, d1, tbl_rd (f := f) (show i < m + 1 by omega), evAt_rd (show i < p.length by omega)]
      have e2 : ∀ x : Bool, f i = x → tbl (fun j => if j = i then x else f j) (m + 1) = tbl f (m + 1) := fun x hx => tbl_congr (fun j _ => by by_cases h : j = i <;> simp [h, hx])
      rw [w64_p (by omega)]
      cases hfi : f i
      · rw [e2 false hfi]; simp [exi]
      · rw [e2 true hfi]; simp [exi]
theorem implCut_l2 {p : List GEvent} (hp : p.length ≤ 200) (hg : p.all goodE = true) {K : List Bool → List Int → Int → Option (List Int × Bool)} {i : Nat} (hi : i < p.length) {c : List Int} : ∀ (n k : Nat) (g : Nat → Bool), k ≤ i → i < n + k →
    impl_CutAround_l2 K p i n (tbl g p.length) c k = K (tbl (fun j => if k ≤ j ∧ j < i then g j || hangAt p j i else g j) p.length) c ((i : Int) - 1)
  | 0, k, g, h1, h2 => by omega
  | n + 1, k, g, h1, h2 => by
    rw [impl_CutAround_l2]
    by_cases hk : k < i
    · simp only [PS, hk, tbl_rd (f := g) (show k < p.length by omega), evAt_rd (show i < p.length by omega), evAt_rd (show k < p.length by omega), impl_hang_eq (evAt_good hg (show k < p.length by omega)) (evAt_good hg hi), tbl_set, w64_s (k := k) (by omega), implCut_l2 hp hg hi n (k + 1) _ hk (show i < n + (k + 1) by omega)]
      have e2 : ∀ x : Bool, x = (g k || hangAt p k i) → tbl (fun j => if k + 1 ≤ j ∧ j < i then (if j = k then x else g j) || hangAt p j i else if j = k then x else g j) p.length = tbl (fun j => if k ≤ j ∧ j < i then g j || hangAt p j i else g j) p.length := fun x hx => tbl_congr (fun j _ => by
        by_cases h : j = k
        · subst h
          rw [if_neg (by omega), if_pos rfl, if_pos (by omega), hx]
        · simp only [h, if_false]
          by_cases h' : k ≤ j ∧ j < i
          · rw [if_pos (by omega), if_pos h']
          · rw [if_neg (by omega), if_neg h'])
      cases hgk : g k
      · simp only [PS, ]
        rw [e2 _ (by rw [hgk]; rfl)]
      · simp only [PS, ]
        rw [e2 true (by rw [hgk]; rfl)]
    · have : k = i := by omega
      subst this
      simp only [PS, hk]
      rw [w64_p (by omega)]
      congr 1
      exact tbl_congr (fun j _ => by rw [if_neg (by omega)])
theorem cut_sim {p : List GEvent} {m : Nat} (hp : p.length ≤ 200) (hg : p.all goodE = true) (hm : m < p.length) : ∀ (n t : Nat) (f g : Nat → Bool) (c : List Int), t ≤ m + 1 → t < n → c.length = 5 →
    (∀ k, k < t → f k = decide (k = m) ∧ g k = (decide (k = m) || exi (fun j => f j && hangAt p k j) t (m + 1 - t))) →
    ∃ r, spec_CutAround_l0 p m n (tbl f (m + 1)) c ((t : Int) - 1) = some r ∧ impl_CutAround_l1 p n (tbl g p.length) c ((t : Int) - 1) = some r ∧ r.1.length = 5
  | 0, t, f, g, c, h1, h2, h3, h4 => by omega
  | n + 1, 0, f, g, c, h1, h2, h3, h4 => by
    rw [spec_CutAround_l0, impl_CutAround_l1]
    exact ⟨(c, true), by simp, by simp, h3⟩
  | n + 1, i + 1, f, g, c, h1, h2, h3, h4 => by
    rw [spec_CutAround_l0, impl_CutAround_l1]
    have ei : (((i + 1 : Nat) : Int) - 1) = (i : Int) := by omega
    have d1 : decide ((i : Int) ≥ 0) = true := by simp
    have hi : i < p.length := by omega
    obtain ⟨hf, hgi⟩ := h4 i (by omega)
    have hth : 0 ≤ (evAt p i).Thread ∧ (evAt p i).Thread ≤ 4 := by
      have := evAt_good hg hi
      unfold goodE at this
      simp only [Bool.and_eq_true] at this
      exact inr_true.1 this.1.1.1.1.1.1
    have hthn : (evAt p i).Thread = (((evAt p i).Thread.toNat : Nat) : Int) := by omega
    have hlt : (evAt p i).Thread.toNat < c.length := by omega
    have hrd : rd c (evAt p i).Thread = some c[(evAt p i).Thread.toNat] := rd_eq hth.1 (List.getElem?_eq_getElem hlt)
    rw [ei]
    simp only [PS, d1, tbl_rd (f := g) hi]
    have e0 : (f i || exi (fun j => f j && hangAt p i j) (i + 1) (m + 1 - (i + 1))) = g i := by rw [hf, hgi]
    rw [w64_s (by omega), specCut_l1 hp hg hm (by omega) FU (i + 1) f (by omega) (by omega) (by have := FU_gt (n := m + 1) (by omega); omega), e0]
    have inv : ∀ (b : Bool) (k : Nat), k < i → exi (fun j => (if j = i then b else f j) && hangAt p k j) i (m + 1 - i) = ((b && hangAt p k i) || exi (fun j => f j && hangAt p k j) (i + 1) (m + 1 - (i + 1))) := by
      intro b k hk
      have e : m + 1 - i = (m + 1 - (i + 1)) + 1 := by omega
      rw [e, exi, if_pos rfl]
      congr 1
      exact exi_congr _ _ (fun j h5 h6 => by rw [if_neg (by omega)])
    cases hb : g i
    · simp only [PS, w64_p (k := i) (by omega)]
      exact cut_sim hp hg hm n i _ g c (by omega) (by omega) h3 (fun k hk => by
        obtain ⟨a1, a2⟩ := h4 k (by omega)
        refine ⟨by rw [if_neg (by omega)]; exact a1, ?_⟩
        rw [inv false k hk, a2]; rfl)
    · simp only [PS, evAt_rd hi, hrd]
      rw [show impl_CutAround_l2 _ p (i : Int) FU (tbl g p.length) _ 0 = _ from implCut_l2 hp hg hi FU 0 g (by omega) (by have := FU_gt (n := i) (by omega); omega)]
      exact cut_sim hp hg hm n i _ _ _ (by omega) (by omega) (by rw [List.length_set]; exact h3) (fun k hk => by
        obtain ⟨a1, a2⟩ := h4 k (by omega)
        refine ⟨by rw [if_neg (by omega)]; exact a1, ?_⟩
        rw [inv true k hk, if_pos (by omega), a2]
        cases decide (k = m) <;> cases hangAt p k i <;> simp)
theorem cut_both {p : List GEvent} {i : Int} (hp : p.length < 1099511627776) : ∃ r, spec_CutAround p i = some r ∧ impl_CutAround p i = some r ∧ r.1.length ≤ 5 := by
  rw [spec_CutAround, impl_CutAround]
  simp only [PS, spec_trace_eq hp, impl_trace_eq hp, spec_in_eq, isPlace_eq hp, w64_id (n := (p.length : Int) - 1) (by omega)]
  cases hg : goodT p
  · exact ⟨([], false), by simp, by simp, by simp⟩
  · cases hi : inr i 0 ((p.length : Int) - 1)
    · exact ⟨([], false), by simp, by simp, by simp⟩
    · rw [inr_true] at hi
      unfold goodT at hg
      simp only [Bool.and_eq_true, decide_eq_true_eq] at hg
      obtain ⟨m, rfl⟩ : ∃ m : Nat, i = m := ⟨i.toNat, by omega⟩
      have hm : m < p.length := by omega
      simp only [PS, impl_CutAround_j0, mk_ok (z := false) hp, w64_s (k := m) (by omega), mk_ok (z := false) (n := m + 1) (by omega), tbl_rep (x := false), tbl_set, tbl_rd (f := fun _ => false) hm, tbl_rd (f := fun _ => false) (show m < m + 1 by omega)]
      have h5 : mk (0 : Int) 5 = some (List.replicate 5 0) := mk_ok (n := 5) (by omega)
      rw [h5]
      have em : (m : Int) = ((m + 1 : Nat) : Int) - 1 := by omega
      simp only [PS, ]
      obtain ⟨r, e1, e2, e3⟩ := cut_sim hg.2 hg.1 hm FU (m + 1) (fun j => if j = m then true else false) (fun j => if j = m then true else false) (List.replicate 5 0) (by omega) (by have := FU_gt (n := m + 1) (by omega); omega) (by simp) (fun k hk => by
        constructor
        · by_cases h : k = m <;> simp [h]
        · rw [Nat.sub_self, exi]; by_cases h : k = m <;> simp [h])
      rw [← em] at e1 e2
      exact ⟨r, e1, e2, by omega⟩
theorem law_CutAround (p : List GEvent) (i : Int) (hq : p.length ≤ 9223372036854775807) (wi : (Lit.int .i64 i).wf = true) : laws_FnExactCutAround p i = some true := by
  rw [laws_FnExactCutAround]
  simp only [PS, szEventS_ok hq]
  by_cases hs : p.length ≤ 1048576
  · have hp : p.length < 1099511627776 := by omega
    obtain ⟨r, e1, e2, e3⟩ := cut_both (i := i) hp
    obtain ⟨v1, a1, m1, m2, m3⟩ := markEventS_ok hp
    obtain ⟨a2, n1, n2, n3⟩ := markIntS_ok (a := r.1) (by omega)
    have h1 : decide (1048576 - (p.length : Int) < 0) = false := by simp; omega
    have h2 : decide (v1 < 0) = false := by simp; omega
    have h3 : decide (1 + (r.1.length : Int) < 0) = false := by simp; omega
    simp only [PS, hs, h1, toEventS_id hp, e1, e2, eqIntS_refl (p := r.1) (by omega), laws_FnExactCutAround_j0, eqEventS_refl hp, m1, sameLen_ok m3, h2, laws_FnExactCutAround_j1, n1, sameLen_ok n2, n3, h3, laws_FnExactCutAround_j2]
  · simp [hs]
end Go.Proofs.Ytefcdjocfjpjgaa
