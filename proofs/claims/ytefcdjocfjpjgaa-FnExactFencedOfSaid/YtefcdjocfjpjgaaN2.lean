/- Plain facts for FnExactFencedOf; no condition. -/

import Derived.Test.YtefcdjocfjpjgaaN1
set_option linter.unusedVariables false
namespace Go.Proofs.Ytefcdjocfjpjgaa
open Go Go.T

/-- what a good act is -/
def goodA (a : GAct) : Bool :=
  if a.Kind = 1 then decide (0 ≤ a.Cell) && decide (a.Cell ≤ 1)
  else if a.Kind = 2 then decide (0 ≤ a.Cell) && decide (a.Cell ≤ 1) && decide (a.V = 0)
  else if a.Kind = 3 then decide (a.Cell = 0) && decide (a.V = 0)
  else false
theorem spec_act {a : GAct} (h : wfGAct a) : spec_l19Act a = some (goodA a) := by
  have hv := h.2.2
  unfold spec_l19Act goodA spec_l1In
  simp only [PS, spec_same0 hv]
  by_cases h1 : a.Kind = 1
  · by_cases h2 : 0 ≤ a.Cell <;> simp [h1, h2]
  · by_cases h3 : a.Kind = 2
    · by_cases h2 : 0 ≤ a.Cell <;> by_cases h4 : a.Cell ≤ 1 <;> simp [h3, h2, h4]
    · by_cases h5 : a.Kind = 3
      · by_cases h6 : a.Cell = 0 <;> simp [h5, h6]
      · simp [h1, h3, h5]
theorem impl_act (a : GAct) : impl_Act_isGood a = some (goodA a) := by
  unfold impl_Act_isGood goodA impl_in
  simp only [PS, impl_same0]
  by_cases h1 : a.Kind = 1
  · by_cases h2 : 0 ≤ a.Cell <;> simp [h1, h2]
  · by_cases h3 : a.Kind = 2
    · by_cases h2 : 0 ≤ a.Cell <;> by_cases h4 : a.Cell ≤ 1 <;> simp [h3, h2, h4]
    · by_cases h5 : a.Kind = 3
      · by_cases h6 : a.Cell = 0 <;> simp [h5, h6]
      · simp [h1, h3, h5]
def goodLt (p : List (List GAct)) : Bool := p.all (fun l => l.all goodA && decide (l.length ≤ 6)) && decide (p.length ≤ 3)
theorem spec_lit_l1 {K : Int → Option Bool} {p : List (List GAct)} {v : Int} {l : List GAct} (hl : l.length ≤ 1048576) (hw : ∀ a ∈ l, wfGAct a) : ∀ (n k : Nat), k ≤ l.length → l.length < n + k →
    spec_GoodLitmus_l1 K p v l n k = if (l.drop k).all goodA && decide (l.length ≤ 6) then K (w64 (v + 1)) else some false
  | 0, k, h1, h2 => by omega
  | n + 1, k, h1, h2 => by
    rw [spec_GoodLitmus_l1]
    by_cases hk : k < l.length
    · rw [List.drop_eq_getElem_cons hk, List.all_cons]
      simp only [PS, hk, rd_at hk, w64_s (k := k) (by omega), spec_act (hw _ (List.getElem_mem hk)), spec_lit_l1 hl hw n (k + 1) hk (by omega)]
      cases goodA l[k] <;> simp
    · have : k = l.length := by omega
      subst this
      by_cases h6 : l.length ≤ 6
      · have : ¬ (l.length : Int) > 6 := by omega
        simp [h6, this]
      · have : (l.length : Int) > 6 := by omega
        simp [h6, this]
theorem spec_lit_l0 {p : List (List GAct)} (hp : smActSS p) (hw : ∀ l ∈ p, ∀ a ∈ l, wfGAct a) : ∀ (n k : Nat), k ≤ p.length → p.length < n + k →
    spec_GoodLitmus_l0 p n k = some ((p.drop k).all (fun l => l.all goodA && decide (l.length ≤ 6)) && decide (p.length ≤ 3))
  | 0, k, h1, h2 => by omega
  | n + 1, k, h1, h2 => by
    have hpl := hp.1
    rw [spec_GoodLitmus_l0]
    by_cases hk : k < p.length
    · have hm := List.getElem_mem hk
      have hx := hp.2 _ hm
      have hx' : p[k].length ≤ 1048576 := hx
      rw [List.drop_eq_getElem_cons hk, List.all_cons]
      have e := spec_lit_l1 (K := spec_GoodLitmus_l0 p n) (p := p) (v := k) hx' (hw _ hm) FU 0 (by omega) (by have := FU_gt (n := p[k].length) (by omega); omega)
      simp only [PS, hk, rd_at hk]
      rw [show (0 : Int) = ((0 : Nat) : Int) from rfl, e, w64_s (k := k) (by omega), spec_lit_l0 hp hw n (k + 1) hk (by omega), List.drop_zero]
      cases p[k].all goodA && decide (p[k].length ≤ 6) <;> simp
    · have : k = p.length := by omega
      subst this
      simp; omega
theorem spec_lit {p : List (List GAct)} (hp : smActSS p) (hw : ∀ l ∈ p, ∀ a ∈ l, wfGAct a) : spec_GoodLitmus p = some (goodLt p) := by
  rw [spec_GoodLitmus]
  have hpl := hp.1
  exact spec_lit_l0 hp hw FU 0 (by omega) (by have := FU_gt (n := p.length) (by omega); omega)
/-- a search for an element that some test tells -/
theorem findL {α : Type} {p : List α} {t : α → Option Bool} {q : α → Bool} {F : Nat → Int → Option Int}
    (hF : ∀ n v, F (n + 1) v = if (decide (v < (p.length : Int))) = true then Option.bind (rd p v) fun x => Option.bind (t x) fun r => if r = true then some v else F n (w64 (v + 1)) else some (-1))
    (hp : p.length < 1099511627776) (ht : ∀ x ∈ p, t x = some (q x)) : ∃ r : Int, F FU 0 = some r ∧ decide (r ≥ 0) = p.any q := by
  have key : ∀ (n k : Nat), k ≤ p.length → p.length < n + k → ∃ r : Int, F n k = some r ∧ decide (r ≥ 0) = (p.drop k).any q := by
    intro n
    induction n with
    | zero => intro k h1 h2; omega
    | succ n ih =>
      intro k h1 h2
      rw [hF]
      by_cases hk : k < p.length
      · rw [List.drop_eq_getElem_cons hk, List.any_cons]
        obtain ⟨r, e1, e2⟩ := ih (k + 1) hk (by omega)
        simp only [PS, hk, rd_at hk, ht _ (List.getElem_mem hk), w64_s (k := k) (by omega), e1]
        cases q p[k]
        · exact ⟨r, by simp, by simpa using e2⟩
        · exact ⟨k, by simp, by simp⟩
      · have : k = p.length := by omega
        subst this
        exact ⟨-1, by simp, by simp⟩
  simpa using key FU 0 (by omega) (by have := FU_gt hp; omega)
theorem impl_lit_l0 {p : List (List GAct)} (hp : smActSS p) : ∀ (n k : Nat), k ≤ p.length → p.length < n + k →
    impl_GoodLitmus_l0 p n k = some ((p.drop k).all (fun l => l.all goodA && decide (l.length ≤ 6)) && decide (p.length ≤ 3))
  | 0, k, h1, h2 => by omega
  | n + 1, k, h1, h2 => by
    have hpl := hp.1
    rw [impl_GoodLitmus_l0]
    by_cases hk : k < p.length
    · have hm := List.getElem_mem hk
      have hx : p[k].length ≤ 1048576 := hp.2 _ hm
      rw [List.drop_eq_getElem_cons hk, List.all_cons]
      obtain ⟨r, e1, e2⟩ := findL (p := p[k]) (t := impl_GoodLitmus_1) (q := fun a => !goodA a) (F := slices_IndexFunc_Act_Act_104__impl_GoodLitmus_1_l0 p[k]) (by intros; rw [slices_IndexFunc_Act_Act_104__impl_GoodLitmus_1_l0]) (by omega) (fun a _ => by rw [impl_GoodLitmus_1, impl_act]; rfl)
      have e3 : slices_ContainsFunc_Act_Act_73__impl_GoodLitmus_1 p[k] = some (!p[k].all goodA) := by
        rw [slices_ContainsFunc_Act_Act_73__impl_GoodLitmus_1, slices_IndexFunc_Act_Act_104__impl_GoodLitmus_1, e1]
        simp only [PS, e2]
        rw [List.not_all_eq_any_not]
      simp only [PS, hk, rd_at hk, e3, w64_s (k := k) (by omega), impl_lit_l0 hp n (k + 1) hk (by omega)]
      by_cases h6 : p[k].length ≤ 6
      · have : ¬ (p[k].length : Int) > 6 := by omega
        cases p[k].all goodA <;> simp [h6, this]
      · have : (p[k].length : Int) > 6 := by omega
        simp [h6, this]
    · have : k = p.length := by omega
      subst this
      simp; omega
theorem impl_lit {p : List (List GAct)} (hp : smActSS p) : impl_GoodLitmus p = some (goodLt p) := by
  rw [impl_GoodLitmus]
  have hpl := hp.1
  exact impl_lit_l0 hp FU 0 (by omega) (by have := FU_gt (n := p.length) (by omega); omega)
end Go.Proofs.Ytefcdjocfjpjgaa
