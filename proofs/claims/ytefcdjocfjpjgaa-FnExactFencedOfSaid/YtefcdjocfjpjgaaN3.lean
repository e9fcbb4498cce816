/- Plain facts for FnExactFencedOf; no condition. -/

import Derived.Test.YtefcdjocfjpjgaaN2
set_option linter.unusedVariables false
namespace Go.Proofs.Ytefcdjocfjpjgaa
open Go Go.T

def fence (l : List GAct) : List GAct := l.flatMap fun a => if a.Kind = 1 then [a, ⟨3, 0, 0⟩] else [a]
theorem fence_len (l : List GAct) : (fence l).length ≤ 2 * l.length := by
  induction l with
  | nil => simp [fence]
  | cons a l ih =>
    unfold fence at ih ⊢
    rw [List.flatMap_cons, List.length_append, List.length_cons]
    have : (if a.Kind = 1 then [a, (⟨3, 0, 0⟩ : GAct)] else [a]).length ≤ 2 := by split <;> simp
    omega
theorem fence_l1 {KS KI : List (List GAct) → Int → Option (List (List GAct) × Bool)} {p q : List (List GAct)} {v : Int} {x : List GAct} {o : List (List GAct)} (hx : x.length ≤ 6) (ho : o.length ≤ 100) :
    ∀ (n k : Nat) (a : List GAct), k ≤ x.length → x.length < n + k → a = fence (x.take k) → spec_FencedOf_l1 KS p v x n o a k = KS (o ++ [fence x]) (w64 (v + 1)) ∧ impl_FencedOf_l1 KI q v x n o a k = KI (o ++ [fence x]) (w64 (v + 1))
  | 0, k, a, h1, h2, h3 => by omega
  | n + 1, k, a, h1, h2, h3 => by
    rw [spec_FencedOf_l1, impl_FencedOf_l1]
    by_cases hk : k < x.length
    · have hal : a.length ≤ 12 := by
        rw [h3]
        have := fence_len (x.take k)
        rw [List.length_take] at this
        omega
      have e : fence (x.take (k + 1)) = a ++ (if x[k].Kind = 1 then [x[k], (⟨3, 0, 0⟩ : GAct)] else [x[k]]) := by
        rw [h3]
        unfold fence
        rw [List.take_add_one, List.getElem?_eq_getElem hk, Option.toList_some, List.flatMap_append, List.flatMap_cons, List.flatMap_nil, List.append_nil]
      have next := fence_l1 (KS := KS) (KI := KI) (p := p) (q := q) (v := v) hx ho n (k + 1) (fence (x.take (k + 1))) hk (by omega) rfl
      simp only [PS, hk, rd_at hk, w64_s (k := k) (by omega), app_ok (a := a) (b := [x[k]]) (by simp; omega), app_ok (a := a ++ [x[k]]) (b := [(GAct.mk 3 0 0)]) (by simp; omega)]
      by_cases h1 : x[k].Kind = 1
      · have h1' : (x[k].Kind == 1) = true := by simp [h1]
        rw [if_pos h1] at e
        rw [if_pos h1', if_pos h1']
        have : a ++ [x[k]] ++ [(⟨3, 0, 0⟩ : GAct)] = fence (x.take (k + 1)) := by rw [e]; simp
        rw [this]; exact next
      · have h1' : ¬ (x[k].Kind == 1) = true := by simp [h1]
        rw [if_neg h1] at e
        rw [if_neg h1', if_neg h1', ← e]; exact next
    · have : k = x.length := by omega
      subst this
      rw [List.take_length] at h3
      subst h3
      simp only [PS, Nat.lt_irrefl, app_ok (a := o) (b := [fence x]) (by simp; omega)]
      exact ⟨by first | rfl | trivial, by first | rfl | trivial⟩
theorem fence_spec {p : List (List GAct)} (hp : p.length ≤ 3) (h6 : ∀ l ∈ p, l.length ≤ 6) : ∀ (n k : Nat) (o : List (List GAct)), k ≤ p.length → p.length < n + k → o = (p.take k).map fence →
    spec_FencedOf_l0 p n o k = if (p.drop k).any (fun l => decide (l.length > 3)) then some ([], false) else some (p.map fence, true)
  | 0, k, o, h1, h2, h3 => by omega
  | n + 1, k, o, h1, h2, h3 => by
    rw [spec_FencedOf_l0]
    by_cases hk : k < p.length
    · have hm := List.getElem_mem hk
      have hx := h6 _ hm
      rw [List.drop_eq_getElem_cons hk, List.any_cons]
      simp only [PS, hk, rd_at hk]
      by_cases h3' : p[k].length > 3
      · have : (p[k].length : Int) > 3 := by omega
        simp [h3', this]
      · have h3i : ¬ (p[k].length : Int) > 3 := by omega
        have hol : o.length ≤ 100 := by rw [h3]; simp; omega
        have := (fence_l1 (KS := spec_FencedOf_l0 p n) (KI := spec_FencedOf_l0 p n) (p := p) (q := p) (v := (k : Int)) (o := o) hx hol FU 0 [] (by omega) (by have := FU_gt (n := p[k].length) (by omega); omega) (by simp [fence])).1
        rw [if_neg (by simpa using h3i), show (0 : Int) = ((0 : Nat) : Int) from rfl, this, w64_s (k := k) (by omega)]
        rw [fence_spec hp h6 n (k + 1) (o ++ [fence p[k]]) hk (by omega) (by rw [List.take_add_one, List.getElem?_eq_getElem hk, h3, Option.toList_some, List.map_append]; rfl)]
        simp [h3']
    · have : k = p.length := by omega
      subst this
      rw [List.take_length] at h3
      simp [h3]
theorem fence_impl {p : List (List GAct)} (hp : p.length ≤ 3) (h6 : ∀ l ∈ p, l.length ≤ 6) : ∀ (n k : Nat) (o : List (List GAct)), k ≤ p.length → p.length < n + k → o = (p.take k).map fence →
    impl_FencedOf_l0 p n o k = some (p.map fence, true)
  | 0, k, o, h1, h2, h3 => by omega
  | n + 1, k, o, h1, h2, h3 => by
    rw [impl_FencedOf_l0]
    by_cases hk : k < p.length
    · have hm := List.getElem_mem hk
      have hx := h6 _ hm
      simp only [PS, hk, rd_at hk]
      have hol : o.length ≤ 100 := by rw [h3]; simp; omega
      have := (fence_l1 (KS := impl_FencedOf_l0 p n) (KI := impl_FencedOf_l0 p n) (p := p) (q := p) (v := (k : Int)) (o := o) hx hol FU 0 [] (by omega) (by have := FU_gt (n := p[k].length) (by omega); omega) (by simp [fence])).2
      rw [show (0 : Int) = ((0 : Nat) : Int) from rfl, this, w64_s (k := k) (by omega)]
      rw [fence_impl hp h6 n (k + 1) (o ++ [fence p[k]]) hk (by omega) (by rw [List.take_add_one, List.getElem?_eq_getElem hk, h3, Option.toList_some, List.map_append]; rfl)]
    · have : k = p.length := by omega
      subst this
      rw [List.take_length] at h3
      simp [h3]
theorem fenced_both {p : List (List GAct)} (hp : smActSS p) (hw : ∀ l ∈ p, ∀ a ∈ l, wfGAct a) : ∃ r : List (List GAct) × Bool, spec_FencedOf p = some r ∧ impl_FencedOf p = some r ∧ smActSS r.1 := by
  have hpl := hp.1
  rw [spec_FencedOf, impl_FencedOf, spec_lit hp hw, impl_lit hp]
  simp only [PS, ]
  cases hg : goodLt p
  · exact ⟨([], false), by simp, by simp, by simp [smActSS]⟩
  · unfold goodLt at hg
    simp only [Bool.and_eq_true, decide_eq_true_eq, List.all_eq_true] at hg
    have h6 : ∀ l ∈ p, l.length ≤ 6 := fun l hl => (hg.1 l hl).2
    obtain ⟨r, e1, e2⟩ := findL (p := p) (t := impl_FencedOf_1) (q := fun l => decide (l.length > 3)) (F := slices_IndexFunc_Act_Act_76__impl_FencedOf_1_l0 p) (by intros; rw [slices_IndexFunc_Act_Act_76__impl_FencedOf_1_l0]) (by omega) (fun l _ => by
      rw [impl_FencedOf_1]
      congr 1
      by_cases h : l.length > 3
      · rw [decide_eq_true h, decide_eq_true (by omega)]
      · rw [decide_eq_false h, decide_eq_false (by omega)])
    have e3 : slices_ContainsFunc_Act_Act_44__impl_FencedOf_1 p = some (p.any fun l => decide (l.length > 3)) := by
      rw [slices_ContainsFunc_Act_Act_44__impl_FencedOf_1, slices_IndexFunc_Act_Act_76__impl_FencedOf_1, e1]
      simp only [PS, e2]
    have f1 := fence_spec hg.2 h6 FU 0 [] (by omega) (by have := FU_gt (n := p.length) (by omega); omega) (by simp)
    have f2 := fence_impl hg.2 h6 FU 0 [] (by omega) (by have := FU_gt (n := p.length) (by omega); omega) (by simp)
    rw [List.drop_zero] at f1
    simp only [PS, e3]
    rw [show (0 : Int) = ((0 : Nat) : Int) from rfl, f1, f2]
    cases p.any fun l => decide (l.length > 3)
    · refine ⟨(p.map fence, true), by simp, by simp, ?_, ?_⟩
      · simp; omega
      · intro l hl
        obtain ⟨x, hx, rfl⟩ := List.mem_map.1 hl
        have := fence_len x
        have := h6 x hx
        show (fence x).length ≤ 1048576
        omega
    · exact ⟨([], false), by simp, by simp, by simp [smActSS]⟩
theorem law_FencedOf (p : List (List GAct)) (g : p.length ≤ 9223372036854775807 ∧ ∀ y0 ∈ p, y0.length ≤ 9223372036854775807 ∧ ∀ y1 ∈ y0, wfGAct y1) : laws_FnExactFencedOf p = some true :=
  law_FencedOf_of p g fun sm => fenced_both sm (fun l hl a ha => (g.2 l hl).2 a ha)
end Go.Proofs.Ytefcdjocfjpjgaa
