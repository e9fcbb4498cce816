/- Plain facts for FnExactLayersOf; no condition. -/

import Derived.Test.YtkmjbfmmcijojaaQFnExactLayersOf
set_option linter.unusedVariables false
namespace Go.Proofs.Ytkmjbfmmcijojaa
open Go Go.T

def DV (d : List Int) (N : Nat) : Prop := d.length = N ∧ ∀ i, i < N → ∃ c : Nat, d[i]? = some (c : Int) ∧ c ≤ i
theorem most_eq (x y : Nat) : spec_l1Most (x : Int) (y : Int) = some ((max x y : Nat) : Int) := by
  unfold spec_l1Most
  by_cases h : (x : Int) > (y : Int)
  · simp only [h, decide_true, if_true]; congr 1; omega
  · simp only [h, decide_false, Bool.false_eq_true, if_false]; congr 1; omega
theorem imax_eq (x y : Nat) : imax (x : Int) (y : Int) = ((max x y : Nat) : Int) := by
  unfold imax; split <;> omega
theorem rd_dv {d : List Int} {i c : Nat} (h : d[i]? = some (c : Int)) : rd d (i : Int) = some (c : Int) := by rw [rd_nat, h]
theorem DV_set {d : List Int} {N j c : Nat} (h : DV d N) (hj : j < N) (hc : c ≤ j) : DV (d.set j (c : Int)) N := by
  refine ⟨by simp [h.1], fun i hi => ?_⟩
  by_cases e : i = j
  · subst e; exact ⟨c, by simp [h.1, hi], hc⟩
  · obtain ⟨x, h1, h2⟩ := h.2 i hi
    exact ⟨x, by rw [List.getElem?_set_ne (by omega)]; exact h1, h2⟩
theorem lay_l1 {p : List GEvent} {a : List (Vector Int 4)} {v : Vector Int 4} {j : Nat} {o : List (List Int)} {KS : List (List Bool) → List Int → List (List Int) → Int → Option (List (List Int) × Bool)} {KI : List (List Int) → List Int → List (Vector Int 4) → Int → Option (List (List Int) × Bool)}
    (hl : p.length ≤ 200) (hj : j < p.length) (hv : VR v (aheadF p j)) : ∀ (n m i : Nat) (d : List Int), i + m = j → m < n → DV d p.length →
    ∃ d', DV d' p.length ∧ spec_LayersOf_l1 KS p j n (tbl (fun i => tbl (aheadF p i) p.length) p.length) d o i = spec_LayersOf_l2 KS p j FU (tbl (fun i => tbl (aheadF p i) p.length) p.length) d' o ∧
      impl_LayersOf_l1 KI a j n o d v a i = impl_LayersOf_l2 KI a j FU o d' a
  | 0, m, i, d, h1, h2, hd => by omega
  | n + 1, 0, i, d, h1, h2, hd => by
    have : i = j := by omega
    subst this
    refine ⟨d, hd, ?_, ?_⟩
    · rw [spec_LayersOf_l1]; simp
    · rw [impl_LayersOf_l1]; simp
  | n + 1, m + 1, i, d, h1, h2, hd => by
    have hi : i < j := by omega
    have c1 : decide ((i : Int) < (j : Int)) = true := by simp; omega
    have r1 : rd (tbl (fun i => tbl (aheadF p i) p.length) p.length) (j : Int) = some (tbl (aheadF p j) p.length) := tbl_rd hj
    have r2 : rd (tbl (aheadF p j) p.length) (i : Int) = some (aheadF p j i) := tbl_rd (by omega)
    have r3 := has_ok hv (k := i) (by omega)
    have w1 : w64 ((i : Int) + 1) = ((i + 1 : Nat) : Int) := w64_s (by omega)
    rw [spec_LayersOf_l1, impl_LayersOf_l1]
    simp only [c1, if_true, r1, r2, r3, Option.bind_some, w1]
    cases hb : aheadF p j i
    · simp only [Bool.false_eq_true, if_false]
      exact lay_l1 hl hj hv n m (i + 1) d (by omega) (by omega) hd
    · obtain ⟨x, x1, x2⟩ := hd.2 j hj
      obtain ⟨y, y1, y2⟩ := hd.2 i (by omega)
      have w2 : w64 ((y : Int) + 1) = ((y + 1 : Nat) : Int) := w64_s (by omega)
      simp only [if_true, rd_dv x1, rd_dv y1, Option.bind_some, w2, most_eq, imax_eq, Int.toNat_natCast]
      exact lay_l1 hl hj hv n m (i + 1) _ (by omega) (by omega) (DV_set hd hj (by omega))
def OV (o : List (List Int)) (j : Nat) : Prop := o.length ≤ 200 ∧ ∀ r ∈ o, r.length ≤ j
theorem lay_l2 {p : List GEvent} {a : List (Vector Int 4)} {A : List (List Bool)} {j c : Nat} {d : List Int} {KS : List (List Bool) → List Int → List (List Int) → Int → Option (List (List Int) × Bool)} {KI : List (List Int) → List Int → List (Vector Int 4) → Int → Option (List (List Int) × Bool)}
    (hj : j < 200) (hd : d[j]? = some (c : Int)) (hc : c ≤ j) : ∀ (n m : Nat) (o : List (List Int)), c + 1 ≤ o.length + m → m < n → OV o j →
    ∃ o', OV o' (j + 1) ∧ spec_LayersOf_l2 KS p j n A d o = KS A d o' ((j + 1 : Nat) : Int) ∧ impl_LayersOf_l2 KI a j n o d a = KI o' d a ((j + 1 : Nat) : Int)
  | 0, m, o, h1, h2, ho => by omega
  | n + 1, m, o, h1, h2, ho => by
    rw [spec_LayersOf_l2, impl_LayersOf_l2]
    simp only [rd_dv hd, Option.bind_some]
    by_cases hlt : o.length ≤ c
    · have c1 : decide ((o.length : Int) ≤ (c : Int)) = true := by simp; omega
      have ha : app o [[]] = some (o ++ [[]]) := app_ok (by have := ho.1; simp; omega)
      simp only [c1, if_true, ha, Option.bind_some]
      refine lay_l2 hj hd hc n (m - 1) (o ++ [[]]) (by simp; omega) (by omega) ⟨by simp; omega, fun r hr => ?_⟩
      rcases List.mem_append.1 hr with h | h
      · exact ho.2 r h
      · have : r = [] := by simpa using h
        subst this; simp
    · have hco : c < o.length := by omega
      have c1 : decide ((o.length : Int) ≤ (c : Int)) = false := by simp; omega
      have hr := ho.2 o[c] (List.getElem_mem hco)
      have ha : app o[c] [(j : Int)] = some (o[c] ++ [(j : Int)]) := app_ok (by simp; omega)
      simp only [c1, Bool.false_eq_true, if_false, rd_at hco, ha, Option.bind_some, w64_s (show j < 4611686018427387904 by omega), Int.toNat_natCast]
      refine ⟨_, ⟨by simpa using ho.1, fun r hr' => ?_⟩, rfl, rfl⟩
      rcases List.mem_or_eq_of_mem_set hr' with h | h
      · have := ho.2 r h; omega
      · subst h; simp; omega
theorem lay_l0 {p : List GEvent} {a : List (Vector Int 4)} (hl : p.length ≤ 200) (hal : a.length = p.length) (ha : ∀ i, i < p.length → ∃ v, a[i]? = some v ∧ VR v (aheadF p i)) : ∀ (n m j : Nat) (d : List Int) (o : List (List Int)), j + m = p.length → m < n → DV d p.length → OV o j →
    ∃ r : List (List Int) × Bool, spec_LayersOf_l0 p n (tbl (fun i => tbl (aheadF p i) p.length) p.length) d o j = some r ∧ impl_LayersOf_l0 a n o d a j = some r ∧ OV r.1 200
  | 0, m, j, d, o, h1, h2, hd, ho => by omega
  | n + 1, 0, j, d, o, h1, h2, hd, ho => by
    have : j = p.length := by omega
    subst this
    refine ⟨(o, true), ?_, ?_, ⟨ho.1, fun r hr => by have := ho.2 r hr; omega⟩⟩
    · rw [spec_LayersOf_l0]; simp
    · rw [impl_LayersOf_l0]; simp [hal]
  | n + 1, m + 1, j, d, o, h1, h2, hd, ho => by
    have hj : j < p.length := by omega
    obtain ⟨v, hv1, hv2⟩ := ha j hj
    obtain ⟨d', hd', e1, e2⟩ := lay_l1 (a := a) (o := o) (KS := spec_LayersOf_l0 p n) (KI := impl_LayersOf_l0 a n) hl hj hv2 FU j 0 d (by omega) (FU_gt (by omega)) hd
    obtain ⟨c, hc1, hc2⟩ := hd'.2 j hj
    obtain ⟨o', ho', e3, e4⟩ := lay_l2 (p := p) (a := a) (A := tbl (fun i => tbl (aheadF p i) p.length) p.length) (KS := spec_LayersOf_l0 p n) (KI := impl_LayersOf_l0 a n) (by omega) hc1 hc2 FU (c + 1) o (by omega) (FU_gt (by omega)) ho
    obtain ⟨r, q1, q2, q3⟩ := lay_l0 hl hal ha n m (j + 1) d' o' (by omega) (by omega) hd' ho'
    rw [show ((0 : Nat) : Int) = 0 from rfl] at e1 e2
    refine ⟨r, ?_, ?_, q3⟩
    · rw [spec_LayersOf_l0, show decide ((j : Int) < (p.length : Int)) = true by simp; omega]
      simp only [if_true]
      rw [e1, e3, q1]
    · have hr : rd a (j : Int) = some v := by rw [rd_nat, hv1]
      rw [impl_LayersOf_l0, show decide ((j : Int) < (a.length : Int)) = true by simp; omega]
      simp only [if_true, hr, Option.bind_some]
      rw [e2, e4, q2]
theorem law_LayersOf (x0 : (List GEvent)) (g0 : x0.length ≤ 9223372036854775807) : laws_FnExactLayersOf x0 = some true := by
  refine law_LayersOf_of x0 g0 fun sm0 => ?_
  have hp' : x0.length < 1099511627776 := by have := (show x0.length ≤ 1048576 from sm0); omega
  rw [spec_LayersOf, impl_LayersOf, spec_trace_eq hp', impl_trace_eq hp']
  cases hg : goodT x0
  · exact ⟨([], false), by simp, by simp, by simp [smIntSS]⟩
  · have h1 : x0.all goodE = true ∧ x0.length ≤ 200 := by simpa [goodT] using hg
    obtain ⟨a, e1, e2, e3⟩ := implAhead_eq' h1.2 h1.1
    have hd : DV (List.replicate x0.length 0) x0.length := ⟨by simp, fun i hi => ⟨0, by simp [hi], by omega⟩⟩
    obtain ⟨r, q1, q2, q3⟩ := lay_l0 h1.2 e2 e3 FU x0.length 0 (List.replicate x0.length 0) [] (by omega) (FU_gt (by omega)) hd ⟨by simp, by simp⟩
    rw [show ((0 : Nat) : Int) = 0 from rfl] at q1 q2
    refine ⟨r, ?_, ?_, ?_⟩
    · simp [specAhead_eq (p := x0) (by omega), mk_ok (z := (0 : Int)) (n := x0.length) (by omega), q1]
    · simp [e1, mk_ok (z := (0 : Int)) (n := x0.length) (by omega), q2]
    · refine ⟨by have := q3.1; omega, fun y hy => ?_⟩
      have := q3.2 y hy
      show y.length ≤ 1048576
      omega
end Go.Proofs.Ytkmjbfmmcijojaa
