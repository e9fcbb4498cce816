/- Plain facts for FnExactWarnsGuarded; no condition. -/

import Derived.Test.YtihgcgccajikpaaAL
set_option linter.unusedVariables false
set_option linter.unusedSimpArgs false
namespace Go.Proofs.Ytihgcgccajikpaa
open Go Go.T

def smEventS (x : (List GEvent)) : Prop := x.length ≤ 1048576
theorem QszEventS (x : (List GEvent)) (g : x.length ≤ 9223372036854775807) (l : Int) (h0 : 0 ≤ l) (h1 : l ≤ 1048576) : ∃ r : Int, laws_szEventS x l = some r ∧ r ≤ l ∧ (0 ≤ r → smEventS x) := by
  rw [laws_szEventS, w64_id (by omega)]
  by_cases h : l - (x.length : Int) < 0
  · exact ⟨-1, by simp [h], by omega, fun h => by omega⟩
  · exact ⟨l - (x.length : Int), by simp [h], by omega, fun _ => by show x.length ≤ 1048576; omega⟩
theorem QtoEvent (x : GEvent) : laws_toEvent x = some x := rfl
theorem QtoEventS (x : (List GEvent)) (h : smEventS x) : laws_toEventS x = some x := by
  have hl : x.length < 1099511627776 := by have := (show x.length ≤ 1048576 from h); omega
  rw [laws_toEventS]
  exact toL (t := laws_toEvent) (by intros; rw [laws_toEventS_l0]) hl (fun y hy => QtoEvent y) _
theorem QeqEvent (x : GEvent) : laws_eqEvent x x = some true := by
  simp [laws_eqEvent]
theorem QeqEventS (x : (List GEvent)) (h : smEventS x) : laws_eqEventS x x = some true := by
  have hl : x.length < 1099511627776 := by have := (show x.length ≤ 1048576 from h); omega
  rw [laws_eqEventS]; simp only [PS, ]
  exact eqL (e := laws_eqEvent) (by intros; rw [laws_eqEventS_l0]) hl (fun y hy => QeqEvent y)
theorem QmkEventS (x : (List GEvent)) (v : Int) (h : smEventS x) (h0 : 0 ≤ v) (h1 : v + 5242880 < 4611686018427387904) : ∃ v' y, laws_markEventS x v = some (v', y) ∧ y.length = x.length ∧ True ∧ v ≤ v' ∧ v' ≤ v + 5242880 := by
  have hl : x.length ≤ 1048576 := h
  obtain ⟨v', y, e1, e2, e3, e4, e5⟩ := markL (F := laws_markEventS_l0) (H := Num (fun v => (GEvent.mk v (v + 1) (v + 1 + 1) (v + 1 + 1 + 1) (v + 1 + 1 + 1 + 1))) (fun v => v + 1 + 1 + 1 + 1 + 1)) (ok := fun _ => True) (b := 5) (B := 1048576) (by omega) (fun n a v k hk => by rw [laws_markEventS_l0, hk]; simp)
    (fun n a v k hk _ h0 h1 => by
      have w1 : w64 (v + 1) = v + 1 := w64_id (by omega)
      have w2 : w64 (v + 1 + 1) = v + 1 + 1 := w64_id (by omega)
      have w3 : w64 (v + 1 + 1 + 1) = v + 1 + 1 + 1 := w64_id (by omega)
      have w4 : w64 (v + 1 + 1 + 1 + 1) = v + 1 + 1 + 1 + 1 := w64_id (by omega)
      have w5 : w64 (v + 1 + 1 + 1 + 1 + 1) = v + 1 + 1 + 1 + 1 + 1 := w64_id (by omega)
      refine ⟨v + 1 + 1 + 1 + 1 + 1, (GEvent.mk v (v + 1) (v + 1 + 1) (v + 1 + 1 + 1) (v + 1 + 1 + 1 + 1)), ?_, ⟨rfl, h0, rfl, by omega⟩, by omega, by omega⟩
      rw [laws_markEventS_l0]
      simp only [PS, hk, rd_at hk, w1, w2, w3, w4, w5]) (by omega) x v hl (fun _ _ => trivial) h0 (by omega)
  refine ⟨v', y, by rw [laws_markEventS]; simp only [PS, e1], e2, ?_, e4, by omega⟩
  trivial
def smIntS (x : (List Int)) : Prop := x.length ≤ 1048576
theorem QeqIntS (x : (List Int)) (h : smIntS x) : laws_eqIntS x x = some true := by
  have hl : x.length < 1099511627776 := by have := (show x.length ≤ 1048576 from h); omega
  rw [laws_eqIntS]; simp only [PS, ]
  exact eqLs (by intros; rw [laws_eqIntS_l0]) hl
def smIntSS (x : (List (List Int))) : Prop := x.length ≤ 1048576 ∧ ∀ y ∈ x, smIntS y
theorem QeqIntSS (x : (List (List Int))) (h : smIntSS x) : laws_eqIntSS x x = some true := by
  have hl : x.length < 1099511627776 := by have := h.1; omega
  rw [laws_eqIntSS]; simp only [PS, ]
  exact eqL (e := laws_eqIntS) (by intros; rw [laws_eqIntSS_l0]) hl (fun y hy => QeqIntS y (h.2 y hy))
theorem QmkIntS (x : (List Int)) (v : Int) (h : smIntS x) (h0 : 0 ≤ v) (h1 : v + 1048576 < 4611686018427387904) : ∃ v' y, laws_markIntS x v = some (v', y) ∧ y.length = x.length ∧ laws_heldIntS y v = some v' ∧ v ≤ v' ∧ v' ≤ v + 1048576 := by
  have hl : x.length ≤ 1048576 := h
  obtain ⟨v', y, e1, e2, e3, e4, e5⟩ := markL (F := laws_markIntS_l0) (H := Num (fun v => v) (fun v => v + 1)) (ok := fun _ => True) (b := 1) (B := 1048576) (by omega) (fun n a v k hk => by rw [laws_markIntS_l0, hk]; simp)
    (fun n a v k hk _ h0 h1 => by
      have w1 : w64 (v + 1) = v + 1 := w64_id (by omega)
      refine ⟨v + 1, v, ?_, ⟨rfl, h0, rfl, by omega⟩, by omega, by omega⟩
      rw [laws_markIntS_l0]
      simp only [PS, hk, rd_at hk, w1]) (by omega) x v hl (fun _ _ => trivial) h0 (by omega)
  refine ⟨v', y, by rw [laws_markIntS]; simp only [PS, e1], e2, ?_, e4, by omega⟩
  rw [laws_heldIntS]
  exact heldL (fun n v k hk => by rw [laws_heldIntS_l0, hk]; simp) (fun n v v' k hk hh h2 => by
    obtain ⟨f1, f2, f3, f4⟩ := hh
    simp only at f1 f3
    subst f3
    have w1 : w64 (v + 1) = v + 1 := w64_id (by omega)
    rw [laws_heldIntS_l0]
    simp only [PS, hk, rd_at hk, f1, w1]) (by omega) e3
theorem QmkIntSS (x : (List (List Int))) (v : Int) (h : smIntSS x) (h0 : 0 ≤ v) (h1 : v + 1099511627776 < 4611686018427387904) : ∃ v' y, laws_markIntSS x v = some (v', y) ∧ y.length = x.length ∧ laws_heldIntSS y v = some v' ∧ v ≤ v' ∧ v' ≤ v + 1099511627776 := by
  have hl : x.length ≤ 1048576 := h.1
  have st := markLL (F := laws_markIntSS_l0) (M := laws_markIntS) (H := fun y v v' => laws_heldIntS y v = some v') (ok := fun y => smIntS y) (b := 1048576) (by intros; rw [laws_markIntSS_l0]) (fun y v hy h0 h1 => QmkIntS y v hy h0 h1)
  obtain ⟨v', y, e1, e2, e3, e4, e5⟩ := markL (B := 1048576) (by omega) st.1 st.2 (by omega) x v hl h.2 h0 (by omega)
  refine ⟨v', y, by rw [laws_markIntSS]; simp only [PS, e1], e2, ?_, e4, by omega⟩
  rw [laws_heldIntSS]
  have sh := heldLL (H := laws_heldIntS) (p := y) (F := laws_heldIntSS_l0 y) (by intros; rw [laws_heldIntSS_l0])
  exact heldL sh.1 sh.2 (by omega) e3
theorem law_WarnsGuarded_of (x0 : (List GEvent)) (g0 : x0.length ≤ 9223372036854775807) (core : ∀ (sm0 : smEventS x0), ∃ r : (List (List Int)) × Bool, spec_WarnsGuarded x0 = some r ∧ impl_WarnsGuarded x0 = some r ∧ smIntSS r.1) : laws_FnExactWarnsGuarded x0 = some true := by
  rw [laws_FnExactWarnsGuarded]
  obtain ⟨s0, z0, za0, zb0⟩ := QszEventS x0 g0 1048576 (by omega) (by omega)
  simp only [PS, z0]
  by_cases hs0 : s0 < 0
  · simp [hs0]
  have hd0 : decide (s0 < 0) = false := by simp [hs0]
  simp only [PS, hd0]
  have sm0 := zb0 (by omega)
  obtain ⟨r, e1, e2, o0⟩ := core sm0
  obtain ⟨n0, w0, na0, nb0, nc0, nd0, ne0⟩ := QmkEventS x0 1 sm0 (by omega) (by omega)
  have nf : decide (n0 < 0) = false := by simp <;> omega
  obtain ⟨m0, y0, ma0, mb0, mc0, md0, me0⟩ := QmkIntSS r.1 1 o0 (by omega) (by omega)
  have mf0 : decide (m0 < 0) = false := by simp <;> omega
  simp only [PS, e1, e2, QtoEventS x0 sm0, QeqEventS x0 sm0, QeqIntSS r.1 o0, ma0, sameLen_ok mb0, mc0, mf0, na0, sameLen_ok nb0, nf, laws_FnExactWarnsGuarded_j0, laws_FnExactWarnsGuarded_j1, laws_FnExactWarnsGuarded_j2]
end Go.Proofs.Ytihgcgccajikpaa
