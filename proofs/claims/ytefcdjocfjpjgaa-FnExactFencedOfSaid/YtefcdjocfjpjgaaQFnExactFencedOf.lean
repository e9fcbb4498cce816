/- Plain facts for FnExactFencedOf; no condition. -/

import Derived.Test.YtefcdjocfjpjgaaGA
import Derived.Test.YtefcdjocfjpjgaaPB
set_option linter.unusedVariables false
set_option linter.unusedSimpArgs false
namespace Go.Proofs.Ytefcdjocfjpjgaa
open Go Go.T

def smActS (x : (List GAct)) : Prop := x.length ≤ 1048576
theorem QszActS (x : (List GAct)) (g : x.length ≤ 9223372036854775807) (l : Int) (h0 : 0 ≤ l) (h1 : l ≤ 1048576) : ∃ r : Int, laws_szActS x l = some r ∧ r ≤ l ∧ (0 ≤ r → smActS x) := by
  rw [laws_szActS, w64_id (by omega)]
  by_cases h : l - (x.length : Int) < 0
  · exact ⟨-1, by simp [h], by omega, fun h => by omega⟩
  · exact ⟨l - (x.length : Int), by simp [h], by omega, fun _ => by show x.length ≤ 1048576; omega⟩
def smActSS (x : (List (List GAct))) : Prop := x.length ≤ 1048576 ∧ ∀ y ∈ x, smActS y
theorem QszActSS (x : (List (List GAct))) (g : x.length ≤ 9223372036854775807 ∧ ∀ y0 ∈ x, y0.length ≤ 9223372036854775807 ∧ ∀ y1 ∈ y0, wfGAct y1) (l : Int) (h0 : 0 ≤ l) (h1 : l ≤ 1048576) : ∃ r : Int, laws_szActSS x l = some r ∧ r ≤ l ∧ (0 ≤ r → smActSS x) := by
  have g1 := g.1
  rw [laws_szActSS, w64_id (by omega)]
  by_cases h : l - (x.length : Int) < 0
  · exact ⟨-1, by simp [h], by omega, fun h => by omega⟩
  · have hd : decide (l - (x.length : Int) < 0) = false := by simp [h]
    simp only [PS, hd]
    obtain ⟨r, e1, e2, e3⟩ := szL (p := x) (s := laws_szActS) (small := fun y => smActS y) (F := laws_szActSS_l0 x) (by intros; rw [laws_szActSS_l0]) (by omega) (fun y hy l h0 h1 => QszActS y ((g.2 y hy).1) l h0 h1) (l := l - (x.length : Int)) (by omega) (by omega)
    exact ⟨r, e1, by omega, fun h => ⟨by omega, e3 h⟩⟩
theorem QtoAct (x : GAct) : laws_toAct x = some x := rfl
theorem QtoActS (x : (List GAct)) (h : smActS x) : laws_toActS x = some x := by
  have hl : x.length < 1099511627776 := by have := (show x.length ≤ 1048576 from h); omega
  rw [laws_toActS]
  exact toL (t := laws_toAct) (by intros; rw [laws_toActS_l0]) hl (fun y hy => QtoAct y) _
theorem QtoActSS (x : (List (List GAct))) (h : smActSS x) : laws_toActSS x = some x := by
  have hl : x.length < 1099511627776 := by have := h.1; omega
  rw [laws_toActSS]
  exact toL (t := laws_toActS) (by intros; rw [laws_toActSS_l0]) hl (fun y hy => QtoActS y (h.2 y hy)) _
theorem Qdiv0 (x : Nat) (h : fcmp x 0 = some .eq) : ∃ r, fdv 4607182418800017408 x = some r := by
  have h0 : FloatKind.f64.format.read 0 = .number false 0 FloatKind.f64.format.leastPlace := by decide
  unfold fcmp Ieee.Format.order at h
  rw [h0] at h
  unfold fdv Ieee.Format.div
  have h1 : FloatKind.f64.format.read 4607182418800017408 = .number false 4503599627370496 (-52) := by decide
  rw [h1]
  generalize FloatKind.f64.format.read x = d at h ⊢
  cases d with
  | nan => cases h
  | infinity s => exact ⟨_, rfl⟩
  | number s m e =>
    simp only [Ieee.Datum.quotient]
    split
    · exact ⟨_, rfl⟩
    · exact ⟨_, rfl⟩
theorem Qsame (x : Nat) : laws_sameFloat x x = some true := by
  unfold laws_sameFloat
  rcases fcmp_self x with h | h
  · simp [h]
  · unfold laws_sameFloat_j0
    by_cases h0 : fcmp x 0 = some .eq
    · obtain ⟨r, e⟩ := Qdiv0 x h0
      simp [h, h0, e]
    · simp [h, h0]
theorem QeqAct (x : GAct) : laws_eqAct x x = some true := by
  simp [laws_eqAct, Qsame]
theorem QeqActS (x : (List GAct)) (h : smActS x) : laws_eqActS x x = some true := by
  have hl : x.length < 1099511627776 := by have := (show x.length ≤ 1048576 from h); omega
  rw [laws_eqActS]; simp only [PS, ]
  exact eqL (e := laws_eqAct) (by intros; rw [laws_eqActS_l0]) hl (fun y hy => QeqAct y)
theorem QeqActSS (x : (List (List GAct))) (h : smActSS x) : laws_eqActSS x x = some true := by
  have hl : x.length < 1099511627776 := by have := h.1; omega
  rw [laws_eqActSS]; simp only [PS, ]
  exact eqL (e := laws_eqActS) (by intros; rw [laws_eqActSS_l0]) hl (fun y hy => QeqActS y (h.2 y hy))
theorem QmkActS (x : (List GAct)) (v : Int) (h : smActS x) (h0 : 0 ≤ v) (h1 : v + 3145728 < 4611686018427387904) : ∃ v' y, laws_markActS x v = some (v', y) ∧ y.length = x.length ∧ laws_heldActS y v = some v' ∧ v ≤ v' ∧ v' ≤ v + 3145728 := by
  have hl : x.length ≤ 1048576 := h
  obtain ⟨v', y, e1, e2, e3, e4, e5⟩ := markL (F := laws_markActS_l0) (H := Num (fun v => (GAct.mk v (v + 1) (fOf (v + 1 + 1)))) (fun v => v + 1 + 1 + 1)) (ok := fun _ => True) (b := 3) (B := 1048576) (by omega) (fun n a v k hk => by rw [laws_markActS_l0, hk]; simp)
    (fun n a v k hk _ h0 h1 => by
      have w1 : w64 (v + 1) = v + 1 := w64_id (by omega)
      have w2 : w64 (v + 1 + 1) = v + 1 + 1 := w64_id (by omega)
      have w3 : w64 (v + 1 + 1 + 1) = v + 1 + 1 + 1 := w64_id (by omega)
      refine ⟨v + 1 + 1 + 1, (GAct.mk v (v + 1) (fOf (v + 1 + 1))), ?_, ⟨rfl, h0, rfl, by omega⟩, by omega, by omega⟩
      rw [laws_markActS_l0]
      simp only [PS, hk, rd_at hk, w1, w2, w3]) (by omega) x v hl (fun _ _ => trivial) h0 (by omega)
  refine ⟨v', y, by rw [laws_markActS]; simp only [PS, e1], e2, ?_, e4, by omega⟩
  rw [laws_heldActS]
  exact heldL (fun n v k hk => by rw [laws_heldActS_l0, hk]; simp) (fun n v v' k hk hh h2 => by
    obtain ⟨f1, f2, f3, f4⟩ := hh
    simp only at f1 f3
    subst f3
    have w1 : w64 (v + 1) = v + 1 := w64_id (by omega)
    have w2 : w64 (v + 1 + 1) = v + 1 + 1 := w64_id (by omega)
    have w3 : w64 (v + 1 + 1 + 1) = v + 1 + 1 + 1 := w64_id (by omega)
    rw [laws_heldActS_l0]
    simp only [PS, hk, rd_at hk, f1, w1, w2, w3, fcmp_fOf]) (by omega) e3
theorem QmkActSS (x : (List (List GAct))) (v : Int) (h : smActSS x) (h0 : 0 ≤ v) (h1 : v + 3298534883328 < 4611686018427387904) : ∃ v' y, laws_markActSS x v = some (v', y) ∧ y.length = x.length ∧ laws_heldActSS y v = some v' ∧ v ≤ v' ∧ v' ≤ v + 3298534883328 := by
  have hl : x.length ≤ 1048576 := h.1
  have st := markLL (F := laws_markActSS_l0) (M := laws_markActS) (H := fun y v v' => laws_heldActS y v = some v') (ok := fun y => smActS y) (b := 3145728) (by intros; rw [laws_markActSS_l0]) (fun y v hy h0 h1 => QmkActS y v hy h0 h1)
  obtain ⟨v', y, e1, e2, e3, e4, e5⟩ := markL (B := 1048576) (by omega) st.1 st.2 (by omega) x v hl h.2 h0 (by omega)
  refine ⟨v', y, by rw [laws_markActSS]; simp only [PS, e1], e2, ?_, e4, by omega⟩
  rw [laws_heldActSS]
  have sh := heldLL (H := laws_heldActS) (p := y) (F := laws_heldActSS_l0 y) (by intros; rw [laws_heldActSS_l0])
  exact heldL sh.1 sh.2 (by omega) e3
theorem law_FencedOf_of (x0 : (List (List GAct))) (g0 : x0.length ≤ 9223372036854775807 ∧ ∀ y0 ∈ x0, y0.length ≤ 9223372036854775807 ∧ ∀ y1 ∈ y0, wfGAct y1) (core : ∀ (sm0 : smActSS x0), ∃ r : (List (List GAct)) × Bool, spec_FencedOf x0 = some r ∧ impl_FencedOf x0 = some r ∧ smActSS r.1) : laws_FnExactFencedOf x0 = some true := by
  rw [laws_FnExactFencedOf]
  obtain ⟨s0, z0, za0, zb0⟩ := QszActSS x0 g0 1048576 (by omega) (by omega)
  simp only [PS, z0]
  by_cases hs0 : s0 < 0
  · simp [hs0]
  have hd0 : decide (s0 < 0) = false := by simp [hs0]
  simp only [PS, hd0]
  have sm0 := zb0 (by omega)
  obtain ⟨r, e1, e2, o0⟩ := core sm0
  obtain ⟨n0, w0, na0, nb0, nc0, nd0, ne0⟩ := QmkActSS x0 1 sm0 (by omega) (by omega)
  have nf : decide (n0 < 0) = false := by simp; omega
  obtain ⟨m0, y0, ma0, mb0, mc0, md0, me0⟩ := QmkActSS r.1 1 o0 (by omega) (by omega)
  have mf0 : decide (m0 < 0) = false := by simp; omega
  simp only [PS, e1, e2, QtoActSS x0 sm0, QeqActSS x0 sm0, QeqActSS r.1 o0, ma0, sameLen_ok mb0, mc0, mf0, na0, sameLen_ok nb0, nf, laws_FnExactFencedOf_j0, laws_FnExactFencedOf_j1, laws_FnExactFencedOf_j2]
end Go.Proofs.Ytefcdjocfjpjgaa
