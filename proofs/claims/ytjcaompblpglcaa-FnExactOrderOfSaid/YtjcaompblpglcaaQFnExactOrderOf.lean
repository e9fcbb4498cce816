/- Plain facts for FnExactOrderOf; no condition. -/

import Derived.Test.YtjcaompblpglcaaPU2
set_option linter.unusedVariables false
set_option linter.unusedSimpArgs false
namespace Go.Proofs.Ytjcaompblpglcaa
open Go Go.T
def Qil (x : (List Qa0)) : Prop := x.length ≤ 1048576
theorem Qym (x : (List Qa0)) (g : x.length ≤ 9223372036854775807) (l : Int) (h0 : 0 ≤ l) (h1 : l ≤ 1048576) : ∃ r : Int, Qen x l = some r ∧ r ≤ l ∧ (0 ≤ r → Qil x) := by
 rw [Qen, Qgo (by omega)]
 by_cases h : l - (x.length : Int) < 0
 ·exact ⟨-1, by simp [h], by omega, fun h => by omega⟩
 ·exact ⟨l - (x.length : Int), by simp [h], by omega, fun _ => by show x.length ≤ 1048576; omega⟩
theorem Qys (x : Qa0) : Qf4 x = some x := rfl
theorem Qwl (x : (List Qa0)) (h : Qil x) : Qcs x = some x := by
 have hl : x.length < 1099511627776 := by have := (show x.length ≤ 1048576 from h); omega
 rw [Qcs]
 exact toL (t := Qf4) (by intros; rw [Qcj]) hl (fun y hy => Qys y) _
def Qq7 (x : (List Int)) : Prop := x.length ≤ 1048576
theorem Xc4 (x : (List Int)) (h : Qq7 x) : Qeb x x = some true := by
 have hl : x.length < 1099511627776 := by have := (show x.length ≤ 1048576 from h); omega
 rw [Qeb]; simp only [PS, ]
 exact eqLs (by intros; rw [Qdk]) hl
theorem Qz5 (x : Qa0) : Qef x x = some true := by
 simp [Qef]
theorem Qy2 (x : (List Qa0)) (h : Qil x) : Qel x x = some true := by
 have hl : x.length < 1099511627776 := by have := (show x.length ≤ 1048576 from h); omega
 rw [Qel]; simp only [PS, ]
 exact eqL (e := Qef) (by intros; rw [Qcl]) hl (fun y hy => Qz5 y)
theorem Qxc (x : (List Qa0)) (v : Int) (h : Qil x) (h0 : 0 ≤ v) (h1 : v + 5242880 < 4611686018427387904) : ∃ v' y, Qdo x v = some (v', y) ∧ y.length = x.length ∧ True ∧ v ≤ v' ∧ v' ≤ v + 5242880 := by
  have hl : x.length ≤ 1048576 := h
  obtain ⟨v', y, e1, e2, e3, e4, e5⟩ := Xd6 (F := Qb6) (H := Num (fun v => (Qa0.mk v (v + 1) (v + 1 + 1) (v + 1 + 1 + 1) (v + 1 + 1 + 1 + 1))) (fun v => v + 1 + 1 + 1 + 1 + 1)) (ok := fun _ => True) (b := 5) (B := 1048576) (by omega) (fun n a v k hk => by rw [Qb6, hk]; simp)
    (fun n a v k hk _ h0 h1 => by
      have w1 : w64 (v + 1) = v + 1 := Qgo (by omega)
      have w2 : w64 (v + 1 + 1) = v + 1 + 1 := Qgo (by omega)
      have w3 : w64 (v + 1 + 1 + 1) = v + 1 + 1 + 1 := Qgo (by omega)
      have w4 : w64 (v + 1 + 1 + 1 + 1) = v + 1 + 1 + 1 + 1 := Qgo (by omega)
      have w5 : w64 (v + 1 + 1 + 1 + 1 + 1) = v + 1 + 1 + 1 + 1 + 1 := Qgo (by omega)
      refine ⟨v + 1 + 1 + 1 + 1 + 1, (Qa0.mk v (v + 1) (v + 1 + 1) (v + 1 + 1 + 1) (v + 1 + 1 + 1 + 1)), ?_, ⟨rfl, h0, rfl, by omega⟩, by omega, by omega⟩
      rw [Qb6]
      simp only [PS, hk, Qdm hk, w1, w2, w3, w4, w5]) (by omega) x v hl (fun _ _ => trivial) h0 (by omega)
  refine ⟨v', y, by rw [Qdo]; simp only [PS, e1], e2, ?_, e4, by omega⟩
  trivial
theorem Xbb (x : (List Int)) (v : Int) (h : Qq7 x) (h0 : 0 ≤ v) (h1 : v + 1048576 < 4611686018427387904) : ∃ v' y, Qeq x v = some (v', y) ∧ y.length = x.length ∧ Qe1 y v = some v' ∧ v ≤ v' ∧ v' ≤ v + 1048576 := by
  have hl : x.length ≤ 1048576 := h
  obtain ⟨v', y, e1, e2, e3, e4, e5⟩ := Xd6 (F := Qbf) (H := Num (fun v => v) (fun v => v + 1)) (ok := fun _ => True) (b := 1) (B := 1048576) (by omega) (fun n a v k hk => by rw [Qbf, hk]; simp)
    (fun n a v k hk _ h0 h1 => by
      have w1 : w64 (v + 1) = v + 1 := Qgo (by omega)
      refine ⟨v + 1, v, ?_, ⟨rfl, h0, rfl, by omega⟩, by omega, by omega⟩
      rw [Qbf]
      simp only [PS, hk, Qdm hk, w1]) (by omega) x v hl (fun _ _ => trivial) h0 (by omega)
  refine ⟨v', y, by rw [Qeq]; simp only [PS, e1], e2, ?_, e4, by omega⟩
  rw [Qe1]
  exact heldL (fun n v k hk => by rw [Qbv, hk]; simp) (fun n v v' k hk hh h2 => by
    obtain ⟨f1, f2, f3, f4⟩ := hh
    simp only at f1 f3
    subst f3
    have w1 : w64 (v + 1) = v + 1 := Qgo (by omega)
    rw [Qbv]
    simp only [PS, hk, Qdm hk, f1, w1]) (by omega) e3
theorem Qou (x0 : (List Qa0)) (g0 : x0.length ≤ 9223372036854775807) (core : ∀ (sm0 : Qil x0), ∃ r : (List Int) × Bool, Qeg x0 = some r ∧ Qdt x0 = some r ∧ Qq7 r.1) : Qca x0 = some true := by
 rw [Qca]
 obtain ⟨s0, z0, za0, zb0⟩ := Qym x0 g0 1048576 (by omega) (by omega)
 simp only [PS, z0]
 by_cases hs0 : s0 < 0
 ·simp [hs0]
 have hd0 : decide (s0 < 0) = false := by simp [hs0]
 simp only [PS, hd0]
 have sm0 := zb0 (by omega)
 obtain ⟨r, e1, e2, o0⟩ := core sm0
 obtain ⟨n0, w0, na0, nb0, nc0, nd0, ne0⟩ := Qxc x0 1 sm0 (by omega) (by omega)
 have nf : decide (n0 < 0) = false := by simp <;> omega
 obtain ⟨m0, y0, ma0, mb0, mc0, md0, me0⟩ := Xbb r.1 1 o0 (by omega) (by omega)
 have mf0 : decide (m0 < 0) = false := by simp <;> omega
 simp only [PS, e1, e2, Qwl x0 sm0, Qy2 x0 sm0, Xc4 r.1 o0, ma0, Qlm mb0, mc0, mf0, na0, Qlm nb0, nf, Qcd, Qcc, Qce]
end Go.Proofs.Ytjcaompblpglcaa
