/- Plain facts for FnExactAddPairs; no condition. -/

import Derived.Test.YtihgcgccajikpaaAP2
set_option linter.unusedVariables false
set_option linter.unusedSimpArgs false
namespace Go.Proofs.Ytihgcgccajikpaa
open Go Go.T

def smPairS (x : (List GPair)) : Prop := x.length ≤ 1048576
theorem QszPairS (x : (List GPair)) (g : x.length ≤ 9223372036854775807) (l : Int) (h0 : 0 ≤ l) (h1 : l ≤ 1048576) : ∃ r : Int, laws_szPairS x l = some r ∧ r ≤ l ∧ (0 ≤ r → smPairS x) := by
  rw [laws_szPairS, w64_id (by omega)]
  by_cases h : l - (x.length : Int) < 0
  · exact ⟨-1, by simp [h], by omega, fun h => by omega⟩
  · exact ⟨l - (x.length : Int), by simp [h], by omega, fun _ => by show x.length ≤ 1048576; omega⟩
theorem QtoPair (x : GPair) : laws_toPair x = some x := rfl
theorem QtoPairS (x : (List GPair)) (h : smPairS x) : laws_toPairS x = some x := by
  have hl : x.length < 1099511627776 := by have := (show x.length ≤ 1048576 from h); omega
  rw [laws_toPairS]
  exact toL (t := laws_toPair) (by intros; rw [laws_toPairS_l0]) hl (fun y hy => QtoPair y) _
theorem QeqPair (x : GPair) : laws_eqPair x x = some true := by
  simp [laws_eqPair]
theorem QeqPairS (x : (List GPair)) (h : smPairS x) : laws_eqPairS x x = some true := by
  have hl : x.length < 1099511627776 := by have := (show x.length ≤ 1048576 from h); omega
  rw [laws_eqPairS]; simp only [PS, ]
  exact eqL (e := laws_eqPair) (by intros; rw [laws_eqPairS_l0]) hl (fun y hy => QeqPair y)
theorem QmkPairS (x : (List GPair)) (v : Int) (h : smPairS x) (h0 : 0 ≤ v) (h1 : v + 3145728 < 4611686018427387904) : ∃ v' y, laws_markPairS x v = some (v', y) ∧ y.length = x.length ∧ laws_heldPairS y v = some v' ∧ v ≤ v' ∧ v' ≤ v + 3145728 := by
  have hl : x.length ≤ 1048576 := h
  obtain ⟨v', y, e1, e2, e3, e4, e5⟩ := markL (F := laws_markPairS_l0) (H := Num (fun v => (GPair.mk v (v + 1) (v + 1 + 1))) (fun v => v + 1 + 1 + 1)) (ok := fun _ => True) (b := 3) (B := 1048576) (by omega) (fun n a v k hk => by rw [laws_markPairS_l0, hk]; simp)
    (fun n a v k hk _ h0 h1 => by
      have w1 : w64 (v + 1) = v + 1 := w64_id (by omega)
      have w2 : w64 (v + 1 + 1) = v + 1 + 1 := w64_id (by omega)
      have w3 : w64 (v + 1 + 1 + 1) = v + 1 + 1 + 1 := w64_id (by omega)
      refine ⟨v + 1 + 1 + 1, (GPair.mk v (v + 1) (v + 1 + 1)), ?_, ⟨rfl, h0, rfl, by omega⟩, by omega, by omega⟩
      rw [laws_markPairS_l0]
      simp only [PS, hk, rd_at hk, w1, w2, w3]) (by omega) x v hl (fun _ _ => trivial) h0 (by omega)
  refine ⟨v', y, by rw [laws_markPairS]; simp only [PS, e1], e2, ?_, e4, by omega⟩
  rw [laws_heldPairS]
  exact heldL (fun n v k hk => by rw [laws_heldPairS_l0, hk]; simp) (fun n v v' k hk hh h2 => by
    obtain ⟨f1, f2, f3, f4⟩ := hh
    simp only at f1 f3
    subst f3
    have w1 : w64 (v + 1) = v + 1 := w64_id (by omega)
    have w2 : w64 (v + 1 + 1) = v + 1 + 1 := w64_id (by omega)
    have w3 : w64 (v + 1 + 1 + 1) = v + 1 + 1 + 1 := w64_id (by omega)
    rw [laws_heldPairS_l0]
    simp only [PS, hk, rd_at hk, f1, w1, w2, w3]) (by omega) e3
theorem law_AddPairs_of (x0 : (List GPair)) (x1 : (List GPair)) (g0 : x0.length ≤ 9223372036854775807) (g1 : x1.length ≤ 9223372036854775807) (core : ∀ (sm0 : smPairS x0), ∀ (sm1 : smPairS x1), ∃ r : (List GPair) × Bool, spec_AddPairs x0 x1 = some r ∧ impl_AddPairs x0 x1 = some r ∧ smPairS r.1) : laws_FnExactAddPairs x0 x1 = some true := by
  rw [laws_FnExactAddPairs]
  obtain ⟨s0, z0, za0, zb0⟩ := QszPairS x0 g0 1048576 (by omega) (by omega)
  simp only [PS, z0]
  by_cases hs0 : s0 < 0
  · simp [hs0]
  have hd0 : decide (s0 < 0) = false := by simp [hs0]
  simp only [PS, hd0]
  have sm0 := zb0 (by omega)
  obtain ⟨s1, z1, za1, zb1⟩ := QszPairS x1 g1 s0 (by omega) (by omega)
  simp only [PS, z1]
  by_cases hs1 : s1 < 0
  · simp [hs1]
  have hd1 : decide (s1 < 0) = false := by simp [hs1]
  simp only [PS, hd1]
  have sm1 := zb1 (by omega)
  obtain ⟨r, e1, e2, o0⟩ := core sm0 sm1
  obtain ⟨n0, w0, na0, nb0, nc0, nd0, ne0⟩ := QmkPairS x0 1 sm0 (by omega) (by omega)
  obtain ⟨n1, w1, na1, nb1, nc1, nd1, ne1⟩ := QmkPairS x1 n0 sm1 (by omega) (by omega)
  have nf : decide (n1 < 0) = false := by simp <;> omega
  obtain ⟨m0, y0, ma0, mb0, mc0, md0, me0⟩ := QmkPairS r.1 1 o0 (by omega) (by omega)
  have mf0 : decide (m0 < 0) = false := by simp <;> omega
  simp only [PS, e1, e2, QtoPairS x0 sm0, QeqPairS x0 sm0, QtoPairS x1 sm1, QeqPairS x1 sm1, QeqPairS r.1 o0, ma0, sameLen_ok mb0, mc0, mf0, na0, sameLen_ok nb0, na1, sameLen_ok nb1, nf, laws_FnExactAddPairs_j0, laws_FnExactAddPairs_j1, laws_FnExactAddPairs_j2]
end Go.Proofs.Ytihgcgccajikpaa
