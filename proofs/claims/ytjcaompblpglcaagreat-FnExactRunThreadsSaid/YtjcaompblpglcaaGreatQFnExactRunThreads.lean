/- Plain facts for FnExactRunThreads; no condition. -/

import Derived.Test.YtjcaompblpglcaaGreatST5
set_option linter.unusedVariables false
set_option linter.unusedSimpArgs false
namespace Go.Proofs.YtjcaompblpglcaaGreat
open Go Go.T
def Qzb (x : (List GOp)) : Prop := x.length ≤ 1048576
theorem Xl6 (x : (List GOp)) (g : x.length ≤ 9223372036854775807) (l : Int) (h0 : 0 ≤ l) (h1 : l ≤ 1048576) : ∃ r : Int, Qj3 x l = some r ∧ r ≤ l ∧ (0 ≤ r → Qzb x) := by
 rw [Qj3, Qbz (by omega)]
 by_cases h : l - (x.length : Int) < 0
 ·exact ⟨-1, by simp [h], by omega, fun h => by omega⟩
 ·exact ⟨l - (x.length : Int), by simp [h], by omega, fun _ => by show x.length ≤ 1048576; omega⟩
def Qy0 (x : (List (List GOp))) : Prop := x.length ≤ 1048576 ∧ ∀ y ∈ x, Qzb y
theorem Xis (x : (List (List GOp))) (g : x.length ≤ 9223372036854775807 ∧ ∀ y0 ∈ x, y0.length ≤ 9223372036854775807 ∧ ∀ y1 ∈ y0, Qwx y1) (l : Int) (h0 : 0 ≤ l) (h1 : l ≤ 1048576) : ∃ r : Int, Qjm x l = some r ∧ r ≤ l ∧ (0 ≤ r → Qy0 x) := by
 have g1 := g.1
 rw [Qjm, Qbz (by omega)]
 by_cases h : l - (x.length : Int) < 0
 ·exact ⟨-1, by simp [h], by omega, fun h => by omega⟩
 ·have hd : decide (l - (x.length : Int) < 0) = false := by simp [h]
  simp only [PS, hd]
  obtain ⟨r, e1, e2, e3⟩ := szL (p := x) (s := Qj3) (small := fun y => Qzb y) (F := Qeh x) (by intros; rw [Qeh]) (by omega) (fun y hy l h0 h1 => Xl6 y ((g.2 y hy).1) l h0 h1) (l := l - (x.length : Int)) (by omega) (by omega)
  exact ⟨r, e1, by omega, fun h => ⟨by omega, e3 h⟩⟩
def Qws (x : Qaf) : Prop := Qy0 x.Routines
theorem Xi4 (x : Qaf) (g : Qqj x) (l : Int) (h0 : 0 ≤ l) (h1 : l ≤ 1048576) : ∃ r : Int, Qjk x l = some r ∧ r ≤ l ∧ (0 ≤ r → Qws x) := by
 rw [Qjk]
 obtain ⟨r0, a0, b0, c0⟩ := Xis x.Routines (g.2.2.2) l (by omega) (by omega)
 simp only [PS, a0]
 by_cases d0 : r0 < 0
 ·exact ⟨-1, by simp [d0], by omega, fun h => by omega⟩
 have q0 : decide (r0 < 0) = false := by simp [d0]
 simp only [PS, q0]
 exact ⟨r0, rfl, by omega, fun h => c0 (by omega)⟩
theorem QtoOp (x : GOp) : Qn5 x = some x := rfl
theorem Xkd (x : (List GOp)) (h : Qzb x) : Qj2 x = some x := by
 have hl : x.length < 1099511627776 := by have := (show x.length ≤ 1048576 from h); omega
 rw [Qj2]
 exact toL (t := Qn5) (by intros; rw [Qgd]) hl (fun y hy => QtoOp y) _
theorem Xhc (x : (List (List GOp))) (h : Qy0 x) : Qjj x = some x := by
 have hl : x.length < 1099511627776 := by have := h.1; omega
 rw [Qjj]
 exact toL (t := Qj2) (by intros; rw [Qfh]) hl (fun y hy => Xkd y (h.2 y hy)) _
theorem Xj2 (x : Qaf) (h : Qws x) : Qfs x = some x := by
 rw [Qfs]; simp only [PS, Xhc _ (h)]
theorem Xl1 (x : Nat) : Qee x x = some true := by
 unfold Qee
 rcases Qn1 x with h | h
 ·simp [h]
 ·unfold Qgf
  by_cases h0 : Qc0 x 0 = some .eq
  ·simp [h, h0]
  ·simp [h, h0]
theorem QeqOp (x : GOp) : Qkm x x = some true := by
 simp [Qkm, Xl1]
theorem Xk0 (x : (List GOp)) (h : Qzb x) : Qj7 x x = some true := by
 have hl : x.length < 1099511627776 := by have := (show x.length ≤ 1048576 from h); omega
 rw [Qj7]; simp only [PS, ]
 exact eqL (e := Qkm) (by intros; rw [Qga]) hl (fun y hy => QeqOp y)
theorem Xi1 (x : (List (List GOp))) (h : Qy0 x) : Qjc x x = some true := by
 have hl : x.length < 1099511627776 := by have := h.1; omega
 rw [Qjc]; simp only [PS, ]
 exact eqL (e := Qj7) (by intros; rw [Qfk]) hl (fun y hy => Xk0 y (h.2 y hy))
theorem Xil (x : Qaf) (h : Qws x) : Qja x x = some true := by
 simp [Qja, Xi1 _ (h)]
theorem Xl8 (x : (List GOp)) (v : Int) (h : Qzb x) (h0 : 0 ≤ v) (h1 : v + 4194304 < 4611686018427387904) : ∃ v' y, Qh2 x v = some (v', y) ∧ y.length = x.length ∧ True ∧ v ≤ v' ∧ v' ≤ v + 4194304 := by
  have hl : x.length ≤ 1048576 := h
  obtain ⟨v', y, e1, e2, e3, e4, e5⟩ := Xbi (F := Qcx) (H := Num (fun v => (GOp.mk v (v + 1) (v + 1 + 1) (fOf (v + 1 + 1 + 1)))) (fun v => v + 1 + 1 + 1 + 1)) (ok := fun _ => True) (b := 4) (B := 1048576) (by omega) (fun n a v k hk => by rw [Qcx, hk]; simp)
    (fun n a v k hk _ h0 h1 => by
      have w1 : w64 (v + 1) = v + 1 := Qbz (by omega)
      have w2 : w64 (v + 1 + 1) = v + 1 + 1 := Qbz (by omega)
      have w3 : w64 (v + 1 + 1 + 1) = v + 1 + 1 + 1 := Qbz (by omega)
      have w4 : w64 (v + 1 + 1 + 1 + 1) = v + 1 + 1 + 1 + 1 := Qbz (by omega)
      refine ⟨v + 1 + 1 + 1 + 1, (GOp.mk v (v + 1) (v + 1 + 1) (fOf (v + 1 + 1 + 1))), ?_, ⟨rfl, h0, rfl, by omega⟩, by omega, by omega⟩
      rw [Qcx]
      simp only [PS, hk, Qeq hk, w1, w2, w3, w4]) (by omega) x v hl (fun _ _ => trivial) h0 (by omega)
  refine ⟨v', y, by rw [Qh2]; simp only [PS, e1], e2, ?_, e4, by omega⟩
  trivial
theorem Xja (x : (List (List GOp))) (v : Int) (h : Qy0 x) (h0 : 0 ≤ v) (h1 : v + 4398046511104 < 4611686018427387904) : ∃ v' y, Qha x v = some (v', y) ∧ y.length = x.length ∧ True ∧ v ≤ v' ∧ v' ≤ v + 4398046511104 := by
 have hl : x.length ≤ 1048576 := h.1
 have st := Xk6 (F := Qd5) (M := Qh2) (H := fun y v v' => True) (ok := fun y => Qzb y) (b := 4194304) (by intros; rw [Qd5]) (fun y v hy h0 h1 => Xl8 y v hy h0 h1)
 obtain ⟨v', y, e1, e2, e3, e4, e5⟩ := Xbi (B := 1048576) (by omega) st.1 st.2 (by omega) x v hl h.2 h0 (by omega)
 refine ⟨v', y, by rw [Qha]; simp only [PS, e1], e2, ?_, e4, by omega⟩
 trivial
theorem Xiu (x : Qaf) (v : Int) (h : Qws x) (h0 : 0 ≤ v) (h1 : v + 4398046511104 < 4611686018427387904) : ∃ v' y0, Qhm x.Cells x.Locks x.Conds x.Routines v = some (v', y0) ∧ y0.length = x.Routines.length ∧ v ≤ v' ∧ v' ≤ v + 4398046511104 := by
 obtain ⟨v0, y0, a0, b0, c0, d0, e0⟩ := Xja x.Routines v (h) (by omega) (by omega)
 refine ⟨v0, y0, ?_, b0, by omega, by omega⟩
 ·rw [Qhm]; simp only [PS, a0, Qc2 b0]
def Qt6 (x : (List Int)) : Prop := x.length ≤ 1048576
theorem Xhf (x : (List Int)) (h : Qt6 x) : Qg0 x = some x := by
 have hl : x.length < 1099511627776 := by have := (show x.length ≤ 1048576 from h); omega
 rw [Qg0]
 exact toLs (by intros; rw [Qfj]) hl _
theorem Qye (x : (List Int)) (h : Qt6 x) : Qgv x x = some true := by
 have hl : x.length < 1099511627776 := by have := (show x.length ≤ 1048576 from h); omega
 rw [Qgv]; simp only [PS, ]
 exact eqLs (by intros; rw [Qff]) hl
def Qnn (x : (List Nat)) : Prop := x.length ≤ 1048576
theorem Qsp (x : (List Nat)) (h : Qnn x) : Qel x x = some true := by
 have hl : x.length < 1099511627776 := by have := (show x.length ≤ 1048576 from h); omega
 rw [Qel]; simp only [PS, ]
 exact eqL (e := Qee) (by intros; rw [Qd4]) hl (fun y _ => Xl1 y)
def Qve (x : Qa0) : Prop := Qnn x.Stack
theorem Xd6 (x : Qa0) (h : Qve x) : Qg9 x x = some true := by
 simp [Qg9, Qsp _ (h)]
def Qt9 (x : (List Qa0)) : Prop := x.length ≤ 1048576 ∧ ∀ y ∈ x, Qve y
theorem Xaz (x : (List Qa0)) (h : Qt9 x) : Qgm x x = some true := by
 have hl : x.length < 1099511627776 := by have := h.1; omega
 rw [Qgm]; simp only [PS, ]
 exact eqL (e := Qg9) (by intros; rw [Qdj]) hl (fun y hy => Xd6 y (h.2 y hy))
def Qw7 (x : Qa2) : Prop := Qt9 x.Threads ∧ Qnn x.Cells ∧ Qt6 x.Owner
theorem Xf2 (x : Qa2) (h : Qw7 x) : Qi9 x x = some true := by
 simp [Qi9, Xaz _ (h.1), Qsp _ (h.2.1), Qye _ (h.2.2)]
theorem Xg0 (x : Qad) : Qh5 x x = some true := by
 simp [Qh5]
def Qwh (x : (List Qad)) : Prop := x.length ≤ 1048576
theorem Xd9 (x : (List Qad)) (h : Qwh x) : Qhc x x = some true := by
 have hl : x.length < 1099511627776 := by have := (show x.length ≤ 1048576 from h); omega
 rw [Qhc]; simp only [PS, ]
 exact eqL (e := Qh5) (by intros; rw [Qe0]) hl (fun y hy => Xg0 y)
def Xfc (x : Qc1) : Prop := Qwh x.Trace ∧ Qt6 x.Picks ∧ Qw7 x.End
theorem Xjl (x : Qc1) (h : Xfc x) : Qht x x = some true := by
 simp [Qht, Xd9 _ (h.1), Qye _ (h.2.1), Xf2 _ (h.2.2)]
theorem Qz2 (x : (List Int)) (v : Int) (h : Qt6 x) (h0 : 0 ≤ v) (h1 : v + 1048576 < 4611686018427387904) : ∃ v' y, Qf7 x v = some (v', y) ∧ y.length = x.length ∧ Qgc y v = some v' ∧ v ≤ v' ∧ v' ≤ v + 1048576 := by
  have hl : x.length ≤ 1048576 := h
  obtain ⟨v', y, e1, e2, e3, e4, e5⟩ := Xbi (F := Qck) (H := Num (fun v => v) (fun v => v + 1)) (ok := fun _ => True) (b := 1) (B := 1048576) (by omega) (fun n a v k hk => by rw [Qck, hk]; simp)
    (fun n a v k hk _ h0 h1 => by
      have w1 : w64 (v + 1) = v + 1 := Qbz (by omega)
      refine ⟨v + 1, v, ?_, ⟨rfl, h0, rfl, by omega⟩, by omega, by omega⟩
      rw [Qck]
      simp only [PS, hk, Qeq hk, w1]) (by omega) x v hl (fun _ _ => trivial) h0 (by omega)
  refine ⟨v', y, by rw [Qf7]; simp only [PS, e1], e2, ?_, e4, by omega⟩
  rw [Qgc]
  exact Xfv (fun n v k hk => by rw [Qd6, hk]; simp) (fun n v v' k hk hh h2 => by
    obtain ⟨f1, f2, f3, f4⟩ := hh
    simp only at f1 f3
    subst f3
    have w1 : w64 (v + 1) = v + 1 := Qbz (by omega)
    rw [Qd6]
    simp only [PS, hk, Qeq hk, f1, w1]) (by omega) e3
theorem Qs9 (x : (List Nat)) (v : Int) (h : Qnn x) (h0 : 0 ≤ v) (h1 : v + 1048576 < 4611686018427387904) : ∃ v' y, Qdi x v = some (v', y) ∧ y.length = x.length ∧ Qcr y v = some v' ∧ v ≤ v' ∧ v' ≤ v + 1048576 := by
  have hl : x.length ≤ 1048576 := h
  obtain ⟨v', y, e1, e2, e3, e4, e5⟩ := Xbi (F := Qbj) (H := Num (fun v => (fOf (v))) (fun v => v + 1)) (ok := fun _ => True) (b := 1) (B := 1048576) (by omega) (fun n a v k hk => by rw [Qbj, hk]; simp)
    (fun n a v k hk _ h0 h1 => by
      have w1 : w64 (v + 1) = v + 1 := Qbz (by omega)
      refine ⟨v + 1, (fOf (v)), ?_, ⟨rfl, h0, rfl, by omega⟩, by omega, by omega⟩
      rw [Qbj]
      simp only [PS, hk, Qeq hk, w1]) (by omega) x v hl (fun _ _ => trivial) h0 (by omega)
  refine ⟨v', y, by rw [Qdi]; simp only [PS, e1], e2, ?_, e4, by omega⟩
  rw [Qcr]
  exact Xfv (fun n v k hk => by rw [Qbv, hk]; simp) (fun n v v' k hk hh h2 => by
    obtain ⟨f1, f2, f3, f4⟩ := hh
    simp only at f1 f3
    subst f3
    have w1 : w64 (v + 1) = v + 1 := Qbz (by omega)
    rw [Qbv]
    simp only [PS, hk, Qeq hk, f1, w1, Xfr]) (by omega) e3
theorem Xb7 (x : (List Qa0)) (v : Int) (h : Qt9 x) (h0 : 0 ≤ v) (h1 : v + 1099516870656 < 4611686018427387904) : ∃ v' y, Qfc x v = some (v', y) ∧ y.length = x.length ∧ Qfe y v = some v' ∧ v ≤ v' ∧ v' ≤ v + 1099516870656 := by
  have hl : x.length ≤ 1048576 := h.1
  obtain ⟨v', y, e1, e2, e3, e4, e5⟩ := Xbi (F := Qbm) (H := fun y v v' => y.Routine = v ∧ y.Pc = v + 1 ∧ y.State = v + 2 ∧ y.Cond = v + 3 ∧ y.Lock = v + 4 ∧ Qcr y.Stack (v + 5) = some v' ∧ 0 ≤ v ∧ v' < 4611686018427387904 ∧ 0 ≤ v' ∧ v + 5 < 4611686018427387904) (ok := fun y => Qve y) (b := 1048581) (B := 1048576) (by omega) (fun n a v k hk => by rw [Qbm, hk]; simp)
    (fun n a v k hk hx h0 h1 => by
      obtain ⟨v2, y, a1, a2, a3, a4, a5⟩ := Qs9 a[k].Stack (v + 5) hx (by omega) (by omega)
      have w1 : w64 (v + 1) = v + 1 := Qbz (by omega)
      have w2 : w64 (v + 2) = v + 2 := Qbz (by omega)
      have w3 : w64 (v + 3) = v + 3 := Qbz (by omega)
      have w4 : w64 (v + 4) = v + 4 := Qbz (by omega)
      have w5 : w64 (v + 5) = v + 5 := Qbz (by omega)
      have u2 : w64 (v + 1 + 1) = v + 2 := by rw [show v + 1 + 1 = v + 2 by omega]; exact w2
      have u3 : w64 (v + 2 + 1) = v + 3 := by rw [show v + 2 + 1 = v + 3 by omega]; exact w3
      have u4 : w64 (v + 3 + 1) = v + 4 := by rw [show v + 3 + 1 = v + 4 by omega]; exact w4
      have u5 : w64 (v + 4 + 1) = v + 5 := by rw [show v + 4 + 1 = v + 5 by omega]; exact w5
      refine ⟨v2, Qa0.mk (v) (v + 1) (v + 2) (v + 3) (v + 4) y, ?_, ⟨rfl, rfl, rfl, rfl, rfl, a3, h0, by omega, by omega, by omega⟩, by omega, by omega⟩
      rw [Qbm]
      simp only [PS, hk, Qeq hk, w1, w2, w3, w4, w5, u2, u3, u4, u5, a1, Qc2 a2, List.set_set]) (by omega) x v hl h.2 h0 (by omega)
  refine ⟨v', y, by rw [Qfc]; simp only [PS, e1], e2, ?_, e4, by omega⟩
  rw [Qfe]
  exact Xfv (fun n v k hk => by rw [Qc7, hk]; simp) (fun n v v' k hk hh h2 => by
    obtain ⟨f0, f1, f2, f3, f4, f8, f9, f10, f11, f12⟩ := hh
    have w1 : w64 (v + 1) = v + 1 := Qbz (by omega)
    have w2 : w64 (v + 2) = v + 2 := Qbz (by omega)
    have w3 : w64 (v + 3) = v + 3 := Qbz (by omega)
    have w4 : w64 (v + 4) = v + 4 := Qbz (by omega)
    have w5 : w64 (v + 5) = v + 5 := Qbz (by omega)
    have u2 : w64 (v + 1 + 1) = v + 2 := by rw [show v + 1 + 1 = v + 2 by omega]; exact w2
    have u3 : w64 (v + 2 + 1) = v + 3 := by rw [show v + 2 + 1 = v + 3 by omega]; exact w3
    have u4 : w64 (v + 3 + 1) = v + 4 := by rw [show v + 3 + 1 = v + 4 by omega]; exact w4
    have u5 : w64 (v + 4 + 1) = v + 5 := by rw [show v + 4 + 1 = v + 5 by omega]; exact w5
    have nn : decide (v' < 0) = false := by simp <;> omega
    rw [Qc7]
    simp only [PS, hk, Qeq hk, w1, w2, w3, w4, w5, u2, u3, u4, u5, f0, f1, f2, f3, f4, f8, nn, bne_self_eq_false, Bool.false_eq_true, if_false]) (by omega) e3
theorem Xey (x : Qa2) (v : Int) (h : Qw7 x) (h0 : 0 ≤ v) (h1 : v + 1099518967808 < 4611686018427387904) : ∃ v' y0 y1 y2, Qgq x.Threads x.Cells x.Owner x.Fault v = some (v', y0, y1, y2) ∧ y0.length = x.Threads.length ∧ y1.length = x.Cells.length ∧ y2.length = x.Owner.length ∧ Qgp (Qa2.mk y0 y1 y2 x.Fault) v = some v' ∧ v ≤ v' ∧ v' ≤ v + 1099518967808 := by
 obtain ⟨v0, y0, a0, b0, c0, d0, e0⟩ := Xb7 x.Threads v (h.1) (by omega) (by omega)
 obtain ⟨v1, y1, a1, b1, c1, d1, e1⟩ := Qs9 x.Cells v0 (h.2.1) (by omega) (by omega)
 obtain ⟨v2, y2, a2, b2, c2, d2, e2⟩ := Qz2 x.Owner v1 (h.2.2) (by omega) (by omega)
 refine ⟨v2, y0, y1, y2, ?_, b0, b1, b2, ?_, by omega, by omega⟩
 ·rw [Qgq]; simp only [PS, a0, a1, a2, Qc2 b0, Qc2 b1, Qc2 b2]
 have n0 : decide (v0 < 0) = false := by simp <;> omega
 have n1 : decide (v1 < 0) = false := by simp <;> omega
 have n2 : decide (v2 < 0) = false := by simp <;> omega
 ·rw [Qgp]; simp only [PS, c0, n0, c1, n1, c2, n2]
theorem Xcg (x : (List Qad)) (v : Int) (h : Qwh x) (h0 : 0 ≤ v) (h1 : v + 5242880 < 4611686018427387904) : ∃ v' y, Qg1 x v = some (v', y) ∧ y.length = x.length ∧ Qfy y v = some v' ∧ v ≤ v' ∧ v' ≤ v + 5242880 := by
  have hl : x.length ≤ 1048576 := h
  obtain ⟨v', y, e1, e2, e3, e4, e5⟩ := Xbi (F := Qby) (H := Num (fun v => (Qad.mk v (v + 1) (v + 1 + 1) (v + 1 + 1 + 1) (v + 1 + 1 + 1 + 1))) (fun v => v + 1 + 1 + 1 + 1 + 1)) (ok := fun _ => True) (b := 5) (B := 1048576) (by omega) (fun n a v k hk => by rw [Qby, hk]; simp)
    (fun n a v k hk _ h0 h1 => by
      have w1 : w64 (v + 1) = v + 1 := Qbz (by omega)
      have w2 : w64 (v + 1 + 1) = v + 1 + 1 := Qbz (by omega)
      have w3 : w64 (v + 1 + 1 + 1) = v + 1 + 1 + 1 := Qbz (by omega)
      have w4 : w64 (v + 1 + 1 + 1 + 1) = v + 1 + 1 + 1 + 1 := Qbz (by omega)
      have w5 : w64 (v + 1 + 1 + 1 + 1 + 1) = v + 1 + 1 + 1 + 1 + 1 := Qbz (by omega)
      refine ⟨v + 1 + 1 + 1 + 1 + 1, (Qad.mk v (v + 1) (v + 1 + 1) (v + 1 + 1 + 1) (v + 1 + 1 + 1 + 1)), ?_, ⟨rfl, h0, rfl, by omega⟩, by omega, by omega⟩
      rw [Qby]
      simp only [PS, hk, Qeq hk, w1, w2, w3, w4, w5]) (by omega) x v hl (fun _ _ => trivial) h0 (by omega)
  refine ⟨v', y, by rw [Qg1]; simp only [PS, e1], e2, ?_, e4, by omega⟩
  rw [Qfy]
  exact Xfv (fun n v k hk => by rw [Qcf, hk]; simp) (fun n v v' k hk hh h2 => by
    obtain ⟨f1, f2, f3, f4⟩ := hh
    simp only at f1 f3
    subst f3
    have w1 : w64 (v + 1) = v + 1 := Qbz (by omega)
    have w2 : w64 (v + 1 + 1) = v + 1 + 1 := Qbz (by omega)
    have w3 : w64 (v + 1 + 1 + 1) = v + 1 + 1 + 1 := Qbz (by omega)
    have w4 : w64 (v + 1 + 1 + 1 + 1) = v + 1 + 1 + 1 + 1 := Qbz (by omega)
    have w5 : w64 (v + 1 + 1 + 1 + 1 + 1) = v + 1 + 1 + 1 + 1 + 1 := Qbz (by omega)
    rw [Qcf]
    simp only [PS, hk, Qeq hk, f1, w1, w2, w3, w4, w5]) (by omega) e3
theorem Xkt (x : Qc1) (v : Int) (h : Xfc x) (h0 : 0 ≤ v) (h1 : v + 1099525259264 < 4611686018427387904) : ∃ v' y0 y1 y2 y3 y4, Qii x.Code x.Trace x.Picks x.End.Threads x.End.Cells x.End.Owner x.End.Fault v = some (v', y0, y1, y2, y3, y4) ∧ y0.length = x.Trace.length ∧ y1.length = x.Picks.length ∧ y2.length = x.End.Threads.length ∧ y3.length = x.End.Cells.length ∧ y4.length = x.End.Owner.length ∧ Qh6 (Qc1.mk x.Code y0 y1 (Qa2.mk y2 y3 y4 x.End.Fault)) v = some v' ∧ v ≤ v' ∧ v' ≤ v + 1099525259264 := by
 obtain ⟨v0, y0, a0, b0, c0, d0, e0⟩ := Xcg x.Trace v (h.1) (by omega) (by omega)
 obtain ⟨v1, y1, a1, b1, c1, d1, e1⟩ := Qz2 x.Picks v0 (h.2.1) (by omega) (by omega)
 obtain ⟨v2, y2, y3, y4, a2, b2, b3, b4, c2, d2, e2⟩ := Xey x.End v1 (h.2.2) (by omega) (by omega)
 refine ⟨v2, y0, y1, y2, y3, y4, ?_, b0, b1, b2, b3, b4, ?_, by omega, by omega⟩
 ·rw [Qii]; simp only [PS, a0, a1, a2, Qc2 b0, Qc2 b1, Qc2 b2, Qc2 b3, Qc2 b4]
 have n0 : decide (v0 < 0) = false := by simp <;> omega
 have n1 : decide (v1 < 0) = false := by simp <;> omega
 have n2 : decide (v2 < 0) = false := by simp <;> omega
 ·rw [Qh6]; simp only [PS, c0, n0, c1, n1, c2, n2]
theorem Qqk (x0 : Qaf) (x1 : (List Int)) (g0 : Qqj x0) (g1 : x1.length ≤ 9223372036854775807) (core : ∀ (sm0 : Qws x0), ∀ (sm1 : Qt6 x1), ∃ r : Qc1 × Bool, Qfu x0 x1 = some r ∧ Qet x0 x1 = some r ∧ Xfc r.1) : Qco x0 x1 = some true := by
 rw [Qco]
 obtain ⟨s0, z0, za0, zb0⟩ := Xi4 x0 g0 1048576 (by omega) (by omega)
 simp only [PS, z0]
 by_cases hs0 : s0 < 0
 ·simp [hs0]
 have hd0 : decide (s0 < 0) = false := by simp [hs0]
 simp only [PS, hd0]
 have sm0 := zb0 (by omega)
 by_cases hs1 : x1.length ≤ 1048576
 case neg => simp [show ¬ (x1.length : Int) ≤ 1048576 by omega] <;> omega
 have hd1 : decide ((x1.length : Int) > 1048576) = false := by simp <;> omega
 simp only [PS, hd1]
 have sm1 : Qt6 x1 := hs1
 obtain ⟨r, e1, e2, o0⟩ := core sm0 sm1
 obtain ⟨n0, w0_0, na0, nb0_0, nd0, ne0⟩ := Xiu x0 1 sm0 (by omega) (by omega)
 obtain ⟨n1, w1, na1, nb1, nc1, nd1, ne1⟩ := Qz2 x1 n0 sm1 (by omega) (by omega)
 have nf : decide (n1 < 0) = false := by simp <;> omega
 obtain ⟨m0, y0_0, y0_1, y0_2, y0_3, y0_4, ma0, mb0_0, mb0_1, mb0_2, mb0_3, mb0_4, mc0, md0, me0⟩ := Xkt r.1 1 o0 (by omega) (by omega)
 have mf0 : decide (m0 < 0) = false := by simp <;> omega
 simp only [PS, e1, e2, Xj2 x0 sm0, Xil x0 sm0, Xhf x1 sm1, Qye x1 sm1, Xjl r.1 o0, ma0, Qc2 mb0_0, Qc2 mb0_1, Qc2 mb0_2, Qc2 mb0_3, Qc2 mb0_4, mc0, mf0, na0, Qc2 nb0_0, na1, Qc2 nb1, nf, Qcv, Qcu, Qcw]
end Go.Proofs.YtjcaompblpglcaaGreat
