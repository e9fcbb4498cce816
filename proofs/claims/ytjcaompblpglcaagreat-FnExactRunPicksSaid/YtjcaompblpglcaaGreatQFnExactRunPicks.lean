/- Plain facts for FnExactRunPicks; no condition. -/

import Derived.Test.YtjcaompblpglcaaGreatST5
set_option linter.unusedVariables false
set_option linter.unusedSimpArgs false
namespace Go.Proofs.YtjcaompblpglcaaGreat
open Go Go.T
def Qz5 (x : (List GOp)) : Prop := x.length ≤ 1048576
theorem Xkw (x : (List GOp)) (g : x.length ≤ 9223372036854775807) (l : Int) (h0 : 0 ≤ l) (h1 : l ≤ 1048576) : ∃ r : Int, Qja x l = some r ∧ r ≤ l ∧ (0 ≤ r → Qz5 x) := by
 rw [Qja, Qby (by omega)]
 by_cases h : l - (x.length : Int) < 0
 ·exact ⟨-1, by simp [h], by omega, fun h => by omega⟩
 ·exact ⟨l - (x.length : Int), by simp [h], by omega, fun _ => by show x.length ≤ 1048576; omega⟩
def Qx1 (x : (List (List GOp))) : Prop := x.length ≤ 1048576 ∧ ∀ y ∈ x, Qz5 y
theorem Xin (x : (List (List GOp))) (g : x.length ≤ 9223372036854775807 ∧ ∀ y0 ∈ x, y0.length ≤ 9223372036854775807 ∧ ∀ y1 ∈ y0, Qx9 y1) (l : Int) (h0 : 0 ≤ l) (h1 : l ≤ 1048576) : ∃ r : Int, Qjl x l = some r ∧ r ≤ l ∧ (0 ≤ r → Qx1 x) := by
 have g1 := g.1
 rw [Qjl, Qby (by omega)]
 by_cases h : l - (x.length : Int) < 0
 ·exact ⟨-1, by simp [h], by omega, fun h => by omega⟩
 ·have hd : decide (l - (x.length : Int) < 0) = false := by simp [h]
  simp only [PS, hd]
  obtain ⟨r, e1, e2, e3⟩ := szL (p := x) (s := Qja) (small := fun y => Qz5 y) (F := Qel x) (by intros; rw [Qel]) (by omega) (fun y hy l h0 h1 => Xkw y ((g.2 y hy).1) l h0 h1) (l := l - (x.length : Int)) (by omega) (by omega)
  exact ⟨r, e1, by omega, fun h => ⟨by omega, e3 h⟩⟩
def Qxh (x : Qaf) : Prop := Qx1 x.Routines
theorem Xjk (x : Qaf) (g : Qqe x) (l : Int) (h0 : 0 ≤ l) (h1 : l ≤ 1048576) : ∃ r : Int, Qk3 x l = some r ∧ r ≤ l ∧ (0 ≤ r → Qxh x) := by
 rw [Qk3]
 obtain ⟨r0, a0, b0, c0⟩ := Xin x.Routines (g.2.2.2) l (by omega) (by omega)
 simp only [PS, a0]
 by_cases d0 : r0 < 0
 ·exact ⟨-1, by simp [d0], by omega, fun h => by omega⟩
 have q0 : decide (r0 < 0) = false := by simp [d0]
 simp only [PS, q0]
 exact ⟨r0, rfl, by omega, fun h => c0 (by omega)⟩
theorem QtoOp (x : GOp) : Qm9 x = some x := rfl
theorem Xku (x : (List GOp)) (h : Qz5 x) : Qj6 x = some x := by
 have hl : x.length < 1099511627776 := by have := (show x.length ≤ 1048576 from h); omega
 rw [Qj6]
 exact toL (t := Qm9) (by intros; rw [Qgf]) hl (fun y hy => QtoOp y) _
theorem Xj5 (x : (List (List GOp))) (h : Qx1 x) : Qk2 x = some x := by
 have hl : x.length < 1099511627776 := by have := h.1; omega
 rw [Qk2]
 exact toL (t := Qj6) (by intros; rw [Qfq]) hl (fun y hy => Xku y (h.2 y hy)) _
theorem Xhc (x : Qaf) (h : Qxh x) : Qfw x = some x := by
 rw [Qfw]; simp only [PS, Xj5 _ (h)]
theorem Xkp (x : Nat) : Qej x x = some true := by
 unfold Qej
 rcases Qmr x with h | h
 ·simp [h]
 ·unfold Qgc
  by_cases h0 : Qc2 x 0 = some .eq
  ·simp [h, h0]
  ·simp [h, h0]
theorem QeqOp (x : GOp) : Qkt x x = some true := by
 simp [Qkt, Xkp]
theorem Xk8 (x : (List GOp)) (h : Qz5 x) : Qjc x x = some true := by
 have hl : x.length < 1099511627776 := by have := (show x.length ≤ 1048576 from h); omega
 rw [Qjc]; simp only [PS, ]
 exact eqL (e := Qkt) (by intros; rw [Qgg]) hl (fun y hy => QeqOp y)
theorem Xj6 (x : (List (List GOp))) (h : Qx1 x) : Qk1 x x = some true := by
 have hl : x.length < 1099511627776 := by have := h.1; omega
 rw [Qk1]; simp only [PS, ]
 exact eqL (e := Qjc) (by intros; rw [Qfl]) hl (fun y hy => Xk8 y (h.2 y hy))
theorem Xik (x : Qaf) (h : Qxh x) : Qjg x x = some true := by
 simp [Qjg, Xj6 _ (h)]
theorem Xk3 (x : (List GOp)) (v : Int) (h : Qz5 x) (h0 : 0 ≤ v) (h1 : v + 4194304 < 4611686018427387904) : ∃ v' y, Qh5 x v = some (v', y) ∧ y.length = x.length ∧ True ∧ v ≤ v' ∧ v' ≤ v + 4194304 := by
  have hl : x.length ≤ 1048576 := h
  obtain ⟨v', y, e1, e2, e3, e4, e5⟩ := Xaw (F := Qcu) (H := Num (fun v => (GOp.mk v (v + 1) (v + 1 + 1) (fOf (v + 1 + 1 + 1)))) (fun v => v + 1 + 1 + 1 + 1)) (ok := fun _ => True) (b := 4) (B := 1048576) (by omega) (fun n a v k hk => by rw [Qcu, hk]; simp)
    (fun n a v k hk _ h0 h1 => by
      have w1 : w64 (v + 1) = v + 1 := Qby (by omega)
      have w2 : w64 (v + 1 + 1) = v + 1 + 1 := Qby (by omega)
      have w3 : w64 (v + 1 + 1 + 1) = v + 1 + 1 + 1 := Qby (by omega)
      have w4 : w64 (v + 1 + 1 + 1 + 1) = v + 1 + 1 + 1 + 1 := Qby (by omega)
      refine ⟨v + 1 + 1 + 1 + 1, (GOp.mk v (v + 1) (v + 1 + 1) (fOf (v + 1 + 1 + 1))), ?_, ⟨rfl, h0, rfl, by omega⟩, by omega, by omega⟩
      rw [Qcu]
      simp only [PS, hk, Qer hk, w1, w2, w3, w4]) (by omega) x v hl (fun _ _ => trivial) h0 (by omega)
  refine ⟨v', y, by rw [Qh5]; simp only [PS, e1], e2, ?_, e4, by omega⟩
  trivial
theorem Xji (x : (List (List GOp))) (v : Int) (h : Qx1 x) (h0 : 0 ≤ v) (h1 : v + 4398046511104 < 4611686018427387904) : ∃ v' y, Qhm x v = some (v', y) ∧ y.length = x.length ∧ True ∧ v ≤ v' ∧ v' ≤ v + 4398046511104 := by
 have hl : x.length ≤ 1048576 := h.1
 have st := Xl0 (F := Qd3) (M := Qh5) (H := fun y v v' => True) (ok := fun y => Qz5 y) (b := 4194304) (by intros; rw [Qd3]) (fun y v hy h0 h1 => Xk3 y v hy h0 h1)
 obtain ⟨v', y, e1, e2, e3, e4, e5⟩ := Xaw (B := 1048576) (by omega) st.1 st.2 (by omega) x v hl h.2 h0 (by omega)
 refine ⟨v', y, by rw [Qhm]; simp only [PS, e1], e2, ?_, e4, by omega⟩
 trivial
theorem Xjl (x : Qaf) (v : Int) (h : Qxh x) (h0 : 0 ≤ v) (h1 : v + 4398046511104 < 4611686018427387904) : ∃ v' y0, Qhe x.Cells x.Locks x.Conds x.Routines v = some (v', y0) ∧ y0.length = x.Routines.length ∧ v ≤ v' ∧ v' ≤ v + 4398046511104 := by
 obtain ⟨v0, y0, a0, b0, c0, d0, e0⟩ := Xji x.Routines v (h) (by omega) (by omega)
 refine ⟨v0, y0, ?_, b0, by omega, by omega⟩
 ·rw [Qhe]; simp only [PS, a0, Qc3 b0]
def Qs1 (x : (List Int)) : Prop := x.length ≤ 1048576
theorem Xhq (x : (List Int)) (h : Qs1 x) : Qg1 x = some x := by
 have hl : x.length < 1099511627776 := by have := (show x.length ≤ 1048576 from h); omega
 rw [Qg1]
 exact toLs (by intros; rw [Qfk]) hl _
theorem Qze (x : (List Int)) (h : Qs1 x) : Qgy x x = some true := by
 have hl : x.length < 1099511627776 := by have := (show x.length ≤ 1048576 from h); omega
 rw [Qgy]; simp only [PS, ]
 exact eqLs (by intros; rw [Qfo]) hl
def Qn2 (x : (List Nat)) : Prop := x.length ≤ 1048576
theorem Qth (x : (List Nat)) (h : Qn2 x) : Qez x x = some true := by
 have hl : x.length < 1099511627776 := by have := (show x.length ≤ 1048576 from h); omega
 rw [Qez]; simp only [PS, ]
 exact eqL (e := Qej) (by intros; rw [Qcz]) hl (fun y _ => Xkp y)
def Qwg (x : Qa0) : Prop := Qn2 x.Stack
theorem Xcz (x : Qa0) (h : Qwg x) : Qge x x = some true := by
 simp [Qge, Qth _ (h)]
def Qs5 (x : (List Qa0)) : Prop := x.length ≤ 1048576 ∧ ∀ y ∈ x, Qwg y
theorem Xbb (x : (List Qa0)) (h : Qs5 x) : Qgt x x = some true := by
 have hl : x.length < 1099511627776 := by have := h.1; omega
 rw [Qgt]; simp only [PS, ]
 exact eqL (e := Qge) (by intros; rw [Qdi]) hl (fun y hy => Xcz y (h.2 y hy))
def Qwd (x : Qa2) : Prop := Qs5 x.Threads ∧ Qn2 x.Cells ∧ Qs1 x.Owner
theorem Xff (x : Qa2) (h : Qwd x) : Qid x x = some true := by
 simp [Qid, Xbb _ (h.1), Qth _ (h.2.1), Qze _ (h.2.2)]
theorem Xex (x : Qad) : Qh7 x x = some true := by
 simp [Qh7]
def Qvo (x : (List Qad)) : Prop := x.length ≤ 1048576
theorem Xct (x : (List Qad)) (h : Qvo x) : Qhh x x = some true := by
 have hl : x.length < 1099511627776 := by have := (show x.length ≤ 1048576 from h); omega
 rw [Qhh]; simp only [PS, ]
 exact eqL (e := Qh7) (by intros; rw [Qe3]) hl (fun y hy => Xex y)
def Xfo (x : Qcy) : Prop := Qvo x.Trace ∧ Qs1 x.Picks ∧ Qwd x.End
theorem Xll (x : Qcy) (h : Xfo x) : Qi2 x x = some true := by
 simp [Qi2, Xct _ (h.1), Qze _ (h.2.1), Xff _ (h.2.2)]
theorem Qz6 (x : (List Int)) (v : Int) (h : Qs1 x) (h0 : 0 ≤ v) (h1 : v + 1048576 < 4611686018427387904) : ∃ v' y, Qf9 x v = some (v', y) ∧ y.length = x.length ∧ Qgk y v = some v' ∧ v ≤ v' ∧ v' ≤ v + 1048576 := by
  have hl : x.length ≤ 1048576 := h
  obtain ⟨v', y, e1, e2, e3, e4, e5⟩ := Xaw (F := Qcj) (H := Num (fun v => v) (fun v => v + 1)) (ok := fun _ => True) (b := 1) (B := 1048576) (by omega) (fun n a v k hk => by rw [Qcj, hk]; simp)
    (fun n a v k hk _ h0 h1 => by
      have w1 : w64 (v + 1) = v + 1 := Qby (by omega)
      refine ⟨v + 1, v, ?_, ⟨rfl, h0, rfl, by omega⟩, by omega, by omega⟩
      rw [Qcj]
      simp only [PS, hk, Qer hk, w1]) (by omega) x v hl (fun _ _ => trivial) h0 (by omega)
  refine ⟨v', y, by rw [Qf9]; simp only [PS, e1], e2, ?_, e4, by omega⟩
  rw [Qgk]
  exact Xfp (fun n v k hk => by rw [Qd4, hk]; simp) (fun n v v' k hk hh h2 => by
    obtain ⟨f1, f2, f3, f4⟩ := hh
    simp only at f1 f3
    subst f3
    have w1 : w64 (v + 1) = v + 1 := Qby (by omega)
    rw [Qd4]
    simp only [PS, hk, Qer hk, f1, w1]) (by omega) e3
theorem Qto (x : (List Nat)) (v : Int) (h : Qn2 x) (h0 : 0 ≤ v) (h1 : v + 1048576 < 4611686018427387904) : ∃ v' y, Qdj x v = some (v', y) ∧ y.length = x.length ∧ Qcq y v = some v' ∧ v ≤ v' ∧ v' ≤ v + 1048576 := by
  have hl : x.length ≤ 1048576 := h
  obtain ⟨v', y, e1, e2, e3, e4, e5⟩ := Xaw (F := Qbm) (H := Num (fun v => (fOf (v))) (fun v => v + 1)) (ok := fun _ => True) (b := 1) (B := 1048576) (by omega) (fun n a v k hk => by rw [Qbm, hk]; simp)
    (fun n a v k hk _ h0 h1 => by
      have w1 : w64 (v + 1) = v + 1 := Qby (by omega)
      refine ⟨v + 1, (fOf (v)), ?_, ⟨rfl, h0, rfl, by omega⟩, by omega, by omega⟩
      rw [Qbm]
      simp only [PS, hk, Qer hk, w1]) (by omega) x v hl (fun _ _ => trivial) h0 (by omega)
  refine ⟨v', y, by rw [Qdj]; simp only [PS, e1], e2, ?_, e4, by omega⟩
  rw [Qcq]
  exact Xfp (fun n v k hk => by rw [Qbw, hk]; simp) (fun n v v' k hk hh h2 => by
    obtain ⟨f1, f2, f3, f4⟩ := hh
    simp only at f1 f3
    subst f3
    have w1 : w64 (v + 1) = v + 1 := Qby (by omega)
    rw [Qbw]
    simp only [PS, hk, Qer hk, f1, w1, Xev]) (by omega) e3
theorem Xaq (x : (List Qa0)) (v : Int) (h : Qs5 x) (h0 : 0 ≤ v) (h1 : v + 1099516870656 < 4611686018427387904) : ∃ v' y, Qfj x v = some (v', y) ∧ y.length = x.length ∧ Qfh y v = some v' ∧ v ≤ v' ∧ v' ≤ v + 1099516870656 := by
  have hl : x.length ≤ 1048576 := h.1
  obtain ⟨v', y, e1, e2, e3, e4, e5⟩ := Xaw (F := Qbp) (H := fun y v v' => y.Routine = v ∧ y.Pc = v + 1 ∧ y.State = v + 2 ∧ y.Cond = v + 3 ∧ y.Lock = v + 4 ∧ Qcq y.Stack (v + 5) = some v' ∧ 0 ≤ v ∧ v' < 4611686018427387904 ∧ 0 ≤ v' ∧ v + 5 < 4611686018427387904) (ok := fun y => Qwg y) (b := 1048581) (B := 1048576) (by omega) (fun n a v k hk => by rw [Qbp, hk]; simp)
    (fun n a v k hk hx h0 h1 => by
      obtain ⟨v2, y, a1, a2, a3, a4, a5⟩ := Qto a[k].Stack (v + 5) hx (by omega) (by omega)
      have w1 : w64 (v + 1) = v + 1 := Qby (by omega)
      have w2 : w64 (v + 2) = v + 2 := Qby (by omega)
      have w3 : w64 (v + 3) = v + 3 := Qby (by omega)
      have w4 : w64 (v + 4) = v + 4 := Qby (by omega)
      have w5 : w64 (v + 5) = v + 5 := Qby (by omega)
      have u2 : w64 (v + 1 + 1) = v + 2 := by rw [show v + 1 + 1 = v + 2 by omega]; exact w2
      have u3 : w64 (v + 2 + 1) = v + 3 := by rw [show v + 2 + 1 = v + 3 by omega]; exact w3
      have u4 : w64 (v + 3 + 1) = v + 4 := by rw [show v + 3 + 1 = v + 4 by omega]; exact w4
      have u5 : w64 (v + 4 + 1) = v + 5 := by rw [show v + 4 + 1 = v + 5 by omega]; exact w5
      refine ⟨v2, Qa0.mk (v) (v + 1) (v + 2) (v + 3) (v + 4) y, ?_, ⟨rfl, rfl, rfl, rfl, rfl, a3, h0, by omega, by omega, by omega⟩, by omega, by omega⟩
      rw [Qbp]
      simp only [PS, hk, Qer hk, w1, w2, w3, w4, w5, u2, u3, u4, u5, a1, Qc3 a2, List.set_set]) (by omega) x v hl h.2 h0 (by omega)
  refine ⟨v', y, by rw [Qfj]; simp only [PS, e1], e2, ?_, e4, by omega⟩
  rw [Qfh]
  exact Xfp (fun n v k hk => by rw [Qc8, hk]; simp) (fun n v v' k hk hh h2 => by
    obtain ⟨f0, f1, f2, f3, f4, f8, f9, f10, f11, f12⟩ := hh
    have w1 : w64 (v + 1) = v + 1 := Qby (by omega)
    have w2 : w64 (v + 2) = v + 2 := Qby (by omega)
    have w3 : w64 (v + 3) = v + 3 := Qby (by omega)
    have w4 : w64 (v + 4) = v + 4 := Qby (by omega)
    have w5 : w64 (v + 5) = v + 5 := Qby (by omega)
    have u2 : w64 (v + 1 + 1) = v + 2 := by rw [show v + 1 + 1 = v + 2 by omega]; exact w2
    have u3 : w64 (v + 2 + 1) = v + 3 := by rw [show v + 2 + 1 = v + 3 by omega]; exact w3
    have u4 : w64 (v + 3 + 1) = v + 4 := by rw [show v + 3 + 1 = v + 4 by omega]; exact w4
    have u5 : w64 (v + 4 + 1) = v + 5 := by rw [show v + 4 + 1 = v + 5 by omega]; exact w5
    have nn : decide (v' < 0) = false := by simp <;> omega
    rw [Qc8]
    simp only [PS, hk, Qer hk, w1, w2, w3, w4, w5, u2, u3, u4, u5, f0, f1, f2, f3, f4, f8, nn, bne_self_eq_false, Bool.false_eq_true, if_false]) (by omega) e3
theorem Xfc (x : Qa2) (v : Int) (h : Qwd x) (h0 : 0 ≤ v) (h1 : v + 1099518967808 < 4611686018427387904) : ∃ v' y0 y1 y2, Qgr x.Threads x.Cells x.Owner x.Fault v = some (v', y0, y1, y2) ∧ y0.length = x.Threads.length ∧ y1.length = x.Cells.length ∧ y2.length = x.Owner.length ∧ Qgs (Qa2.mk y0 y1 y2 x.Fault) v = some v' ∧ v ≤ v' ∧ v' ≤ v + 1099518967808 := by
 obtain ⟨v0, y0, a0, b0, c0, d0, e0⟩ := Xaq x.Threads v (h.1) (by omega) (by omega)
 obtain ⟨v1, y1, a1, b1, c1, d1, e1⟩ := Qto x.Cells v0 (h.2.1) (by omega) (by omega)
 obtain ⟨v2, y2, a2, b2, c2, d2, e2⟩ := Qz6 x.Owner v1 (h.2.2) (by omega) (by omega)
 refine ⟨v2, y0, y1, y2, ?_, b0, b1, b2, ?_, by omega, by omega⟩
 ·rw [Qgr]; simp only [PS, a0, a1, a2, Qc3 b0, Qc3 b1, Qc3 b2]
 have n0 : decide (v0 < 0) = false := by simp <;> omega
 have n1 : decide (v1 < 0) = false := by simp <;> omega
 have n2 : decide (v2 < 0) = false := by simp <;> omega
 ·rw [Qgs]; simp only [PS, c0, n0, c1, n1, c2, n2]
theorem Xd9 (x : (List Qad)) (v : Int) (h : Qvo x) (h0 : 0 ≤ v) (h1 : v + 5242880 < 4611686018427387904) : ∃ v' y, Qg7 x v = some (v', y) ∧ y.length = x.length ∧ Qfz y v = some v' ∧ v ≤ v' ∧ v' ≤ v + 5242880 := by
  have hl : x.length ≤ 1048576 := h
  obtain ⟨v', y, e1, e2, e3, e4, e5⟩ := Xaw (F := Qc0) (H := Num (fun v => (Qad.mk v (v + 1) (v + 1 + 1) (v + 1 + 1 + 1) (v + 1 + 1 + 1 + 1))) (fun v => v + 1 + 1 + 1 + 1 + 1)) (ok := fun _ => True) (b := 5) (B := 1048576) (by omega) (fun n a v k hk => by rw [Qc0, hk]; simp)
    (fun n a v k hk _ h0 h1 => by
      have w1 : w64 (v + 1) = v + 1 := Qby (by omega)
      have w2 : w64 (v + 1 + 1) = v + 1 + 1 := Qby (by omega)
      have w3 : w64 (v + 1 + 1 + 1) = v + 1 + 1 + 1 := Qby (by omega)
      have w4 : w64 (v + 1 + 1 + 1 + 1) = v + 1 + 1 + 1 + 1 := Qby (by omega)
      have w5 : w64 (v + 1 + 1 + 1 + 1 + 1) = v + 1 + 1 + 1 + 1 + 1 := Qby (by omega)
      refine ⟨v + 1 + 1 + 1 + 1 + 1, (Qad.mk v (v + 1) (v + 1 + 1) (v + 1 + 1 + 1) (v + 1 + 1 + 1 + 1)), ?_, ⟨rfl, h0, rfl, by omega⟩, by omega, by omega⟩
      rw [Qc0]
      simp only [PS, hk, Qer hk, w1, w2, w3, w4, w5]) (by omega) x v hl (fun _ _ => trivial) h0 (by omega)
  refine ⟨v', y, by rw [Qg7]; simp only [PS, e1], e2, ?_, e4, by omega⟩
  rw [Qfz]
  exact Xfp (fun n v k hk => by rw [Qce, hk]; simp) (fun n v v' k hk hh h2 => by
    obtain ⟨f1, f2, f3, f4⟩ := hh
    simp only at f1 f3
    subst f3
    have w1 : w64 (v + 1) = v + 1 := Qby (by omega)
    have w2 : w64 (v + 1 + 1) = v + 1 + 1 := Qby (by omega)
    have w3 : w64 (v + 1 + 1 + 1) = v + 1 + 1 + 1 := Qby (by omega)
    have w4 : w64 (v + 1 + 1 + 1 + 1) = v + 1 + 1 + 1 + 1 := Qby (by omega)
    have w5 : w64 (v + 1 + 1 + 1 + 1 + 1) = v + 1 + 1 + 1 + 1 + 1 := Qby (by omega)
    rw [Qce]
    simp only [PS, hk, Qer hk, f1, w1, w2, w3, w4, w5]) (by omega) e3
theorem Xlb (x : Qcy) (v : Int) (h : Xfo x) (h0 : 0 ≤ v) (h1 : v + 1099525259264 < 4611686018427387904) : ∃ v' y0 y1 y2 y3 y4, Qie x.Code x.Trace x.Picks x.End.Threads x.End.Cells x.End.Owner x.End.Fault v = some (v', y0, y1, y2, y3, y4) ∧ y0.length = x.Trace.length ∧ y1.length = x.Picks.length ∧ y2.length = x.End.Threads.length ∧ y3.length = x.End.Cells.length ∧ y4.length = x.End.Owner.length ∧ Qh1 (Qcy.mk x.Code y0 y1 (Qa2.mk y2 y3 y4 x.End.Fault)) v = some v' ∧ v ≤ v' ∧ v' ≤ v + 1099525259264 := by
 obtain ⟨v0, y0, a0, b0, c0, d0, e0⟩ := Xd9 x.Trace v (h.1) (by omega) (by omega)
 obtain ⟨v1, y1, a1, b1, c1, d1, e1⟩ := Qz6 x.Picks v0 (h.2.1) (by omega) (by omega)
 obtain ⟨v2, y2, y3, y4, a2, b2, b3, b4, c2, d2, e2⟩ := Xfc x.End v1 (h.2.2) (by omega) (by omega)
 refine ⟨v2, y0, y1, y2, y3, y4, ?_, b0, b1, b2, b3, b4, ?_, by omega, by omega⟩
 ·rw [Qie]; simp only [PS, a0, a1, a2, Qc3 b0, Qc3 b1, Qc3 b2, Qc3 b3, Qc3 b4]
 have n0 : decide (v0 < 0) = false := by simp <;> omega
 have n1 : decide (v1 < 0) = false := by simp <;> omega
 have n2 : decide (v2 < 0) = false := by simp <;> omega
 ·rw [Qh1]; simp only [PS, c0, n0, c1, n1, c2, n2]
theorem Qtf (x0 : Qaf) (x1 : (List Int)) (x2 : Int) (g0 : Qqe x0) (g1 : x1.length ≤ 9223372036854775807) (g2 : (Lit.int .i64 x2).wf = true) (core : ∀ (sm0 : Qxh x0), ∀ (sm1 : Qs1 x1), ∃ r : Qcy × Bool, Qhg x0 x1 x2 = some r ∧ Qgi x0 x1 x2 = some r ∧ Xfo r.1) : Qd7 x0 x1 x2 = some true := by
 rw [Qd7]
 obtain ⟨s0, z0, za0, zb0⟩ := Xjk x0 g0 1048576 (by omega) (by omega)
 simp only [PS, z0]
 by_cases hs0 : s0 < 0
 ·simp [hs0]
 have hd0 : decide (s0 < 0) = false := by simp [hs0]
 simp only [PS, hd0]
 have sm0 := zb0 (by omega)
 by_cases hs1 : x1.length ≤ 1048576
 case neg => simp [show ¬ (x1.length : Int) ≤ 1048576 by omega] <;> omega
 have hd1 : decide ((x1.length : Int) > 1048576) = false := by simp <;> omega
 simp only [PS, hd1]
 have sm1 : Qs1 x1 := hs1
 obtain ⟨r, e1, e2, o0⟩ := core sm0 sm1
 obtain ⟨n0, w0_0, na0, nb0_0, nd0, ne0⟩ := Xjl x0 1 sm0 (by omega) (by omega)
 obtain ⟨n1, w1, na1, nb1, nc1, nd1, ne1⟩ := Qz6 x1 n0 sm1 (by omega) (by omega)
 have nf : decide (n1 < 0) = false := by simp <;> omega
 obtain ⟨m0, y0_0, y0_1, y0_2, y0_3, y0_4, ma0, mb0_0, mb0_1, mb0_2, mb0_3, mb0_4, mc0, md0, me0⟩ := Xlb r.1 1 o0 (by omega) (by omega)
 have mf0 : decide (m0 < 0) = false := by simp <;> omega
 simp only [PS, e1, e2, Xhc x0 sm0, Xik x0 sm0, Xhq x1 sm1, Qze x1 sm1, Xll r.1 o0, ma0, Qc3 mb0_0, Qc3 mb0_1, Qc3 mb0_2, Qc3 mb0_3, Qc3 mb0_4, mc0, mf0, na0, Qc3 nb0_0, na1, Qc3 nb1, nf, Qdd, Qdc, Qdf]
end Go.Proofs.YtjcaompblpglcaaGreat
