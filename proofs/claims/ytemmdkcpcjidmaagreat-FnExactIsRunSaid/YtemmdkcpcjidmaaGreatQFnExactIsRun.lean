/- Plain facts for FnExactIsRun; no condition. -/

import Derived.Test.YtemmdkcpcjidmaaGreatIS
set_option linter.unusedVariables false
set_option linter.unusedSimpArgs false
namespace Go.Proofs.YtemmdkcpcjidmaaGreat
open Go Go.T
def Xfs (x : (List GOp)) : Prop := x.length ≤ 1048576
theorem Xln (x : (List GOp)) (g : x.length ≤ 9223372036854775807) (l : Int) (h0 : 0 ≤ l) (h1 : l ≤ 1048576) : ∃ r : Int, Qji x l = some r ∧ r ≤ l ∧ (0 ≤ r → Xfs x) := by
 rw [Qji, Qh5 (by omega)]
 by_cases h : l - (x.length : Int) < 0
 ·exact ⟨-1, by simp [h], by omega, fun h => by omega⟩
 ·exact ⟨l - (x.length : Int), by simp [h], by omega, fun _ => by show x.length ≤ 1048576; omega⟩
def Xb0 (x : (List (List GOp))) : Prop := x.length ≤ 1048576 ∧ ∀ y ∈ x, Xfs y
theorem Xk5 (x : (List (List GOp))) (g : x.length ≤ 9223372036854775807 ∧ ∀ y0 ∈ x, y0.length ≤ 9223372036854775807 ∧ ∀ y1 ∈ y0, Qyz y1) (l : Int) (h0 : 0 ≤ l) (h1 : l ≤ 1048576) : ∃ r : Int, Qka x l = some r ∧ r ≤ l ∧ (0 ≤ r → Xb0 x) := by
 have g1 := g.1
 rw [Qka, Qh5 (by omega)]
 by_cases h : l - (x.length : Int) < 0
 ·exact ⟨-1, by simp [h], by omega, fun h => by omega⟩
 ·have hd : decide (l - (x.length : Int) < 0) = false := by simp [h]
  simp only [PS, hd]
  obtain ⟨r, e1, e2, e3⟩ := szL (p := x) (s := Qji) (small := fun y => Xfs y) (F := Qej x) (by intros; rw [Qej]) (by omega) (fun y hy l h0 h1 => Xln y ((g.2 y hy).1) l h0 h1) (l := l - (x.length : Int)) (by omega) (by omega)
  exact ⟨r, e1, by omega, fun h => ⟨by omega, e3 h⟩⟩
def Xb6 (x : Qah) : Prop := Xb0 x.Routines
theorem Xlb (x : Qah) (g : Qoc x) (l : Int) (h0 : 0 ≤ l) (h1 : l ≤ 1048576) : ∃ r : Int, Qjw x l = some r ∧ r ≤ l ∧ (0 ≤ r → Xb6 x) := by
 rw [Qjw]
 obtain ⟨r0, a0, b0, c0⟩ := Xk5 x.Routines (g.2.2.2) l (by omega) (by omega)
 simp only [PS, a0]
 by_cases d0 : r0 < 0
 ·exact ⟨-1, by simp [d0], by omega, fun h => by omega⟩
 have q0 : decide (r0 < 0) = false := by simp [d0]
 simp only [PS, q0]
 exact ⟨r0, rfl, by omega, fun h => c0 (by omega)⟩
def Qsk (x : (List Qab)) : Prop := x.length ≤ 1048576
theorem Xep (x : (List Qab)) (g : x.length ≤ 9223372036854775807) (l : Int) (h0 : 0 ≤ l) (h1 : l ≤ 1048576) : ∃ r : Int, Qho x l = some r ∧ r ≤ l ∧ (0 ≤ r → Qsk x) := by
 rw [Qho, Qh5 (by omega)]
 by_cases h : l - (x.length : Int) < 0
 ·exact ⟨-1, by simp [h], by omega, fun h => by omega⟩
 ·exact ⟨l - (x.length : Int), by simp [h], by omega, fun _ => by show x.length ≤ 1048576; omega⟩
def Qxq (x : (List Int)) : Prop := x.length ≤ 1048576
theorem Xfx (x : (List Int)) (g : x.length ≤ 9223372036854775807) (l : Int) (h0 : 0 ≤ l) (h1 : l ≤ 1048576) : ∃ r : Int, Qhx x l = some r ∧ r ≤ l ∧ (0 ≤ r → Qxq x) := by
 rw [Qhx, Qh5 (by omega)]
 by_cases h : l - (x.length : Int) < 0
 ·exact ⟨-1, by simp [h], by omega, fun h => by omega⟩
 ·exact ⟨l - (x.length : Int), by simp [h], by omega, fun _ => by show x.length ≤ 1048576; omega⟩
def Ql0 (x : (List Nat)) : Prop := x.length ≤ 1048576
theorem Qtv (x : (List Nat)) (g : x.length ≤ 9223372036854775807) (l : Int) (h0 : 0 ≤ l) (h1 : l ≤ 1048576) : ∃ r : Int, Qf1 x l = some r ∧ r ≤ l ∧ (0 ≤ r → Ql0 x) := by
 rw [Qf1, Qh5 (by omega)]
 by_cases h : l - (x.length : Int) < 0
 ·exact ⟨-1, by simp [h], by omega, fun h => by omega⟩
 ·exact ⟨l - (x.length : Int), by simp [h], by omega, fun _ => by show x.length ≤ 1048576; omega⟩
def Qp9 (x : Qa0) : Prop := Ql0 x.Stack
theorem Xfw (x : Qa0) (g : Qmv x) (l : Int) (h0 : 0 ≤ l) (h1 : l ≤ 1048576) : ∃ r : Int, Qg7 x l = some r ∧ r ≤ l ∧ (0 ≤ r → Qp9 x) := by
 rw [Qg7]
 obtain ⟨r0, a0, b0, c0⟩ := Qtv x.Stack ((g.2.2.2.2.2).1) l (by omega) (by omega)
 simp only [PS, a0]
 by_cases d0 : r0 < 0
 ·exact ⟨-1, by simp [d0], by omega, fun h => by omega⟩
 have q0 : decide (r0 < 0) = false := by simp [d0]
 simp only [PS, q0]
 exact ⟨r0, rfl, by omega, fun h => c0 (by omega)⟩
def Qox (x : (List Qa0)) : Prop := x.length ≤ 1048576 ∧ ∀ y ∈ x, Qp9 y
theorem Xc7 (x : (List Qa0)) (g : x.length ≤ 9223372036854775807 ∧ ∀ y0 ∈ x, Qmv y0) (l : Int) (h0 : 0 ≤ l) (h1 : l ≤ 1048576) : ∃ r : Int, Qgp x l = some r ∧ r ≤ l ∧ (0 ≤ r → Qox x) := by
 have g1 := g.1
 rw [Qgp, Qh5 (by omega)]
 by_cases h : l - (x.length : Int) < 0
 ·exact ⟨-1, by simp [h], by omega, fun h => by omega⟩
 ·have hd : decide (l - (x.length : Int) < 0) = false := by simp [h]
  simp only [PS, hd]
  obtain ⟨r, e1, e2, e3⟩ := szL (p := x) (s := Qg7) (small := fun y => Qp9 y) (F := Qcv x) (by intros; rw [Qcv]) (by omega) (fun y hy l h0 h1 => Xfw y (g.2 y hy) l h0 h1) (l := l - (x.length : Int)) (by omega) (by omega)
  exact ⟨r, e1, by omega, fun h => ⟨by omega, e3 h⟩⟩
def Qu2 (x : Qa1) : Prop := Qox x.Threads ∧ Ql0 x.Cells ∧ Qxq x.Owner
theorem Xh8 (x : Qa1) (g : Qsm x) (l : Int) (h0 : 0 ≤ l) (h1 : l ≤ 1048576) : ∃ r : Int, Qii x l = some r ∧ r ≤ l ∧ (0 ≤ r → Qu2 x) := by
 rw [Qii]
 obtain ⟨r0, a0, b0, c0⟩ := Xc7 x.Threads (g.1) l (by omega) (by omega)
 simp only [PS, a0]
 by_cases d0 : r0 < 0
 ·exact ⟨-1, by simp [d0], by omega, fun h => by omega⟩
 have q0 : decide (r0 < 0) = false := by simp [d0]
 simp only [PS, q0]
 obtain ⟨r1, a1, b1, c1⟩ := Qtv x.Cells ((g.2.1).1) r0 (by omega) (by omega)
 simp only [PS, a1]
 by_cases d1 : r1 < 0
 ·exact ⟨-1, by simp [d1], by omega, fun h => by omega⟩
 have q1 : decide (r1 < 0) = false := by simp [d1]
 simp only [PS, q1]
 obtain ⟨r2, a2, b2, c2⟩ := Xfx x.Owner ((g.2.2.1).1) r1 (by omega) (by omega)
 simp only [PS, a2]
 by_cases d2 : r2 < 0
 ·exact ⟨-1, by simp [d2], by omega, fun h => by omega⟩
 have q2 : decide (r2 < 0) = false := by simp [d2]
 simp only [PS, q2]
 exact ⟨r2, rfl, by omega, fun h => ⟨c0 (by omega), c1 (by omega), c2 (by omega)⟩⟩
def Xcy (x : Qcg) : Prop := Qsk x.Trace ∧ Qxq x.Picks ∧ Qu2 x.End
theorem Xng (x : Qcg) (g : Qys x) (l : Int) (h0 : 0 ≤ l) (h1 : l ≤ 1048576) : ∃ r : Int, Qkz x l = some r ∧ r ≤ l ∧ (0 ≤ r → Xcy x) := by
 rw [Qkz]
 obtain ⟨r0, a0, b0, c0⟩ := Xep x.Trace ((g.2.1).1) l (by omega) (by omega)
 simp only [PS, a0]
 by_cases d0 : r0 < 0
 ·exact ⟨-1, by simp [d0], by omega, fun h => by omega⟩
 have q0 : decide (r0 < 0) = false := by simp [d0]
 simp only [PS, q0]
 obtain ⟨r1, a1, b1, c1⟩ := Xfx x.Picks ((g.2.2.1).1) r0 (by omega) (by omega)
 simp only [PS, a1]
 by_cases d1 : r1 < 0
 ·exact ⟨-1, by simp [d1], by omega, fun h => by omega⟩
 have q1 : decide (r1 < 0) = false := by simp [d1]
 simp only [PS, q1]
 obtain ⟨r2, a2, b2, c2⟩ := Xh8 x.End (g.2.2.2) r1 (by omega) (by omega)
 simp only [PS, a2]
 by_cases d2 : r2 < 0
 ·exact ⟨-1, by simp [d2], by omega, fun h => by omega⟩
 have q2 : decide (r2 < 0) = false := by simp [d2]
 simp only [PS, q2]
 exact ⟨r2, rfl, by omega, fun h => ⟨c0 (by omega), c1 (by omega), c2 (by omega)⟩⟩
theorem QtoOp (x : GOp) : Qmc x = some x := rfl
theorem Xns (x : (List GOp)) (h : Xfs x) : Qjh x = some x := by
 have hl : x.length < 1099511627776 := by have := (show x.length ≤ 1048576 from h); omega
 rw [Qjh]
 exact toL (t := Qmc) (by intros; rw [Qgi]) hl (fun y hy => QtoOp y) _
theorem Xkk (x : (List (List GOp))) (h : Xb0 x) : Qjq x = some x := by
 have hl : x.length < 1099511627776 := by have := h.1; omega
 rw [Qjq]
 exact toL (t := Qjh) (by intros; rw [Qfp]) hl (fun y hy => Xns y (h.2 y hy)) _
theorem Xk8 (x : Qah) (h : Xb6 x) : Qgy x = some x := by
 rw [Qgy]; simp only [PS, Xkk _ (h)]
theorem Xgq (x : Qab) : Qil x = some x := rfl
theorem Xd3 (x : (List Qab)) (h : Qsk x) : Qhh x = some x := by
 have hl : x.length < 1099511627776 := by have := (show x.length ≤ 1048576 from h); omega
 rw [Qhh]
 exact toL (t := Qil) (by intros; rw [Qe0]) hl (fun y hy => Xgq y) _
theorem Xfm (x : (List Int)) (h : Qxq x) : Qi8 x = some x := by
 have hl : x.length < 1099511627776 := by have := (show x.length ≤ 1048576 from h); omega
 rw [Qi8]
 exact toLs (by intros; rw [Qfl]) hl _
theorem Qtm (x : (List Nat)) (h : Ql0 x) : Qey x = some x := by
 have hl : x.length < 1099511627776 := by have := (show x.length ≤ 1048576 from h); omega
 rw [Qey]
 exact toLs (by intros; rw [Qd6]) hl _
theorem Xe3 (x : Qa0) (h : Qp9 x) : Qgh x = some x := by
 rw [Qgh]; simp only [PS, Qtm _ (h)]
theorem Xc9 (x : (List Qa0)) (h : Qox x) : Qgr x = some x := by
 have hl : x.length < 1099511627776 := by have := h.1; omega
 rw [Qgr]
 exact toL (t := Qgh) (by intros; rw [Qdk]) hl (fun y hy => Xe3 y (h.2 y hy)) _
theorem Xgb (x : Qa1) (h : Qu2 x) : Qiu x = some x := by
 rw [Qiu]; simp only [PS, Xc9 _ (h.1), Qtm _ (h.2.1), Xfm _ (h.2.2)]
theorem Xlw (x : Qcg) (h : Xcy x) : Qhz x = some x := by
 rw [Qhz]; simp only [PS, Xd3 _ (h.1), Xfm _ (h.2.1), Xgb _ (h.2.2)]
theorem Xn0 (x : Nat) : Qed x x = some true := by
 unfold Qed
 rcases Qpi x with h | h
 ·simp [h]
 ·unfold Qg8
  by_cases h0 : Qc5 x 0 = some .eq
  ·simp [h, h0]
  ·simp [h, h0]
theorem QeqOp (x : GOp) : Ql9 x x = some true := by
 simp [Ql9, Xn0]
theorem Xnn (x : (List GOp)) (h : Xfs x) : Qjo x x = some true := by
 have hl : x.length < 1099511627776 := by have := (show x.length ≤ 1048576 from h); omega
 rw [Qjo]; simp only [PS, ]
 exact eqL (e := Ql9) (by intros; rw [Qgd]) hl (fun y hy => QeqOp y)
theorem Xj2 (x : (List (List GOp))) (h : Xb0 x) : Qk8 x x = some true := by
 have hl : x.length < 1099511627776 := by have := h.1; omega
 rw [Qk8]; simp only [PS, ]
 exact eqL (e := Qjo) (by intros; rw [Qfi]) hl (fun y hy => Xnn y (h.2 y hy))
theorem Xit (x : Qah) (h : Xb6 x) : Qk6 x x = some true := by
 simp [Qk6, Xj2 _ (h)]
theorem Xge (x : Qab) : Qh9 x x = some true := by
 simp [Qh9]
theorem Xdi (x : (List Qab)) (h : Qsk x) : Qhq x x = some true := by
 have hl : x.length < 1099511627776 := by have := (show x.length ≤ 1048576 from h); omega
 rw [Qhq]; simp only [PS, ]
 exact eqL (e := Qh9) (by intros; rw [Qdv]) hl (fun y hy => Xge y)
theorem Xec (x : (List Int)) (h : Qxq x) : Qia x x = some true := by
 have hl : x.length < 1099511627776 := by have := (show x.length ≤ 1048576 from h); omega
 rw [Qia]; simp only [PS, ]
 exact eqLs (by intros; rw [Qfk]) hl
theorem Qsu (x : (List Nat)) (h : Ql0 x) : Qeq x x = some true := by
 have hl : x.length < 1099511627776 := by have := (show x.length ≤ 1048576 from h); omega
 rw [Qeq]; simp only [PS, ]
 exact eqL (e := Qed) (by intros; rw [Qd2]) hl (fun y _ => Xn0 y)
theorem Xej (x : Qa0) (h : Qp9 x) : Qga x x = some true := by
 simp [Qga, Qsu _ (h)]
theorem Xc2 (x : (List Qa0)) (h : Qox x) : Qgv x x = some true := by
 have hl : x.length < 1099511627776 := by have := h.1; omega
 rw [Qgv]; simp only [PS, ]
 exact eqL (e := Qga) (by intros; rw [Qdi]) hl (fun y hy => Xej y (h.2 y hy))
theorem Xgi (x : Qa1) (h : Qu2 x) : Qiv x x = some true := by
 simp [Qiv, Xc2 _ (h.1), Qsu _ (h.2.1), Xec _ (h.2.2)]
theorem Xlt (x : Qcg) (h : Xcy x) : Ql3 x x = some true := by
 simp [Ql3, Xdi _ (h.1), Xec _ (h.2.1), Xgi _ (h.2.2)]
theorem Qyi (x0 : Qah) (x1 : Qcg) (g0 : Qoc x0) (g1 : Qys x1) (core : ∀ (sm0 : Xb6 x0), ∀ (sm1 : Xcy x1), ∃ r : Bool × Bool, Qjg x0 x1 = some r ∧ Qjj x0 x1 = some r) : Qex x0 x1 = some true := by
 rw [Qex]
 obtain ⟨s0, z0, za0, zb0⟩ := Xlb x0 g0 1048576 (by omega) (by omega)
 simp only [PS, z0]
 by_cases hs0 : s0 < 0
 ·simp [hs0]
 have hd0 : decide (s0 < 0) = false := by simp [hs0]
 simp only [PS, hd0]
 have sm0 := zb0 (by omega)
 obtain ⟨s1, z1, za1, zb1⟩ := Xng x1 g1 s0 (by omega) (by omega)
 simp only [PS, z1]
 by_cases hs1 : s1 < 0
 ·simp [hs1]
 have hd1 : decide (s1 < 0) = false := by simp [hs1]
 simp only [PS, hd1]
 have sm1 := zb1 (by omega)
 obtain ⟨r, e1, e2⟩ := core sm0 sm1
 simp only [PS, e1, e2, Xk8 x0 sm0, Xit x0 sm0, Xlw x1 sm1, Xlt x1 sm1, Qep]
end Go.Proofs.YtemmdkcpcjidmaaGreat
