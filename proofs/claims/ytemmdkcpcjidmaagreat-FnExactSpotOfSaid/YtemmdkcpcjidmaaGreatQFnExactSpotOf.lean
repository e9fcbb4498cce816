/- Plain facts for FnExactSpotOf; no condition. -/

import Derived.Test.YtemmdkcpcjidmaaGreatIS
set_option linter.unusedVariables false
set_option linter.unusedSimpArgs false
namespace Go.Proofs.YtemmdkcpcjidmaaGreat
open Go Go.T
def Xft (x : (List GOp)) : Prop := x.length ≤ 1048576
theorem Xnl (x : (List GOp)) (g : x.length ≤ 9223372036854775807) (l : Int) (h0 : 0 ≤ l) (h1 : l ≤ 1048576) : ∃ r : Int, Qjo x l = some r ∧ r ≤ l ∧ (0 ≤ r → Xft x) := by
 rw [Qjo, Qgp (by omega)]
 by_cases h : l - (x.length : Int) < 0
 ·exact ⟨-1, by simp [h], by omega, fun h => by omega⟩
 ·exact ⟨l - (x.length : Int), by simp [h], by omega, fun _ => by show x.length ≤ 1048576; omega⟩
def Xbj (x : (List (List GOp))) : Prop := x.length ≤ 1048576 ∧ ∀ y ∈ x, Xft y
theorem Xj6 (x : (List (List GOp))) (g : x.length ≤ 9223372036854775807 ∧ ∀ y0 ∈ x, y0.length ≤ 9223372036854775807 ∧ ∀ y1 ∈ y0, Qyx y1) (l : Int) (h0 : 0 ≤ l) (h1 : l ≤ 1048576) : ∃ r : Int, Qk3 x l = some r ∧ r ≤ l ∧ (0 ≤ r → Xbj x) := by
 have g1 := g.1
 rw [Qk3, Qgp (by omega)]
 by_cases h : l - (x.length : Int) < 0
 ·exact ⟨-1, by simp [h], by omega, fun h => by omega⟩
 ·have hd : decide (l - (x.length : Int) < 0) = false := by simp [h]
  simp only [PS, hd]
  obtain ⟨r, e1, e2, e3⟩ := szL (p := x) (s := Qjo) (small := fun y => Xft y) (F := Qeh x) (by intros; rw [Qeh]) (by omega) (fun y hy l h0 h1 => Xnl y ((g.2 y hy).1) l h0 h1) (l := l - (x.length : Int)) (by omega) (by omega)
  exact ⟨r, e1, by omega, fun h => ⟨by omega, e3 h⟩⟩
def Xax (x : Qag) : Prop := Xbj x.Routines
theorem Xku (x : Qag) (g : Qoh x) (l : Int) (h0 : 0 ≤ l) (h1 : l ≤ 1048576) : ∃ r : Int, Qk7 x l = some r ∧ r ≤ l ∧ (0 ≤ r → Xax x) := by
 rw [Qk7]
 obtain ⟨r0, a0, b0, c0⟩ := Xj6 x.Routines (g.2.2.2) l (by omega) (by omega)
 simp only [PS, a0]
 by_cases d0 : r0 < 0
 ·exact ⟨-1, by simp [d0], by omega, fun h => by omega⟩
 have q0 : decide (r0 < 0) = false := by simp [d0]
 simp only [PS, q0]
 exact ⟨r0, rfl, by omega, fun h => c0 (by omega)⟩
def Qss (x : (List Qab)) : Prop := x.length ≤ 1048576
theorem Xf8 (x : (List Qab)) (g : x.length ≤ 9223372036854775807) (l : Int) (h0 : 0 ≤ l) (h1 : l ≤ 1048576) : ∃ r : Int, Qhg x l = some r ∧ r ≤ l ∧ (0 ≤ r → Qss x) := by
 rw [Qhg, Qgp (by omega)]
 by_cases h : l - (x.length : Int) < 0
 ·exact ⟨-1, by simp [h], by omega, fun h => by omega⟩
 ·exact ⟨l - (x.length : Int), by simp [h], by omega, fun _ => by show x.length ≤ 1048576; omega⟩
def Qzg (x : (List Int)) : Prop := x.length ≤ 1048576
theorem Xge (x : (List Int)) (g : x.length ≤ 9223372036854775807) (l : Int) (h0 : 0 ≤ l) (h1 : l ≤ 1048576) : ∃ r : Int, Qi8 x l = some r ∧ r ≤ l ∧ (0 ≤ r → Qzg x) := by
 rw [Qi8, Qgp (by omega)]
 by_cases h : l - (x.length : Int) < 0
 ·exact ⟨-1, by simp [h], by omega, fun h => by omega⟩
 ·exact ⟨l - (x.length : Int), by simp [h], by omega, fun _ => by show x.length ≤ 1048576; omega⟩
def Ql3 (x : (List Nat)) : Prop := x.length ≤ 1048576
theorem Qtu (x : (List Nat)) (g : x.length ≤ 9223372036854775807) (l : Int) (h0 : 0 ≤ l) (h1 : l ≤ 1048576) : ∃ r : Int, Qes x l = some r ∧ r ≤ l ∧ (0 ≤ r → Ql3 x) := by
 rw [Qes, Qgp (by omega)]
 by_cases h : l - (x.length : Int) < 0
 ·exact ⟨-1, by simp [h], by omega, fun h => by omega⟩
 ·exact ⟨l - (x.length : Int), by simp [h], by omega, fun _ => by show x.length ≤ 1048576; omega⟩
def Qpk (x : Qa0) : Prop := Ql3 x.Stack
theorem Xe0 (x : Qa0) (g : Qmo x) (l : Int) (h0 : 0 ≤ l) (h1 : l ≤ 1048576) : ∃ r : Int, Qgc x l = some r ∧ r ≤ l ∧ (0 ≤ r → Qpk x) := by
 rw [Qgc]
 obtain ⟨r0, a0, b0, c0⟩ := Qtu x.Stack ((g.2.2.2.2.2).1) l (by omega) (by omega)
 simp only [PS, a0]
 by_cases d0 : r0 < 0
 ·exact ⟨-1, by simp [d0], by omega, fun h => by omega⟩
 have q0 : decide (r0 < 0) = false := by simp [d0]
 simp only [PS, q0]
 exact ⟨r0, rfl, by omega, fun h => c0 (by omega)⟩
def Qqj (x : (List Qa0)) : Prop := x.length ≤ 1048576 ∧ ∀ y ∈ x, Qpk y
theorem Xcv (x : (List Qa0)) (g : x.length ≤ 9223372036854775807 ∧ ∀ y0 ∈ x, Qmo y0) (l : Int) (h0 : 0 ≤ l) (h1 : l ≤ 1048576) : ∃ r : Int, Qgy x l = some r ∧ r ≤ l ∧ (0 ≤ r → Qqj x) := by
 have g1 := g.1
 rw [Qgy, Qgp (by omega)]
 by_cases h : l - (x.length : Int) < 0
 ·exact ⟨-1, by simp [h], by omega, fun h => by omega⟩
 ·have hd : decide (l - (x.length : Int) < 0) = false := by simp [h]
  simp only [PS, hd]
  obtain ⟨r, e1, e2, e3⟩ := szL (p := x) (s := Qgc) (small := fun y => Qpk y) (F := Qcv x) (by intros; rw [Qcv]) (by omega) (fun y hy l h0 h1 => Xe0 y (g.2 y hy) l h0 h1) (l := l - (x.length : Int)) (by omega) (by omega)
  exact ⟨r, e1, by omega, fun h => ⟨by omega, e3 h⟩⟩
def Qu9 (x : Qa1) : Prop := Qqj x.Threads ∧ Ql3 x.Cells ∧ Qzg x.Owner
theorem Xi0 (x : Qa1) (g : Qsr x) (l : Int) (h0 : 0 ≤ l) (h1 : l ≤ 1048576) : ∃ r : Int, Qig x l = some r ∧ r ≤ l ∧ (0 ≤ r → Qu9 x) := by
 rw [Qig]
 obtain ⟨r0, a0, b0, c0⟩ := Xcv x.Threads (g.1) l (by omega) (by omega)
 simp only [PS, a0]
 by_cases d0 : r0 < 0
 ·exact ⟨-1, by simp [d0], by omega, fun h => by omega⟩
 have q0 : decide (r0 < 0) = false := by simp [d0]
 simp only [PS, q0]
 obtain ⟨r1, a1, b1, c1⟩ := Qtu x.Cells ((g.2.1).1) r0 (by omega) (by omega)
 simp only [PS, a1]
 by_cases d1 : r1 < 0
 ·exact ⟨-1, by simp [d1], by omega, fun h => by omega⟩
 have q1 : decide (r1 < 0) = false := by simp [d1]
 simp only [PS, q1]
 obtain ⟨r2, a2, b2, c2⟩ := Xge x.Owner ((g.2.2.1).1) r1 (by omega) (by omega)
 simp only [PS, a2]
 by_cases d2 : r2 < 0
 ·exact ⟨-1, by simp [d2], by omega, fun h => by omega⟩
 have q2 : decide (r2 < 0) = false := by simp [d2]
 simp only [PS, q2]
 exact ⟨r2, rfl, by omega, fun h => ⟨c0 (by omega), c1 (by omega), c2 (by omega)⟩⟩
def Xdq (x : Qby) : Prop := Qss x.Trace ∧ Qzg x.Picks ∧ Qu9 x.End
theorem Xo5 (x : Qby) (g : Qy6 x) (l : Int) (h0 : 0 ≤ l) (h1 : l ≤ 1048576) : ∃ r : Int, Qlg x l = some r ∧ r ≤ l ∧ (0 ≤ r → Xdq x) := by
 rw [Qlg]
 obtain ⟨r0, a0, b0, c0⟩ := Xf8 x.Trace ((g.2.1).1) l (by omega) (by omega)
 simp only [PS, a0]
 by_cases d0 : r0 < 0
 ·exact ⟨-1, by simp [d0], by omega, fun h => by omega⟩
 have q0 : decide (r0 < 0) = false := by simp [d0]
 simp only [PS, q0]
 obtain ⟨r1, a1, b1, c1⟩ := Xge x.Picks ((g.2.2.1).1) r0 (by omega) (by omega)
 simp only [PS, a1]
 by_cases d1 : r1 < 0
 ·exact ⟨-1, by simp [d1], by omega, fun h => by omega⟩
 have q1 : decide (r1 < 0) = false := by simp [d1]
 simp only [PS, q1]
 obtain ⟨r2, a2, b2, c2⟩ := Xi0 x.End (g.2.2.2) r1 (by omega) (by omega)
 simp only [PS, a2]
 by_cases d2 : r2 < 0
 ·exact ⟨-1, by simp [d2], by omega, fun h => by omega⟩
 have q2 : decide (r2 < 0) = false := by simp [d2]
 simp only [PS, q2]
 exact ⟨r2, rfl, by omega, fun h => ⟨c0 (by omega), c1 (by omega), c2 (by omega)⟩⟩
theorem QtoOp (x : GOp) : Qn0 x = some x := rfl
theorem Xmv (x : (List GOp)) (h : Xft x) : Qjq x = some x := by
 have hl : x.length < 1099511627776 := by have := (show x.length ≤ 1048576 from h); omega
 rw [Qjq]
 exact toL (t := Qn0) (by intros; rw [Qgg]) hl (fun y hy => QtoOp y) _
theorem Xj9 (x : (List (List GOp))) (h : Xbj x) : Qk4 x = some x := by
 have hl : x.length < 1099511627776 := by have := h.1; omega
 rw [Qk4]
 exact toL (t := Qjq) (by intros; rw [Qfs]) hl (fun y hy => Xmv y (h.2 y hy)) _
theorem Xkp (x : Qag) (h : Xax x) : Qh1 x = some x := by
 rw [Qh1]; simp only [PS, Xj9 _ (h)]
theorem Xgr (x : Qab) : Qj1 x = some x := rfl
theorem Xe4 (x : (List Qab)) (h : Qss x) : Qhh x = some x := by
 have hl : x.length < 1099511627776 := by have := (show x.length ≤ 1048576 from h); omega
 rw [Qhh]
 exact toL (t := Qj1) (by intros; rw [Qdw]) hl (fun y hy => Xgr y) _
theorem Xd9 (x : (List Int)) (h : Qzg x) : Qi4 x = some x := by
 have hl : x.length < 1099511627776 := by have := (show x.length ≤ 1048576 from h); omega
 rw [Qi4]
 exact toLs (by intros; rw [Qfq]) hl _
theorem Qtv (x : (List Nat)) (h : Ql3 x) : Qez x = some x := by
 have hl : x.length < 1099511627776 := by have := (show x.length ≤ 1048576 from h); omega
 rw [Qez]
 exact toLs (by intros; rw [Qd6]) hl _
theorem Xfh (x : Qa0) (h : Qpk x) : Qgf x = some x := by
 rw [Qgf]; simp only [PS, Qtv _ (h)]
theorem Xct (x : (List Qa0)) (h : Qqj x) : Qgr x = some x := by
 have hl : x.length < 1099511627776 := by have := h.1; omega
 rw [Qgr]
 exact toL (t := Qgf) (by intros; rw [Qdi]) hl (fun y hy => Xfh y (h.2 y hy)) _
theorem Xhk (x : Qa1) (h : Qu9 x) : Qip x = some x := by
 rw [Qip]; simp only [PS, Xct _ (h.1), Qtv _ (h.2.1), Xd9 _ (h.2.2)]
theorem Xns (x : Qby) (h : Xdq x) : Qi0 x = some x := by
 rw [Qi0]; simp only [PS, Xe4 _ (h.1), Xd9 _ (h.2.1), Xhk _ (h.2.2)]
theorem Xmh (x : Nat) : Qej x x = some true := by
 unfold Qej
 rcases Qou x with h | h
 ·simp [h]
 ·unfold Qgk
  by_cases h0 : Qc7 x 0 = some .eq
  ·simp [h, h0]
  ·simp [h, h0]
theorem QeqOp (x : GOp) : Qli x x = some true := by
 simp [Qli, Xmh]
theorem Xnf (x : (List GOp)) (h : Xft x) : Qjn x x = some true := by
 have hl : x.length < 1099511627776 := by have := (show x.length ≤ 1048576 from h); omega
 rw [Qjn]; simp only [PS, ]
 exact eqL (e := Qli) (by intros; rw [Qge]) hl (fun y hy => QeqOp y)
theorem Xk2 (x : (List (List GOp))) (h : Xbj x) : Qk2 x x = some true := by
 have hl : x.length < 1099511627776 := by have := h.1; omega
 rw [Qk2]; simp only [PS, ]
 exact eqL (e := Qjn) (by intros; rw [Qfn]) hl (fun y hy => Xnf y (h.2 y hy))
theorem Xkc (x : Qag) (h : Xax x) : Qjx x x = some true := by
 simp [Qjx, Xk2 _ (h)]
theorem Xi1 (x : Qab) : Qh4 x x = some true := by
 simp [Qh4]
theorem Xd8 (x : (List Qab)) (h : Qss x) : Qhk x x = some true := by
 have hl : x.length < 1099511627776 := by have := (show x.length ≤ 1048576 from h); omega
 rw [Qhk]; simp only [PS, ]
 exact eqL (e := Qh4) (by intros; rw [Qe2]) hl (fun y hy => Xi1 y)
theorem Xee (x : (List Int)) (h : Qzg x) : Qhv x x = some true := by
 have hl : x.length < 1099511627776 := by have := (show x.length ≤ 1048576 from h); omega
 rw [Qhv]; simp only [PS, ]
 exact eqLs (by intros; rw [Qfm]) hl
theorem Quc (x : (List Nat)) (h : Ql3 x) : Qet x x = some true := by
 have hl : x.length < 1099511627776 := by have := (show x.length ≤ 1048576 from h); omega
 rw [Qet]; simp only [PS, ]
 exact eqL (e := Qej) (by intros; rw [Qd3]) hl (fun y _ => Xmh y)
theorem Xgg (x : Qa0) (h : Qpk x) : Qg9 x x = some true := by
 simp [Qg9, Quc _ (h)]
theorem Xce (x : (List Qa0)) (h : Qqj x) : Qgu x x = some true := by
 have hl : x.length < 1099511627776 := by have := h.1; omega
 rw [Qgu]; simp only [PS, ]
 exact eqL (e := Qg9) (by intros; rw [Qdk]) hl (fun y hy => Xgg y (h.2 y hy))
theorem Xh0 (x : Qa1) (h : Qu9 x) : Qim x x = some true := by
 simp [Qim, Xce _ (h.1), Quc _ (h.2.1), Xee _ (h.2.2)]
theorem Xna (x : Qby) (h : Xdq x) : Qlh x x = some true := by
 simp [Qlh, Xd8 _ (h.1), Xee _ (h.2.1), Xh0 _ (h.2.2)]
theorem Qx6 (x0 : Qag) (x1 : Qby) (x2 : Int) (g0 : Qoh x0) (g1 : Qy6 x1) (g2 : (Lit.int .i64 x2).wf = true) (core : ∀ (sm0 : Xax x0), ∀ (sm1 : Xdq x1), ∃ r : Int × Bool, Qk6 x0 x1 x2 = some r ∧ Qk5 x0 x1 x2 = some r) : Qef x0 x1 x2 = some true := by
 rw [Qef]
 obtain ⟨s0, z0, za0, zb0⟩ := Xku x0 g0 1048576 (by omega) (by omega)
 simp only [PS, z0]
 by_cases hs0 : s0 < 0
 ·simp [hs0]
 have hd0 : decide (s0 < 0) = false := by simp [hs0]
 simp only [PS, hd0]
 have sm0 := zb0 (by omega)
 obtain ⟨s1, z1, za1, zb1⟩ := Xo5 x1 g1 s0 (by omega) (by omega)
 simp only [PS, z1]
 by_cases hs1 : s1 < 0
 ·simp [hs1]
 have hd1 : decide (s1 < 0) = false := by simp [hs1]
 simp only [PS, hd1]
 have sm1 := zb1 (by omega)
 obtain ⟨r, e1, e2⟩ := core sm0 sm1
 simp only [PS, e1, e2, Xkp x0 sm0, Xkc x0 sm0, Xns x1 sm1, Xna x1 sm1, Qe9]
end Go.Proofs.YtemmdkcpcjidmaaGreat
