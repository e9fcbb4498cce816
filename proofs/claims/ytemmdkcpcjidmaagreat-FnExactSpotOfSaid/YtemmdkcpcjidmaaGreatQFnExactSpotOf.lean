/- Plain facts for FnExactSpotOf; no condition. -/

import Derived.Test.YtemmdkcpcjidmaaGreatIS
set_option linter.unusedVariables false
set_option linter.unusedSimpArgs false
namespace Go.Proofs.YtemmdkcpcjidmaaGreat
open Go Go.T
def Xfs (x : (List GOp)) : Prop := x.length ≤ 1048576
theorem Xmd (x : (List GOp)) (g : x.length ≤ 9223372036854775807) (l : Int) (h0 : 0 ≤ l) (h1 : l ≤ 1048576) : ∃ r : Int, Qjo x l = some r ∧ r ≤ l ∧ (0 ≤ r → Xfs x) := by
 rw [Qjo, Qgv (by omega)]
 by_cases h : l - (x.length : Int) < 0
 ·exact ⟨-1, by simp [h], by omega, fun h => by omega⟩
 ·exact ⟨l - (x.length : Int), by simp [h], by omega, fun _ => by show x.length ≤ 1048576; omega⟩
def Xb1 (x : (List (List GOp))) : Prop := x.length ≤ 1048576 ∧ ∀ y ∈ x, Xfs y
theorem Xkh (x : (List (List GOp))) (g : x.length ≤ 9223372036854775807 ∧ ∀ y0 ∈ x, y0.length ≤ 9223372036854775807 ∧ ∀ y1 ∈ y0, Qy9 y1) (l : Int) (h0 : 0 ≤ l) (h1 : l ≤ 1048576) : ∃ r : Int, Qkb x l = some r ∧ r ≤ l ∧ (0 ≤ r → Xb1 x) := by
 have g1 := g.1
 rw [Qkb, Qgv (by omega)]
 by_cases h : l - (x.length : Int) < 0
 ·exact ⟨-1, by simp [h], by omega, fun h => by omega⟩
 ·have hd : decide (l - (x.length : Int) < 0) = false := by simp [h]
  simp only [PS, hd]
  obtain ⟨r, e1, e2, e3⟩ := szL (p := x) (s := Qjo) (small := fun y => Xfs y) (F := Qek x) (by intros; rw [Qek]) (by omega) (fun y hy l h0 h1 => Xmd y ((g.2 y hy).1) l h0 h1) (l := l - (x.length : Int)) (by omega) (by omega)
  exact ⟨r, e1, by omega, fun h => ⟨by omega, e3 h⟩⟩
def Xbs (x : Qag) : Prop := Xb1 x.Routines
theorem Xkc (x : Qag) (g : Qom x) (l : Int) (h0 : 0 ≤ l) (h1 : l ≤ 1048576) : ∃ r : Int, Qjv x l = some r ∧ r ≤ l ∧ (0 ≤ r → Xbs x) := by
 rw [Qjv]
 obtain ⟨r0, a0, b0, c0⟩ := Xkh x.Routines (g.2.2.2) l (by omega) (by omega)
 simp only [PS, a0]
 by_cases d0 : r0 < 0
 ·exact ⟨-1, by simp [d0], by omega, fun h => by omega⟩
 have q0 : decide (r0 < 0) = false := by simp [d0]
 simp only [PS, q0]
 exact ⟨r0, rfl, by omega, fun h => c0 (by omega)⟩
def Qst (x : (List Qab)) : Prop := x.length ≤ 1048576
theorem Xg6 (x : (List Qab)) (g : x.length ≤ 9223372036854775807) (l : Int) (h0 : 0 ≤ l) (h1 : l ≤ 1048576) : ∃ r : Int, Qhn x l = some r ∧ r ≤ l ∧ (0 ≤ r → Qst x) := by
 rw [Qhn, Qgv (by omega)]
 by_cases h : l - (x.length : Int) < 0
 ·exact ⟨-1, by simp [h], by omega, fun h => by omega⟩
 ·exact ⟨l - (x.length : Int), by simp [h], by omega, fun _ => by show x.length ≤ 1048576; omega⟩
def Qyx (x : (List Int)) : Prop := x.length ≤ 1048576
theorem Xdr (x : (List Int)) (g : x.length ≤ 9223372036854775807) (l : Int) (h0 : 0 ≤ l) (h1 : l ≤ 1048576) : ∃ r : Int, Qi3 x l = some r ∧ r ≤ l ∧ (0 ≤ r → Qyx x) := by
 rw [Qi3, Qgv (by omega)]
 by_cases h : l - (x.length : Int) < 0
 ·exact ⟨-1, by simp [h], by omega, fun h => by omega⟩
 ·exact ⟨l - (x.length : Int), by simp [h], by omega, fun _ => by show x.length ≤ 1048576; omega⟩
def Qlk (x : (List Nat)) : Prop := x.length ≤ 1048576
theorem Qsz (x : (List Nat)) (g : x.length ≤ 9223372036854775807) (l : Int) (h0 : 0 ≤ l) (h1 : l ≤ 1048576) : ∃ r : Int, Qf1 x l = some r ∧ r ≤ l ∧ (0 ≤ r → Qlk x) := by
 rw [Qf1, Qgv (by omega)]
 by_cases h : l - (x.length : Int) < 0
 ·exact ⟨-1, by simp [h], by omega, fun h => by omega⟩
 ·exact ⟨l - (x.length : Int), by simp [h], by omega, fun _ => by show x.length ≤ 1048576; omega⟩
def Qp7 (x : Qa0) : Prop := Qlk x.Stack
theorem Xeq (x : Qa0) (g : Qmv x) (l : Int) (h0 : 0 ≤ l) (h1 : l ≤ 1048576) : ∃ r : Int, Qg9 x l = some r ∧ r ≤ l ∧ (0 ≤ r → Qp7 x) := by
 rw [Qg9]
 obtain ⟨r0, a0, b0, c0⟩ := Qsz x.Stack ((g.2.2.2.2.2).1) l (by omega) (by omega)
 simp only [PS, a0]
 by_cases d0 : r0 < 0
 ·exact ⟨-1, by simp [d0], by omega, fun h => by omega⟩
 have q0 : decide (r0 < 0) = false := by simp [d0]
 simp only [PS, q0]
 exact ⟨r0, rfl, by omega, fun h => c0 (by omega)⟩
def Qp6 (x : (List Qa0)) : Prop := x.length ≤ 1048576 ∧ ∀ y ∈ x, Qp7 y
theorem Xcp (x : (List Qa0)) (g : x.length ≤ 9223372036854775807 ∧ ∀ y0 ∈ x, Qmv y0) (l : Int) (h0 : 0 ≤ l) (h1 : l ≤ 1048576) : ∃ r : Int, Qgu x l = some r ∧ r ≤ l ∧ (0 ≤ r → Qp6 x) := by
 have g1 := g.1
 rw [Qgu, Qgv (by omega)]
 by_cases h : l - (x.length : Int) < 0
 ·exact ⟨-1, by simp [h], by omega, fun h => by omega⟩
 ·have hd : decide (l - (x.length : Int) < 0) = false := by simp [h]
  simp only [PS, hd]
  obtain ⟨r, e1, e2, e3⟩ := szL (p := x) (s := Qg9) (small := fun y => Qp7 y) (F := Qcu x) (by intros; rw [Qcu]) (by omega) (fun y hy l h0 h1 => Xeq y (g.2 y hy) l h0 h1) (l := l - (x.length : Int)) (by omega) (by omega)
  exact ⟨r, e1, by omega, fun h => ⟨by omega, e3 h⟩⟩
def Quv (x : Qa1) : Prop := Qp6 x.Threads ∧ Qlk x.Cells ∧ Qyx x.Owner
theorem Xi9 (x : Qa1) (g : Qss x) (l : Int) (h0 : 0 ≤ l) (h1 : l ≤ 1048576) : ∃ r : Int, Qiy x l = some r ∧ r ≤ l ∧ (0 ≤ r → Quv x) := by
 rw [Qiy]
 obtain ⟨r0, a0, b0, c0⟩ := Xcp x.Threads (g.1) l (by omega) (by omega)
 simp only [PS, a0]
 by_cases d0 : r0 < 0
 ·exact ⟨-1, by simp [d0], by omega, fun h => by omega⟩
 have q0 : decide (r0 < 0) = false := by simp [d0]
 simp only [PS, q0]
 obtain ⟨r1, a1, b1, c1⟩ := Qsz x.Cells ((g.2.1).1) r0 (by omega) (by omega)
 simp only [PS, a1]
 by_cases d1 : r1 < 0
 ·exact ⟨-1, by simp [d1], by omega, fun h => by omega⟩
 have q1 : decide (r1 < 0) = false := by simp [d1]
 simp only [PS, q1]
 obtain ⟨r2, a2, b2, c2⟩ := Xdr x.Owner ((g.2.2.1).1) r1 (by omega) (by omega)
 simp only [PS, a2]
 by_cases d2 : r2 < 0
 ·exact ⟨-1, by simp [d2], by omega, fun h => by omega⟩
 have q2 : decide (r2 < 0) = false := by simp [d2]
 simp only [PS, q2]
 exact ⟨r2, rfl, by omega, fun h => ⟨c0 (by omega), c1 (by omega), c2 (by omega)⟩⟩
def Xg5 (x : Qbx) : Prop := Qst x.Trace ∧ Qyx x.Picks ∧ Quv x.End
theorem Xmv (x : Qbx) (g : Qyy x) (l : Int) (h0 : 0 ≤ l) (h1 : l ≤ 1048576) : ∃ r : Int, Ql3 x l = some r ∧ r ≤ l ∧ (0 ≤ r → Xg5 x) := by
 rw [Ql3]
 obtain ⟨r0, a0, b0, c0⟩ := Xg6 x.Trace ((g.2.1).1) l (by omega) (by omega)
 simp only [PS, a0]
 by_cases d0 : r0 < 0
 ·exact ⟨-1, by simp [d0], by omega, fun h => by omega⟩
 have q0 : decide (r0 < 0) = false := by simp [d0]
 simp only [PS, q0]
 obtain ⟨r1, a1, b1, c1⟩ := Xdr x.Picks ((g.2.2.1).1) r0 (by omega) (by omega)
 simp only [PS, a1]
 by_cases d1 : r1 < 0
 ·exact ⟨-1, by simp [d1], by omega, fun h => by omega⟩
 have q1 : decide (r1 < 0) = false := by simp [d1]
 simp only [PS, q1]
 obtain ⟨r2, a2, b2, c2⟩ := Xi9 x.End (g.2.2.2) r1 (by omega) (by omega)
 simp only [PS, a2]
 by_cases d2 : r2 < 0
 ·exact ⟨-1, by simp [d2], by omega, fun h => by omega⟩
 have q2 : decide (r2 < 0) = false := by simp [d2]
 simp only [PS, q2]
 exact ⟨r2, rfl, by omega, fun h => ⟨c0 (by omega), c1 (by omega), c2 (by omega)⟩⟩
theorem QtoOp (x : GOp) : Qnb x = some x := rfl
theorem Xod (x : (List GOp)) (h : Xfs x) : Qjk x = some x := by
 have hl : x.length < 1099511627776 := by have := (show x.length ≤ 1048576 from h); omega
 rw [Qjk]
 exact toL (t := Qnb) (by intros; rw [Qgc]) hl (fun y hy => QtoOp y) _
theorem Xkw (x : (List (List GOp))) (h : Xb1 x) : Qkc x = some x := by
 have hl : x.length < 1099511627776 := by have := h.1; omega
 rw [Qkc]
 exact toL (t := Qjk) (by intros; rw [Qfq]) hl (fun y hy => Xod y (h.2 y hy)) _
theorem Xl2 (x : Qag) (h : Xbs x) : Qgz x = some x := by
 rw [Qgz]; simp only [PS, Xkw _ (h)]
theorem Xhc (x : Qab) : Qix x = some x := rfl
theorem Xel (x : (List Qab)) (h : Qst x) : Qhe x = some x := by
 have hl : x.length < 1099511627776 := by have := (show x.length ≤ 1048576 from h); omega
 rw [Qhe]
 exact toL (t := Qix) (by intros; rw [Qdx]) hl (fun y hy => Xhc y) _
theorem Xes (x : (List Int)) (h : Qyx x) : Qhy x = some x := by
 have hl : x.length < 1099511627776 := by have := (show x.length ≤ 1048576 from h); omega
 rw [Qhy]
 exact toLs (by intros; rw [Qfp]) hl _
theorem Qt9 (x : (List Nat)) (h : Qlk x) : Qev x = some x := by
 have hl : x.length < 1099511627776 := by have := (show x.length ≤ 1048576 from h); omega
 rw [Qev]
 exact toLs (by intros; rw [Qd4]) hl _
theorem Xet (x : Qa0) (h : Qp7 x) : Qge x = some x := by
 rw [Qge]; simp only [PS, Qt9 _ (h)]
theorem Xcz (x : (List Qa0)) (h : Qp6 x) : Qgw x = some x := by
 have hl : x.length < 1099511627776 := by have := h.1; omega
 rw [Qgw]
 exact toL (t := Qge) (by intros; rw [Qdj]) hl (fun y hy => Xet y (h.2 y hy)) _
theorem Xic (x : Qa1) (h : Quv x) : Qil x = some x := by
 rw [Qil]; simp only [PS, Xcz _ (h.1), Qt9 _ (h.2.1), Xes _ (h.2.2)]
theorem Xmw (x : Qbx) (h : Xg5 x) : Qi6 x = some x := by
 rw [Qi6]; simp only [PS, Xel _ (h.1), Xes _ (h.2.1), Xic _ (h.2.2)]
theorem Xmr (x : Nat) : Qem x x = some true := by
 unfold Qem
 rcases Qq8 x with h | h
 ·simp [h]
 ·unfold Qgi
  by_cases h0 : Qc7 x 0 = some .eq
  ·simp [h, h0]
  ·simp [h, h0]
theorem QeqOp (x : GOp) : Qlc x x = some true := by
 simp [Qlc, Xmr]
theorem Xm9 (x : (List GOp)) (h : Xfs x) : Qjp x x = some true := by
 have hl : x.length < 1099511627776 := by have := (show x.length ≤ 1048576 from h); omega
 rw [Qjp]; simp only [PS, ]
 exact eqL (e := Qlc) (by intros; rw [Qgj]) hl (fun y hy => QeqOp y)
theorem Xjj (x : (List (List GOp))) (h : Xb1 x) : Qk0 x x = some true := by
 have hl : x.length < 1099511627776 := by have := h.1; omega
 rw [Qk0]; simp only [PS, ]
 exact eqL (e := Qjp) (by intros; rw [Qfm]) hl (fun y hy => Xm9 y (h.2 y hy))
theorem Xk5 (x : Qag) (h : Xbs x) : Qka x x = some true := by
 simp [Qka, Xjj _ (h)]
theorem Xh3 (x : Qab) : Qh3 x x = some true := by
 simp [Qh3]
theorem Xfx (x : (List Qab)) (h : Qst x) : Qho x x = some true := by
 have hl : x.length < 1099511627776 := by have := (show x.length ≤ 1048576 from h); omega
 rw [Qho]; simp only [PS, ]
 exact eqL (e := Qh3) (by intros; rw [Qdz]) hl (fun y hy => Xh3 y)
theorem Xfy (x : (List Int)) (h : Qyx x) : Qi4 x x = some true := by
 have hl : x.length < 1099511627776 := by have := (show x.length ≤ 1048576 from h); omega
 rw [Qi4]; simp only [PS, ]
 exact eqLs (by intros; rw [Qfl]) hl
theorem Qta (x : (List Nat)) (h : Qlk x) : Qex x x = some true := by
 have hl : x.length < 1099511627776 := by have := (show x.length ≤ 1048576 from h); omega
 rw [Qex]; simp only [PS, ]
 exact eqL (e := Qem) (by intros; rw [Qd6]) hl (fun y _ => Xmr y)
theorem Xd4 (x : Qa0) (h : Qp7 x) : Qgg x x = some true := by
 simp [Qgg, Qta _ (h)]
theorem Xcx (x : (List Qa0)) (h : Qp6 x) : Qgr x x = some true := by
 have hl : x.length < 1099511627776 := by have := h.1; omega
 rw [Qgr]; simp only [PS, ]
 exact eqL (e := Qgg) (by intros; rw [Qdi]) hl (fun y hy => Xd4 y (h.2 y hy))
theorem Xhe (x : Qa1) (h : Quv x) : Qio x x = some true := by
 simp [Qio, Xcx _ (h.1), Qta _ (h.2.1), Xfy _ (h.2.2)]
theorem Xmi (x : Qbx) (h : Xg5 x) : Ql6 x x = some true := by
 simp [Ql6, Xfx _ (h.1), Xfy _ (h.2.1), Xhe _ (h.2.2)]
theorem Qwc (x0 : Qag) (x1 : Qbx) (x2 : Int) (g0 : Qom x0) (g1 : Qyy x1) (g2 : (Lit.int .i64 x2).wf = true) (core : ∀ (sm0 : Xbs x0), ∀ (sm1 : Xg5 x1), ∃ r : Int × Bool, Qk5 x0 x1 x2 = some r ∧ Qjr x0 x1 x2 = some r) : Qee x0 x1 x2 = some true := by
 rw [Qee]
 obtain ⟨s0, z0, za0, zb0⟩ := Xkc x0 g0 1048576 (by omega) (by omega)
 simp only [PS, z0]
 by_cases hs0 : s0 < 0
 ·simp [hs0]
 have hd0 : decide (s0 < 0) = false := by simp [hs0]
 simp only [PS, hd0]
 have sm0 := zb0 (by omega)
 obtain ⟨s1, z1, za1, zb1⟩ := Xmv x1 g1 s0 (by omega) (by omega)
 simp only [PS, z1]
 by_cases hs1 : s1 < 0
 ·simp [hs1]
 have hd1 : decide (s1 < 0) = false := by simp [hs1]
 simp only [PS, hd1]
 have sm1 := zb1 (by omega)
 obtain ⟨r, e1, e2⟩ := core sm0 sm1
 simp only [PS, e1, e2, Xl2 x0 sm0, Xk5 x0 sm0, Xmw x1 sm1, Xmi x1 sm1, Qed]
end Go.Proofs.YtemmdkcpcjidmaaGreat
