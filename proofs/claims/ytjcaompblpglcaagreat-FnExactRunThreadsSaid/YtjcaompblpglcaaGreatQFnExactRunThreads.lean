/- Plain facts for FnExactRunThreads; no condition. -/

import Derived.Test.YtjcaompblpglcaaGreatST5
set_option linter.unusedVariables false
set_option linter.unusedSimpArgs false
namespace Go.Proofs.YtjcaompblpglcaaGreat
open Go Go.T
def smOpS (x : (List GOp)) : Prop := x.length ≤ 1048576
theorem QszOpS (x : (List GOp)) (g : x.length ≤ 9223372036854775807) (l : Int) (h0 : 0 ≤ l) (h1 : l ≤ 1048576) : ∃ r : Int, laws_szOpS x l = some r ∧ r ≤ l ∧ (0 ≤ r → smOpS x) := by
 rw [laws_szOpS, w64_id (by omega)]
 by_cases h : l - (x.length : Int) < 0
 ·exact ⟨-1, by simp [h], by omega, fun h => by omega⟩
 ·exact ⟨l - (x.length : Int), by simp [h], by omega, fun _ => by show x.length ≤ 1048576; omega⟩
def smOpSS (x : (List (List GOp))) : Prop := x.length ≤ 1048576 ∧ ∀ y ∈ x, smOpS y
theorem QszOpSS (x : (List (List GOp))) (g : x.length ≤ 9223372036854775807 ∧ ∀ y0 ∈ x, y0.length ≤ 9223372036854775807 ∧ ∀ y1 ∈ y0, wfGOp y1) (l : Int) (h0 : 0 ≤ l) (h1 : l ≤ 1048576) : ∃ r : Int, laws_szOpSS x l = some r ∧ r ≤ l ∧ (0 ≤ r → smOpSS x) := by
 have g1 := g.1
 rw [laws_szOpSS, w64_id (by omega)]
 by_cases h : l - (x.length : Int) < 0
 ·exact ⟨-1, by simp [h], by omega, fun h => by omega⟩
 ·have hd : decide (l - (x.length : Int) < 0) = false := by simp [h]
  simp only [PS, hd]
  obtain ⟨r, e1, e2, e3⟩ := szL (p := x) (s := laws_szOpS) (small := fun y => smOpS y) (F := laws_szOpSS_l0 x) (by intros; rw [laws_szOpSS_l0]) (by omega) (fun y hy l h0 h1 => QszOpS y ((g.2 y hy).1) l h0 h1) (l := l - (x.length : Int)) (by omega) (by omega)
  exact ⟨r, e1, by omega, fun h => ⟨by omega, e3 h⟩⟩
def smProg (x : GProg) : Prop := smOpSS x.Routines
theorem QszProg (x : GProg) (g : wfGProg x) (l : Int) (h0 : 0 ≤ l) (h1 : l ≤ 1048576) : ∃ r : Int, laws_szProg x l = some r ∧ r ≤ l ∧ (0 ≤ r → smProg x) := by
 rw [laws_szProg]
 obtain ⟨r0, a0, b0, c0⟩ := QszOpSS x.Routines (g.2.2.2) l (by omega) (by omega)
 simp only [PS, a0]
 by_cases d0 : r0 < 0
 ·exact ⟨-1, by simp [d0], by omega, fun h => by omega⟩
 have q0 : decide (r0 < 0) = false := by simp [d0]
 simp only [PS, q0]
 exact ⟨r0, rfl, by omega, fun h => c0 (by omega)⟩
theorem QtoOp (x : GOp) : laws_toOp x = some x := rfl
theorem QtoOpS (x : (List GOp)) (h : smOpS x) : laws_toOpS x = some x := by
 have hl : x.length < 1099511627776 := by have := (show x.length ≤ 1048576 from h); omega
 rw [laws_toOpS]
 exact toL (t := laws_toOp) (by intros; rw [laws_toOpS_l0]) hl (fun y hy => QtoOp y) _
theorem QtoOpSS (x : (List (List GOp))) (h : smOpSS x) : laws_toOpSS x = some x := by
 have hl : x.length < 1099511627776 := by have := h.1; omega
 rw [laws_toOpSS]
 exact toL (t := laws_toOpS) (by intros; rw [laws_toOpSS_l0]) hl (fun y hy => QtoOpS y (h.2 y hy)) _
theorem QtoProg (x : GProg) (h : smProg x) : laws_toProg x = some x := by
 rw [laws_toProg]; simp only [PS, QtoOpSS _ (h)]
theorem Qsame (x : Nat) : laws_sameFloat x x = some true := by
 unfold laws_sameFloat
 rcases fcmp_self x with h | h
 ·simp [h]
 ·unfold laws_sameFloat_j0
  by_cases h0 : fcmp x 0 = some .eq
  ·simp [h, h0]
  ·simp [h, h0]
theorem QeqOp (x : GOp) : laws_eqOp x x = some true := by
 simp [laws_eqOp, Qsame]
theorem QeqOpS (x : (List GOp)) (h : smOpS x) : laws_eqOpS x x = some true := by
 have hl : x.length < 1099511627776 := by have := (show x.length ≤ 1048576 from h); omega
 rw [laws_eqOpS]; simp only [PS, ]
 exact eqL (e := laws_eqOp) (by intros; rw [laws_eqOpS_l0]) hl (fun y hy => QeqOp y)
theorem QeqOpSS (x : (List (List GOp))) (h : smOpSS x) : laws_eqOpSS x x = some true := by
 have hl : x.length < 1099511627776 := by have := h.1; omega
 rw [laws_eqOpSS]; simp only [PS, ]
 exact eqL (e := laws_eqOpS) (by intros; rw [laws_eqOpSS_l0]) hl (fun y hy => QeqOpS y (h.2 y hy))
theorem QeqProg (x : GProg) (h : smProg x) : laws_eqProg x x = some true := by
 simp [laws_eqProg, QeqOpSS _ (h)]
theorem QmkOpS (x : (List GOp)) (v : Int) (h : smOpS x) (h0 : 0 ≤ v) (h1 : v + 4194304 < 4611686018427387904) : ∃ v' y, laws_markOpS x v = some (v', y) ∧ y.length = x.length ∧ True ∧ v ≤ v' ∧ v' ≤ v + 4194304 := by
  have hl : x.length ≤ 1048576 := h
  obtain ⟨v', y, e1, e2, e3, e4, e5⟩ := markL (F := laws_markOpS_l0) (H := Num (fun v => (GOp.mk v (v + 1) (v + 1 + 1) (fOf (v + 1 + 1 + 1)))) (fun v => v + 1 + 1 + 1 + 1)) (ok := fun _ => True) (b := 4) (B := 1048576) (by omega) (fun n a v k hk => by rw [laws_markOpS_l0, hk]; simp)
    (fun n a v k hk _ h0 h1 => by
      have w1 : w64 (v + 1) = v + 1 := w64_id (by omega)
      have w2 : w64 (v + 1 + 1) = v + 1 + 1 := w64_id (by omega)
      have w3 : w64 (v + 1 + 1 + 1) = v + 1 + 1 + 1 := w64_id (by omega)
      have w4 : w64 (v + 1 + 1 + 1 + 1) = v + 1 + 1 + 1 + 1 := w64_id (by omega)
      refine ⟨v + 1 + 1 + 1 + 1, (GOp.mk v (v + 1) (v + 1 + 1) (fOf (v + 1 + 1 + 1))), ?_, ⟨rfl, h0, rfl, by omega⟩, by omega, by omega⟩
      rw [laws_markOpS_l0]
      simp only [PS, hk, rd_at hk, w1, w2, w3, w4]) (by omega) x v hl (fun _ _ => trivial) h0 (by omega)
  refine ⟨v', y, by rw [laws_markOpS]; simp only [PS, e1], e2, ?_, e4, by omega⟩
  trivial
theorem QmkOpSS (x : (List (List GOp))) (v : Int) (h : smOpSS x) (h0 : 0 ≤ v) (h1 : v + 4398046511104 < 4611686018427387904) : ∃ v' y, laws_markOpSS x v = some (v', y) ∧ y.length = x.length ∧ True ∧ v ≤ v' ∧ v' ≤ v + 4398046511104 := by
 have hl : x.length ≤ 1048576 := h.1
 have st := markLL (F := laws_markOpSS_l0) (M := laws_markOpS) (H := fun y v v' => True) (ok := fun y => smOpS y) (b := 4194304) (by intros; rw [laws_markOpSS_l0]) (fun y v hy h0 h1 => QmkOpS y v hy h0 h1)
 obtain ⟨v', y, e1, e2, e3, e4, e5⟩ := markL (B := 1048576) (by omega) st.1 st.2 (by omega) x v hl h.2 h0 (by omega)
 refine ⟨v', y, by rw [laws_markOpSS]; simp only [PS, e1], e2, ?_, e4, by omega⟩
 trivial
theorem QmkProg (x : GProg) (v : Int) (h : smProg x) (h0 : 0 ≤ v) (h1 : v + 4398046511104 < 4611686018427387904) : ∃ v' y0, laws_markProg x.Cells x.Locks x.Conds x.Routines v = some (v', y0) ∧ y0.length = x.Routines.length ∧ v ≤ v' ∧ v' ≤ v + 4398046511104 := by
 obtain ⟨v0, y0, a0, b0, c0, d0, e0⟩ := QmkOpSS x.Routines v (h) (by omega) (by omega)
 refine ⟨v0, y0, ?_, b0, by omega, by omega⟩
 ·rw [laws_markProg]; simp only [PS, a0, sameLen_ok b0]
def smIntS (x : (List Int)) : Prop := x.length ≤ 1048576
theorem QtoIntS (x : (List Int)) (h : smIntS x) : laws_toIntS x = some x := by
 have hl : x.length < 1099511627776 := by have := (show x.length ≤ 1048576 from h); omega
 rw [laws_toIntS]
 exact toLs (by intros; rw [laws_toIntS_l0]) hl _
theorem QeqIntS (x : (List Int)) (h : smIntS x) : laws_eqIntS x x = some true := by
 have hl : x.length < 1099511627776 := by have := (show x.length ≤ 1048576 from h); omega
 rw [laws_eqIntS]; simp only [PS, ]
 exact eqLs (by intros; rw [laws_eqIntS_l0]) hl
def smFloat64S (x : (List Nat)) : Prop := x.length ≤ 1048576
theorem QeqFloat64S (x : (List Nat)) (h : smFloat64S x) : laws_eqFloat64S x x = some true := by
 have hl : x.length < 1099511627776 := by have := (show x.length ≤ 1048576 from h); omega
 rw [laws_eqFloat64S]; simp only [PS, ]
 exact eqL (e := laws_sameFloat) (by intros; rw [laws_eqFloat64S_l0]) hl (fun y _ => Qsame y)
def smThread (x : GThread) : Prop := smFloat64S x.Stack
theorem QeqThread (x : GThread) (h : smThread x) : laws_eqThread x x = some true := by
 simp [laws_eqThread, QeqFloat64S _ (h)]
def smThreadS (x : (List GThread)) : Prop := x.length ≤ 1048576 ∧ ∀ y ∈ x, smThread y
theorem QeqThreadS (x : (List GThread)) (h : smThreadS x) : laws_eqThreadS x x = some true := by
 have hl : x.length < 1099511627776 := by have := h.1; omega
 rw [laws_eqThreadS]; simp only [PS, ]
 exact eqL (e := laws_eqThread) (by intros; rw [laws_eqThreadS_l0]) hl (fun y hy => QeqThread y (h.2 y hy))
def smState (x : GState) : Prop := smThreadS x.Threads ∧ smFloat64S x.Cells ∧ smIntS x.Owner
theorem QeqState (x : GState) (h : smState x) : laws_eqState x x = some true := by
 simp [laws_eqState, QeqThreadS _ (h.1), QeqFloat64S _ (h.2.1), QeqIntS _ (h.2.2)]
theorem QeqEvent (x : GEvent) : laws_eqEvent x x = some true := by
 simp [laws_eqEvent]
def smEventS (x : (List GEvent)) : Prop := x.length ≤ 1048576
theorem QeqEventS (x : (List GEvent)) (h : smEventS x) : laws_eqEventS x x = some true := by
 have hl : x.length < 1099511627776 := by have := (show x.length ≤ 1048576 from h); omega
 rw [laws_eqEventS]; simp only [PS, ]
 exact eqL (e := laws_eqEvent) (by intros; rw [laws_eqEventS_l0]) hl (fun y hy => QeqEvent y)
def smRun (x : GRun) : Prop := smEventS x.Trace ∧ smIntS x.Picks ∧ smState x.End
theorem QeqRun (x : GRun) (h : smRun x) : laws_eqRun x x = some true := by
 simp [laws_eqRun, QeqEventS _ (h.1), QeqIntS _ (h.2.1), QeqState _ (h.2.2)]
theorem QmkIntS (x : (List Int)) (v : Int) (h : smIntS x) (h0 : 0 ≤ v) (h1 : v + 1048576 < 4611686018427387904) : ∃ v' y, laws_markIntS x v = some (v', y) ∧ y.length = x.length ∧ laws_heldIntS y v = some v' ∧ v ≤ v' ∧ v' ≤ v + 1048576 := by
  have hl : x.length ≤ 1048576 := h
  obtain ⟨v', y, e1, e2, e3, e4, e5⟩ := markL (F := laws_markIntS_l0) (H := Num (fun v => v) (fun v => v + 1)) (ok := fun _ => True) (b := 1) (B := 1048576) (by omega) (fun n a v k hk => by rw [laws_markIntS_l0, hk]; simp)
    (fun n a v k hk _ h0 h1 => by
      have w1 : w64 (v + 1) = v + 1 := w64_id (by omega)
      refine ⟨v + 1, v, ?_, ⟨rfl, h0, rfl, by omega⟩, by omega, by omega⟩
      rw [laws_markIntS_l0]
      simp only [PS, hk, rd_at hk, w1]) (by omega) x v hl (fun _ _ => trivial) h0 (by omega)
  refine ⟨v', y, by rw [laws_markIntS]; simp only [PS, e1], e2, ?_, e4, by omega⟩
  rw [laws_heldIntS]
  exact heldL (fun n v k hk => by rw [laws_heldIntS_l0, hk]; simp) (fun n v v' k hk hh h2 => by
    obtain ⟨f1, f2, f3, f4⟩ := hh
    simp only at f1 f3
    subst f3
    have w1 : w64 (v + 1) = v + 1 := w64_id (by omega)
    rw [laws_heldIntS_l0]
    simp only [PS, hk, rd_at hk, f1, w1]) (by omega) e3
theorem QmkFloat64S (x : (List Nat)) (v : Int) (h : smFloat64S x) (h0 : 0 ≤ v) (h1 : v + 1048576 < 4611686018427387904) : ∃ v' y, laws_markFloat64S x v = some (v', y) ∧ y.length = x.length ∧ laws_heldFloat64S y v = some v' ∧ v ≤ v' ∧ v' ≤ v + 1048576 := by
  have hl : x.length ≤ 1048576 := h
  obtain ⟨v', y, e1, e2, e3, e4, e5⟩ := markL (F := laws_markFloat64S_l0) (H := Num (fun v => (fOf (v))) (fun v => v + 1)) (ok := fun _ => True) (b := 1) (B := 1048576) (by omega) (fun n a v k hk => by rw [laws_markFloat64S_l0, hk]; simp)
    (fun n a v k hk _ h0 h1 => by
      have w1 : w64 (v + 1) = v + 1 := w64_id (by omega)
      refine ⟨v + 1, (fOf (v)), ?_, ⟨rfl, h0, rfl, by omega⟩, by omega, by omega⟩
      rw [laws_markFloat64S_l0]
      simp only [PS, hk, rd_at hk, w1]) (by omega) x v hl (fun _ _ => trivial) h0 (by omega)
  refine ⟨v', y, by rw [laws_markFloat64S]; simp only [PS, e1], e2, ?_, e4, by omega⟩
  rw [laws_heldFloat64S]
  exact heldL (fun n v k hk => by rw [laws_heldFloat64S_l0, hk]; simp) (fun n v v' k hk hh h2 => by
    obtain ⟨f1, f2, f3, f4⟩ := hh
    simp only at f1 f3
    subst f3
    have w1 : w64 (v + 1) = v + 1 := w64_id (by omega)
    rw [laws_heldFloat64S_l0]
    simp only [PS, hk, rd_at hk, f1, w1, fcmp_fOf]) (by omega) e3
theorem QmkThreadS (x : (List GThread)) (v : Int) (h : smThreadS x) (h0 : 0 ≤ v) (h1 : v + 1099516870656 < 4611686018427387904) : ∃ v' y, laws_markThreadS x v = some (v', y) ∧ y.length = x.length ∧ laws_heldThreadS y v = some v' ∧ v ≤ v' ∧ v' ≤ v + 1099516870656 := by
  have hl : x.length ≤ 1048576 := h.1
  obtain ⟨v', y, e1, e2, e3, e4, e5⟩ := markL (F := laws_markThreadS_l0) (H := fun y v v' => y.Routine = v ∧ y.Pc = v + 1 ∧ y.State = v + 2 ∧ y.Cond = v + 3 ∧ y.Lock = v + 4 ∧ laws_heldFloat64S y.Stack (v + 5) = some v' ∧ 0 ≤ v ∧ v' < 4611686018427387904 ∧ 0 ≤ v' ∧ v + 5 < 4611686018427387904) (ok := fun y => smThread y) (b := 1048581) (B := 1048576) (by omega) (fun n a v k hk => by rw [laws_markThreadS_l0, hk]; simp)
    (fun n a v k hk hx h0 h1 => by
      obtain ⟨v2, y, a1, a2, a3, a4, a5⟩ := QmkFloat64S a[k].Stack (v + 5) hx (by omega) (by omega)
      have w1 : w64 (v + 1) = v + 1 := w64_id (by omega)
      have w2 : w64 (v + 2) = v + 2 := w64_id (by omega)
      have w3 : w64 (v + 3) = v + 3 := w64_id (by omega)
      have w4 : w64 (v + 4) = v + 4 := w64_id (by omega)
      have w5 : w64 (v + 5) = v + 5 := w64_id (by omega)
      have u2 : w64 (v + 1 + 1) = v + 2 := by rw [show v + 1 + 1 = v + 2 by omega]; exact w2
      have u3 : w64 (v + 2 + 1) = v + 3 := by rw [show v + 2 + 1 = v + 3 by omega]; exact w3
      have u4 : w64 (v + 3 + 1) = v + 4 := by rw [show v + 3 + 1 = v + 4 by omega]; exact w4
      have u5 : w64 (v + 4 + 1) = v + 5 := by rw [show v + 4 + 1 = v + 5 by omega]; exact w5
      refine ⟨v2, GThread.mk (v) (v + 1) (v + 2) (v + 3) (v + 4) y, ?_, ⟨rfl, rfl, rfl, rfl, rfl, a3, h0, by omega, by omega, by omega⟩, by omega, by omega⟩
      rw [laws_markThreadS_l0]
      simp only [PS, hk, rd_at hk, w1, w2, w3, w4, w5, u2, u3, u4, u5, a1, sameLen_ok a2, List.set_set]) (by omega) x v hl h.2 h0 (by omega)
  refine ⟨v', y, by rw [laws_markThreadS]; simp only [PS, e1], e2, ?_, e4, by omega⟩
  rw [laws_heldThreadS]
  exact heldL (fun n v k hk => by rw [laws_heldThreadS_l0, hk]; simp) (fun n v v' k hk hh h2 => by
    obtain ⟨f0, f1, f2, f3, f4, f8, f9, f10, f11, f12⟩ := hh
    have w1 : w64 (v + 1) = v + 1 := w64_id (by omega)
    have w2 : w64 (v + 2) = v + 2 := w64_id (by omega)
    have w3 : w64 (v + 3) = v + 3 := w64_id (by omega)
    have w4 : w64 (v + 4) = v + 4 := w64_id (by omega)
    have w5 : w64 (v + 5) = v + 5 := w64_id (by omega)
    have u2 : w64 (v + 1 + 1) = v + 2 := by rw [show v + 1 + 1 = v + 2 by omega]; exact w2
    have u3 : w64 (v + 2 + 1) = v + 3 := by rw [show v + 2 + 1 = v + 3 by omega]; exact w3
    have u4 : w64 (v + 3 + 1) = v + 4 := by rw [show v + 3 + 1 = v + 4 by omega]; exact w4
    have u5 : w64 (v + 4 + 1) = v + 5 := by rw [show v + 4 + 1 = v + 5 by omega]; exact w5
    have nn : decide (v' < 0) = false := by simp <;> omega
    rw [laws_heldThreadS_l0]
    simp only [PS, hk, rd_at hk, w1, w2, w3, w4, w5, u2, u3, u4, u5, f0, f1, f2, f3, f4, f8, nn, bne_self_eq_false, Bool.false_eq_true, if_false]) (by omega) e3
theorem QmkState (x : GState) (v : Int) (h : smState x) (h0 : 0 ≤ v) (h1 : v + 1099518967808 < 4611686018427387904) : ∃ v' y0 y1 y2, laws_markState x.Threads x.Cells x.Owner x.Fault v = some (v', y0, y1, y2) ∧ y0.length = x.Threads.length ∧ y1.length = x.Cells.length ∧ y2.length = x.Owner.length ∧ laws_heldState (GState.mk y0 y1 y2 x.Fault) v = some v' ∧ v ≤ v' ∧ v' ≤ v + 1099518967808 := by
 obtain ⟨v0, y0, a0, b0, c0, d0, e0⟩ := QmkThreadS x.Threads v (h.1) (by omega) (by omega)
 obtain ⟨v1, y1, a1, b1, c1, d1, e1⟩ := QmkFloat64S x.Cells v0 (h.2.1) (by omega) (by omega)
 obtain ⟨v2, y2, a2, b2, c2, d2, e2⟩ := QmkIntS x.Owner v1 (h.2.2) (by omega) (by omega)
 refine ⟨v2, y0, y1, y2, ?_, b0, b1, b2, ?_, by omega, by omega⟩
 ·rw [laws_markState]; simp only [PS, a0, a1, a2, sameLen_ok b0, sameLen_ok b1, sameLen_ok b2]
 have n0 : decide (v0 < 0) = false := by simp <;> omega
 have n1 : decide (v1 < 0) = false := by simp <;> omega
 have n2 : decide (v2 < 0) = false := by simp <;> omega
 ·rw [laws_heldState]; simp only [PS, c0, n0, c1, n1, c2, n2]
theorem QmkEventS (x : (List GEvent)) (v : Int) (h : smEventS x) (h0 : 0 ≤ v) (h1 : v + 5242880 < 4611686018427387904) : ∃ v' y, laws_markEventS x v = some (v', y) ∧ y.length = x.length ∧ laws_heldEventS y v = some v' ∧ v ≤ v' ∧ v' ≤ v + 5242880 := by
  have hl : x.length ≤ 1048576 := h
  obtain ⟨v', y, e1, e2, e3, e4, e5⟩ := markL (F := laws_markEventS_l0) (H := Num (fun v => (GEvent.mk v (v + 1) (v + 1 + 1) (v + 1 + 1 + 1) (v + 1 + 1 + 1 + 1))) (fun v => v + 1 + 1 + 1 + 1 + 1)) (ok := fun _ => True) (b := 5) (B := 1048576) (by omega) (fun n a v k hk => by rw [laws_markEventS_l0, hk]; simp)
    (fun n a v k hk _ h0 h1 => by
      have w1 : w64 (v + 1) = v + 1 := w64_id (by omega)
      have w2 : w64 (v + 1 + 1) = v + 1 + 1 := w64_id (by omega)
      have w3 : w64 (v + 1 + 1 + 1) = v + 1 + 1 + 1 := w64_id (by omega)
      have w4 : w64 (v + 1 + 1 + 1 + 1) = v + 1 + 1 + 1 + 1 := w64_id (by omega)
      have w5 : w64 (v + 1 + 1 + 1 + 1 + 1) = v + 1 + 1 + 1 + 1 + 1 := w64_id (by omega)
      refine ⟨v + 1 + 1 + 1 + 1 + 1, (GEvent.mk v (v + 1) (v + 1 + 1) (v + 1 + 1 + 1) (v + 1 + 1 + 1 + 1)), ?_, ⟨rfl, h0, rfl, by omega⟩, by omega, by omega⟩
      rw [laws_markEventS_l0]
      simp only [PS, hk, rd_at hk, w1, w2, w3, w4, w5]) (by omega) x v hl (fun _ _ => trivial) h0 (by omega)
  refine ⟨v', y, by rw [laws_markEventS]; simp only [PS, e1], e2, ?_, e4, by omega⟩
  rw [laws_heldEventS]
  exact heldL (fun n v k hk => by rw [laws_heldEventS_l0, hk]; simp) (fun n v v' k hk hh h2 => by
    obtain ⟨f1, f2, f3, f4⟩ := hh
    simp only at f1 f3
    subst f3
    have w1 : w64 (v + 1) = v + 1 := w64_id (by omega)
    have w2 : w64 (v + 1 + 1) = v + 1 + 1 := w64_id (by omega)
    have w3 : w64 (v + 1 + 1 + 1) = v + 1 + 1 + 1 := w64_id (by omega)
    have w4 : w64 (v + 1 + 1 + 1 + 1) = v + 1 + 1 + 1 + 1 := w64_id (by omega)
    have w5 : w64 (v + 1 + 1 + 1 + 1 + 1) = v + 1 + 1 + 1 + 1 + 1 := w64_id (by omega)
    rw [laws_heldEventS_l0]
    simp only [PS, hk, rd_at hk, f1, w1, w2, w3, w4, w5]) (by omega) e3
theorem QmkRun (x : GRun) (v : Int) (h : smRun x) (h0 : 0 ≤ v) (h1 : v + 1099525259264 < 4611686018427387904) : ∃ v' y0 y1 y2 y3 y4, laws_markRun x.Code x.Trace x.Picks x.End.Threads x.End.Cells x.End.Owner x.End.Fault v = some (v', y0, y1, y2, y3, y4) ∧ y0.length = x.Trace.length ∧ y1.length = x.Picks.length ∧ y2.length = x.End.Threads.length ∧ y3.length = x.End.Cells.length ∧ y4.length = x.End.Owner.length ∧ laws_heldRun (GRun.mk x.Code y0 y1 (GState.mk y2 y3 y4 x.End.Fault)) v = some v' ∧ v ≤ v' ∧ v' ≤ v + 1099525259264 := by
 obtain ⟨v0, y0, a0, b0, c0, d0, e0⟩ := QmkEventS x.Trace v (h.1) (by omega) (by omega)
 obtain ⟨v1, y1, a1, b1, c1, d1, e1⟩ := QmkIntS x.Picks v0 (h.2.1) (by omega) (by omega)
 obtain ⟨v2, y2, y3, y4, a2, b2, b3, b4, c2, d2, e2⟩ := QmkState x.End v1 (h.2.2) (by omega) (by omega)
 refine ⟨v2, y0, y1, y2, y3, y4, ?_, b0, b1, b2, b3, b4, ?_, by omega, by omega⟩
 ·rw [laws_markRun]; simp only [PS, a0, a1, a2, sameLen_ok b0, sameLen_ok b1, sameLen_ok b2, sameLen_ok b3, sameLen_ok b4]
 have n0 : decide (v0 < 0) = false := by simp <;> omega
 have n1 : decide (v1 < 0) = false := by simp <;> omega
 have n2 : decide (v2 < 0) = false := by simp <;> omega
 ·rw [laws_heldRun]; simp only [PS, c0, n0, c1, n1, c2, n2]
theorem law_RunThreads_of (x0 : GProg) (x1 : (List Int)) (g0 : wfGProg x0) (g1 : x1.length ≤ 9223372036854775807) (core : ∀ (sm0 : smProg x0), ∀ (sm1 : smIntS x1), ∃ r : GRun × Bool, spec_RunThreads x0 x1 = some r ∧ impl_RunThreads x0 x1 = some r ∧ smRun r.1) : laws_FnExactRunThreads x0 x1 = some true := by
 rw [laws_FnExactRunThreads]
 obtain ⟨s0, z0, za0, zb0⟩ := QszProg x0 g0 1048576 (by omega) (by omega)
 simp only [PS, z0]
 by_cases hs0 : s0 < 0
 ·simp [hs0]
 have hd0 : decide (s0 < 0) = false := by simp [hs0]
 simp only [PS, hd0]
 have sm0 := zb0 (by omega)
 by_cases hs1 : x1.length ≤ 1048576
 case neg => simp [show ¬ (x1.length : Int) ≤ 1048576 by omega] <;> omega
 have hd1 : decide ((x1.length : Int) > 1048576) = false := by simp <;> omega
 simp only [PS, hd1]
 have sm1 : smIntS x1 := hs1
 obtain ⟨r, e1, e2, o0⟩ := core sm0 sm1
 obtain ⟨n0, w0_0, na0, nb0_0, nd0, ne0⟩ := QmkProg x0 1 sm0 (by omega) (by omega)
 obtain ⟨n1, w1, na1, nb1, nc1, nd1, ne1⟩ := QmkIntS x1 n0 sm1 (by omega) (by omega)
 have nf : decide (n1 < 0) = false := by simp <;> omega
 obtain ⟨m0, y0_0, y0_1, y0_2, y0_3, y0_4, ma0, mb0_0, mb0_1, mb0_2, mb0_3, mb0_4, mc0, md0, me0⟩ := QmkRun r.1 1 o0 (by omega) (by omega)
 have mf0 : decide (m0 < 0) = false := by simp <;> omega
 simp only [PS, e1, e2, QtoProg x0 sm0, QeqProg x0 sm0, QtoIntS x1 sm1, QeqIntS x1 sm1, QeqRun r.1 o0, ma0, sameLen_ok mb0_0, sameLen_ok mb0_1, sameLen_ok mb0_2, sameLen_ok mb0_3, sameLen_ok mb0_4, mc0, mf0, na0, sameLen_ok nb0_0, na1, sameLen_ok nb1, nf, laws_FnExactRunThreads_j0, laws_FnExactRunThreads_j1, laws_FnExactRunThreads_j2]
end Go.Proofs.YtjcaompblpglcaaGreat
