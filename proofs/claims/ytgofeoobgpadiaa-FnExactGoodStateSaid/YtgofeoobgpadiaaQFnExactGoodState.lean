/- Plain facts for FnExactGoodState; no condition. -/

import Derived.Test.YtgofeoobgpadiaaGS
set_option linter.unusedVariables false
set_option linter.unusedSimpArgs false
namespace Go.Proofs.Ytgofeoobgpadiaa
open Go Go.T

def smOpS (x : (List GOp)) : Prop := x.length ≤ 1048576
theorem QszOpS (x : (List GOp)) (g : x.length ≤ 9223372036854775807) (l : Int) (h0 : 0 ≤ l) (h1 : l ≤ 1048576) : ∃ r : Int, laws_szOpS x l = some r ∧ r ≤ l ∧ (0 ≤ r → smOpS x) := by
  rw [laws_szOpS, w64_id (by omega)]
  by_cases h : l - (x.length : Int) < 0
  · exact ⟨-1, by simp [h], by omega, fun h => by omega⟩
  · exact ⟨l - (x.length : Int), by simp [h], by omega, fun _ => by show x.length ≤ 1048576; omega⟩
def smOpSS (x : (List (List GOp))) : Prop := x.length ≤ 1048576 ∧ ∀ y ∈ x, smOpS y
theorem QszOpSS (x : (List (List GOp))) (g : x.length ≤ 9223372036854775807 ∧ ∀ y0 ∈ x, y0.length ≤ 9223372036854775807 ∧ ∀ y1 ∈ y0, wfGOp y1) (l : Int) (h0 : 0 ≤ l) (h1 : l ≤ 1048576) : ∃ r : Int, laws_szOpSS x l = some r ∧ r ≤ l ∧ (0 ≤ r → smOpSS x) := by
  have g1 := g.1
  rw [laws_szOpSS, w64_id (by omega)]
  by_cases h : l - (x.length : Int) < 0
  · exact ⟨-1, by simp [h], by omega, fun h => by omega⟩
  · have hd : decide (l - (x.length : Int) < 0) = false := by simp [h]
    simp only [PS, hd]
    obtain ⟨r, e1, e2, e3⟩ := szL (p := x) (s := laws_szOpS) (small := fun y => smOpS y) (F := laws_szOpSS_l0 x) (by intros; rw [laws_szOpSS_l0]) (by omega) (fun y hy l h0 h1 => QszOpS y ((g.2 y hy).1) l h0 h1) (l := l - (x.length : Int)) (by omega) (by omega)
    exact ⟨r, e1, by omega, fun h => ⟨by omega, e3 h⟩⟩
def smProg (x : GProg) : Prop := smOpSS x.Routines
theorem QszProg (x : GProg) (g : wfGProg x) (l : Int) (h0 : 0 ≤ l) (h1 : l ≤ 1048576) : ∃ r : Int, laws_szProg x l = some r ∧ r ≤ l ∧ (0 ≤ r → smProg x) := by
  rw [laws_szProg]
  obtain ⟨r0, a0, b0, c0⟩ := QszOpSS x.Routines (g.2.2.2) l (by omega) (by omega)
  simp only [PS, a0]
  by_cases d0 : r0 < 0
  · exact ⟨-1, by simp [d0], by omega, fun h => by omega⟩
  have q0 : decide (r0 < 0) = false := by simp [d0]
  simp only [PS, q0]
  exact ⟨r0, rfl, by omega, fun h => c0 (by omega)⟩
def smFloat64S (x : (List Nat)) : Prop := x.length ≤ 1048576
theorem QszFloat64S (x : (List Nat)) (g : x.length ≤ 9223372036854775807) (l : Int) (h0 : 0 ≤ l) (h1 : l ≤ 1048576) : ∃ r : Int, laws_szFloat64S x l = some r ∧ r ≤ l ∧ (0 ≤ r → smFloat64S x) := by
  rw [laws_szFloat64S, w64_id (by omega)]
  by_cases h : l - (x.length : Int) < 0
  · exact ⟨-1, by simp [h], by omega, fun h => by omega⟩
  · exact ⟨l - (x.length : Int), by simp [h], by omega, fun _ => by show x.length ≤ 1048576; omega⟩
def smThread (x : GThread) : Prop := smFloat64S x.Stack
theorem QszThread (x : GThread) (g : wfGThread x) (l : Int) (h0 : 0 ≤ l) (h1 : l ≤ 1048576) : ∃ r : Int, laws_szThread x l = some r ∧ r ≤ l ∧ (0 ≤ r → smThread x) := by
  rw [laws_szThread]
  obtain ⟨r0, a0, b0, c0⟩ := QszFloat64S x.Stack ((g.2.2.2.2.2).1) l (by omega) (by omega)
  simp only [PS, a0]
  by_cases d0 : r0 < 0
  · exact ⟨-1, by simp [d0], by omega, fun h => by omega⟩
  have q0 : decide (r0 < 0) = false := by simp [d0]
  simp only [PS, q0]
  exact ⟨r0, rfl, by omega, fun h => c0 (by omega)⟩
def smThreadS (x : (List GThread)) : Prop := x.length ≤ 1048576 ∧ ∀ y ∈ x, smThread y
theorem QszThreadS (x : (List GThread)) (g : x.length ≤ 9223372036854775807 ∧ ∀ y0 ∈ x, wfGThread y0) (l : Int) (h0 : 0 ≤ l) (h1 : l ≤ 1048576) : ∃ r : Int, laws_szThreadS x l = some r ∧ r ≤ l ∧ (0 ≤ r → smThreadS x) := by
  have g1 := g.1
  rw [laws_szThreadS, w64_id (by omega)]
  by_cases h : l - (x.length : Int) < 0
  · exact ⟨-1, by simp [h], by omega, fun h => by omega⟩
  · have hd : decide (l - (x.length : Int) < 0) = false := by simp [h]
    simp only [PS, hd]
    obtain ⟨r, e1, e2, e3⟩ := szL (p := x) (s := laws_szThread) (small := fun y => smThread y) (F := laws_szThreadS_l0 x) (by intros; rw [laws_szThreadS_l0]) (by omega) (fun y hy l h0 h1 => QszThread y (g.2 y hy) l h0 h1) (l := l - (x.length : Int)) (by omega) (by omega)
    exact ⟨r, e1, by omega, fun h => ⟨by omega, e3 h⟩⟩
def smIntS (x : (List Int)) : Prop := x.length ≤ 1048576
theorem QszIntS (x : (List Int)) (g : x.length ≤ 9223372036854775807) (l : Int) (h0 : 0 ≤ l) (h1 : l ≤ 1048576) : ∃ r : Int, laws_szIntS x l = some r ∧ r ≤ l ∧ (0 ≤ r → smIntS x) := by
  rw [laws_szIntS, w64_id (by omega)]
  by_cases h : l - (x.length : Int) < 0
  · exact ⟨-1, by simp [h], by omega, fun h => by omega⟩
  · exact ⟨l - (x.length : Int), by simp [h], by omega, fun _ => by show x.length ≤ 1048576; omega⟩
def smState (x : GState) : Prop := smThreadS x.Threads ∧ smFloat64S x.Cells ∧ smIntS x.Owner
theorem QszState (x : GState) (g : wfGState x) (l : Int) (h0 : 0 ≤ l) (h1 : l ≤ 1048576) : ∃ r : Int, laws_szState x l = some r ∧ r ≤ l ∧ (0 ≤ r → smState x) := by
  rw [laws_szState]
  obtain ⟨r0, a0, b0, c0⟩ := QszThreadS x.Threads (g.1) l (by omega) (by omega)
  simp only [PS, a0]
  by_cases d0 : r0 < 0
  · exact ⟨-1, by simp [d0], by omega, fun h => by omega⟩
  have q0 : decide (r0 < 0) = false := by simp [d0]
  simp only [PS, q0]
  obtain ⟨r1, a1, b1, c1⟩ := QszFloat64S x.Cells ((g.2.1).1) r0 (by omega) (by omega)
  simp only [PS, a1]
  by_cases d1 : r1 < 0
  · exact ⟨-1, by simp [d1], by omega, fun h => by omega⟩
  have q1 : decide (r1 < 0) = false := by simp [d1]
  simp only [PS, q1]
  obtain ⟨r2, a2, b2, c2⟩ := QszIntS x.Owner ((g.2.2.1).1) r1 (by omega) (by omega)
  simp only [PS, a2]
  by_cases d2 : r2 < 0
  · exact ⟨-1, by simp [d2], by omega, fun h => by omega⟩
  have q2 : decide (r2 < 0) = false := by simp [d2]
  simp only [PS, q2]
  exact ⟨r2, rfl, by omega, fun h => ⟨c0 (by omega), c1 (by omega), c2 (by omega)⟩⟩
theorem QtoOp (x : GOp) : laws_toOp x = some x := rfl
theorem QtoOpS (x : (List GOp)) (h : smOpS x) : laws_toOpS x = some x := by
  have hl : x.length < 1099511627776 := by have := (show x.length ≤ 1048576 from h); omega
  rw [laws_toOpS]
  exact toL (t := laws_toOp) (by intros; rw [laws_toOpS_l0]) hl (fun y hy => QtoOp y) _
theorem QtoOpSS (x : (List (List GOp))) (h : smOpSS x) : laws_toOpSS x = some x := by
  have hl : x.length < 1099511627776 := by have := h.1; omega
  rw [laws_toOpSS]
  exact toL (t := laws_toOpS) (by intros; rw [laws_toOpSS_l0]) hl (fun y hy => QtoOpS y (h.2 y hy)) _
theorem QtoProg (x : GProg) (h : smProg x) : laws_toProg x = some x := by
  rw [laws_toProg]; simp only [PS, QtoOpSS _ (h)]
theorem QtoFloat64S (x : (List Nat)) (h : smFloat64S x) : laws_toFloat64S x = some x := by
  have hl : x.length < 1099511627776 := by have := (show x.length ≤ 1048576 from h); omega
  rw [laws_toFloat64S]
  exact toLs (by intros; rw [laws_toFloat64S_l0]) hl _
theorem QtoThread (x : GThread) (h : smThread x) : laws_toThread x = some x := by
  rw [laws_toThread]; simp only [PS, QtoFloat64S _ (h)]
theorem QtoThreadS (x : (List GThread)) (h : smThreadS x) : laws_toThreadS x = some x := by
  have hl : x.length < 1099511627776 := by have := h.1; omega
  rw [laws_toThreadS]
  exact toL (t := laws_toThread) (by intros; rw [laws_toThreadS_l0]) hl (fun y hy => QtoThread y (h.2 y hy)) _
theorem QtoIntS (x : (List Int)) (h : smIntS x) : laws_toIntS x = some x := by
  have hl : x.length < 1099511627776 := by have := (show x.length ≤ 1048576 from h); omega
  rw [laws_toIntS]
  exact toLs (by intros; rw [laws_toIntS_l0]) hl _
theorem QtoState (x : GState) (h : smState x) : laws_toState x = some x := by
  rw [laws_toState]; simp only [PS, QtoThreadS _ (h.1), QtoFloat64S _ (h.2.1), QtoIntS _ (h.2.2)]
theorem Qdiv0 (x : Nat) (h : fcmp x 0 = some .eq) : ∃ r, fdv 4607182418800017408 x = some r := by
  have h0 : FloatKind.f64.format.read 0 = .number false 0 FloatKind.f64.format.leastPlace := by decide
  unfold fcmp Ieee.Format.order at h
  rw [h0] at h
  unfold fdv Ieee.Format.div
  have h1 : FloatKind.f64.format.read 4607182418800017408 = .number false 4503599627370496 (-52) := by decide
  rw [h1]
  generalize FloatKind.f64.format.read x = d at h ⊢
  cases d with
  | nan => cases h
  | infinity s => exact ⟨_, rfl⟩
  | number s m e =>
    simp only [Ieee.Datum.quotient]
    split
    · exact ⟨_, rfl⟩
    · exact ⟨_, rfl⟩
theorem Qsame (x : Nat) : laws_sameFloat x x = some true := by
  unfold laws_sameFloat
  rcases fcmp_self x with h | h
  · simp [h]
  · unfold laws_sameFloat_j0
    by_cases h0 : fcmp x 0 = some .eq
    · obtain ⟨r, e⟩ := Qdiv0 x h0
      simp [h, h0, e]
    · simp [h, h0]
theorem QeqOp (x : GOp) : laws_eqOp x x = some true := by
  simp [laws_eqOp, Qsame]
theorem QeqOpS (x : (List GOp)) (h : smOpS x) : laws_eqOpS x x = some true := by
  have hl : x.length < 1099511627776 := by have := (show x.length ≤ 1048576 from h); omega
  rw [laws_eqOpS]; simp only [PS, ]
  exact eqL (e := laws_eqOp) (by intros; rw [laws_eqOpS_l0]) hl (fun y hy => QeqOp y)
theorem QeqOpSS (x : (List (List GOp))) (h : smOpSS x) : laws_eqOpSS x x = some true := by
  have hl : x.length < 1099511627776 := by have := h.1; omega
  rw [laws_eqOpSS]; simp only [PS, ]
  exact eqL (e := laws_eqOpS) (by intros; rw [laws_eqOpSS_l0]) hl (fun y hy => QeqOpS y (h.2 y hy))
theorem QeqProg (x : GProg) (h : smProg x) : laws_eqProg x x = some true := by
  simp [laws_eqProg, QeqOpSS _ (h)]
theorem QeqIntS (x : (List Int)) (h : smIntS x) : laws_eqIntS x x = some true := by
  have hl : x.length < 1099511627776 := by have := (show x.length ≤ 1048576 from h); omega
  rw [laws_eqIntS]; simp only [PS, ]
  exact eqLs (by intros; rw [laws_eqIntS_l0]) hl
theorem QeqFloat64S (x : (List Nat)) (h : smFloat64S x) : laws_eqFloat64S x x = some true := by
  have hl : x.length < 1099511627776 := by have := (show x.length ≤ 1048576 from h); omega
  rw [laws_eqFloat64S]; simp only [PS, ]
  exact eqL (e := laws_sameFloat) (by intros; rw [laws_eqFloat64S_l0]) hl (fun y _ => Qsame y)
theorem QeqThread (x : GThread) (h : smThread x) : laws_eqThread x x = some true := by
  simp [laws_eqThread, QeqFloat64S _ (h)]
theorem QeqThreadS (x : (List GThread)) (h : smThreadS x) : laws_eqThreadS x x = some true := by
  have hl : x.length < 1099511627776 := by have := h.1; omega
  rw [laws_eqThreadS]; simp only [PS, ]
  exact eqL (e := laws_eqThread) (by intros; rw [laws_eqThreadS_l0]) hl (fun y hy => QeqThread y (h.2 y hy))
theorem QeqState (x : GState) (h : smState x) : laws_eqState x x = some true := by
  simp [laws_eqState, QeqThreadS _ (h.1), QeqFloat64S _ (h.2.1), QeqIntS _ (h.2.2)]
theorem law_GoodState_of (x0 : GProg) (x1 : GState) (g0 : wfGProg x0) (g1 : wfGState x1) (core : ∀ (sm0 : smProg x0), ∀ (sm1 : smState x1), ∃ r : Bool, spec_GoodState x0 x1 = some r ∧ impl_GoodState x0 x1 = some r) : laws_FnExactGoodState x0 x1 = some true := by
  rw [laws_FnExactGoodState]
  obtain ⟨s0, z0, za0, zb0⟩ := QszProg x0 g0 1048576 (by omega) (by omega)
  simp only [PS, z0]
  by_cases hs0 : s0 < 0
  · simp [hs0]
  have hd0 : decide (s0 < 0) = false := by simp [hs0]
  simp only [PS, hd0]
  have sm0 := zb0 (by omega)
  obtain ⟨s1, z1, za1, zb1⟩ := QszState x1 g1 s0 (by omega) (by omega)
  simp only [PS, z1]
  by_cases hs1 : s1 < 0
  · simp [hs1]
  have hd1 : decide (s1 < 0) = false := by simp [hs1]
  simp only [PS, hd1]
  have sm1 := zb1 (by omega)
  obtain ⟨r, e1, e2⟩ := core sm0 sm1
  simp only [PS, e1, e2, QtoProg x0 sm0, QeqProg x0 sm0, QtoState x1 sm1, QeqState x1 sm1]
end Go.Proofs.Ytgofeoobgpadiaa
