/- Plain facts for FnExactGoodHunt; no condition. -/

import Derived.Test.YthhcnmideecfpaaGreatD1
set_option linter.unusedVariables false
set_option linter.unusedSimpArgs false
namespace Go.Proofs.YthhcnmideecfpaaGreat
open Go Go.T

def smOpS (x : (List GOp)) : Prop := x.length ≤ 1048576
theorem QszOpS (x : (List GOp)) (g : x.length ≤ 9223372036854775807) (l : Int) (h0 : 0 ≤ l) (h1 : l ≤ 1048576) : ∃ r : Int, laws_szOpS x l = some r ∧ r ≤ l ∧ (0 ≤ r → smOpS x) := by
  rw [laws_szOpS, w64_id (by omega)]
  by_cases h : l - (x.length : Int) < 0
  · exact ⟨-1, by simp [h], by omega, fun h => by omega⟩
  · exact ⟨l - (x.length : Int), by simp [h], by omega, fun _ => by show x.length ≤ 1048576; omega⟩
def smOpSS (x : (List (List GOp))) : Prop := x.length ≤ 1048576 ∧ ∀ y ∈ x, smOpS y
theorem QszOpSS (x : (List (List GOp))) (g : x.length ≤ 9223372036854775807 ∧ ∀ y0 ∈ x, y0.length ≤ 9223372036854775807 ∧ ∀ y1 ∈ y0, wfGOp y1) (l : Int) (h0 : 0 ≤ l) (h1 : l ≤ 1048576) : ∃ r : Int, laws_szOpSS x l = some r ∧ r ≤ l ∧ (0 ≤ r → smOpSS x) := by
  have g1 := g.1
  rw [laws_szOpSS, w64_id (by omega)]
  by_cases h : l - (x.length : Int) < 0
  · exact ⟨-1, by simp [h], by omega, fun h => by omega⟩
  · have hd : decide (l - (x.length : Int) < 0) = false := by simp [h]
    simp only [PS, hd]
    obtain ⟨r, e1, e2, e3⟩ := szL (p := x) (s := laws_szOpS) (small := fun y => smOpS y) (F := laws_szOpSS_l0 x) (by intros; rw [laws_szOpSS_l0]) (by omega) (fun y hy l h0 h1 => QszOpS y ((g.2 y hy).1) l h0 h1) (l := l - (x.length : Int)) (by omega) (by omega)
    exact ⟨r, e1, by omega, fun h => ⟨by omega, e3 h⟩⟩
def smProg (x : GProg) : Prop := smOpSS x.Routines
theorem QszProg (x : GProg) (g : wfGProg x) (l : Int) (h0 : 0 ≤ l) (h1 : l ≤ 1048576) : ∃ r : Int, laws_szProg x l = some r ∧ r ≤ l ∧ (0 ≤ r → smProg x) := by
  rw [laws_szProg]
  obtain ⟨r0, a0, b0, c0⟩ := QszOpSS x.Routines (g.2.2.2) l (by omega) (by omega)
  simp only [PS, a0]
  by_cases d0 : r0 < 0
  · exact ⟨-1, by simp [d0], by omega, fun h => by omega⟩
  have q0 : decide (r0 < 0) = false := by simp [d0]
  simp only [PS, q0]
  exact ⟨r0, rfl, by omega, fun h => c0 (by omega)⟩
def smIntS (x : (List Int)) : Prop := x.length ≤ 1048576
theorem QszIntS (x : (List Int)) (g : x.length ≤ 9223372036854775807) (l : Int) (h0 : 0 ≤ l) (h1 : l ≤ 1048576) : ∃ r : Int, laws_szIntS x l = some r ∧ r ≤ l ∧ (0 ≤ r → smIntS x) := by
  rw [laws_szIntS, w64_id (by omega)]
  by_cases h : l - (x.length : Int) < 0
  · exact ⟨-1, by simp [h], by omega, fun h => by omega⟩
  · exact ⟨l - (x.length : Int), by simp [h], by omega, fun _ => by show x.length ≤ 1048576; omega⟩
def smPct (x : GPct) : Prop := smIntS x.Ranks ∧ smIntS x.Changes
theorem QszPct (x : GPct) (g : wfGPct x) (l : Int) (h0 : 0 ≤ l) (h1 : l ≤ 1048576) : ∃ r : Int, laws_szPct x l = some r ∧ r ≤ l ∧ (0 ≤ r → smPct x) := by
  rw [laws_szPct]
  obtain ⟨r0, a0, b0, c0⟩ := QszIntS x.Ranks ((g.1).1) l (by omega) (by omega)
  simp only [PS, a0]
  by_cases d0 : r0 < 0
  · exact ⟨-1, by simp [d0], by omega, fun h => by omega⟩
  have q0 : decide (r0 < 0) = false := by simp [d0]
  simp only [PS, q0]
  obtain ⟨r1, a1, b1, c1⟩ := QszIntS x.Changes ((g.2).1) r0 (by omega) (by omega)
  simp only [PS, a1]
  by_cases d1 : r1 < 0
  · exact ⟨-1, by simp [d1], by omega, fun h => by omega⟩
  have q1 : decide (r1 < 0) = false := by simp [d1]
  simp only [PS, q1]
  exact ⟨r1, rfl, by omega, fun h => ⟨c0 (by omega), c1 (by omega)⟩⟩
def smPctS (x : (List GPct)) : Prop := x.length ≤ 1048576 ∧ ∀ y ∈ x, smPct y
theorem QszPctS (x : (List GPct)) (g : x.length ≤ 9223372036854775807 ∧ ∀ y0 ∈ x, wfGPct y0) (l : Int) (h0 : 0 ≤ l) (h1 : l ≤ 1048576) : ∃ r : Int, laws_szPctS x l = some r ∧ r ≤ l ∧ (0 ≤ r → smPctS x) := by
  have g1 := g.1
  rw [laws_szPctS, w64_id (by omega)]
  by_cases h : l - (x.length : Int) < 0
  · exact ⟨-1, by simp [h], by omega, fun h => by omega⟩
  · have hd : decide (l - (x.length : Int) < 0) = false := by simp [h]
    simp only [PS, hd]
    obtain ⟨r, e1, e2, e3⟩ := szL (p := x) (s := laws_szPct) (small := fun y => smPct y) (F := laws_szPctS_l0 x) (by intros; rw [laws_szPctS_l0]) (by omega) (fun y hy l h0 h1 => QszPct y (g.2 y hy) l h0 h1) (l := l - (x.length : Int)) (by omega) (by omega)
    exact ⟨r, e1, by omega, fun h => ⟨by omega, e3 h⟩⟩
def smPairS (x : (List GPair)) : Prop := x.length ≤ 1048576
theorem QszPairS (x : (List GPair)) (g : x.length ≤ 9223372036854775807) (l : Int) (h0 : 0 ≤ l) (h1 : l ≤ 1048576) : ∃ r : Int, laws_szPairS x l = some r ∧ r ≤ l ∧ (0 ≤ r → smPairS x) := by
  rw [laws_szPairS, w64_id (by omega)]
  by_cases h : l - (x.length : Int) < 0
  · exact ⟨-1, by simp [h], by omega, fun h => by omega⟩
  · exact ⟨l - (x.length : Int), by simp [h], by omega, fun _ => by show x.length ≤ 1048576; omega⟩
def smFound (x : GFound) : Prop := smIntS x.Picks
theorem QszFound (x : GFound) (g : wfGFound x) (l : Int) (h0 : 0 ≤ l) (h1 : l ≤ 1048576) : ∃ r : Int, laws_szFound x l = some r ∧ r ≤ l ∧ (0 ≤ r → smFound x) := by
  rw [laws_szFound]
  have g0 := g.1
  obtain ⟨r0, hr0⟩ : ∃ r, r = l - (x.Sign.length : Int) := ⟨_, rfl⟩
  have hw0 : w64 (l - (x.Sign.length : Int)) = r0 := by rw [w64_id (by omega), hr0]
  simp only [PS, hw0]
  by_cases d0 : r0 < 0
  · exact ⟨-1, by simp [d0], by omega, fun h => by omega⟩
  have q0 : decide (r0 < 0) = false := by simp [d0]
  simp only [PS, q0]
  obtain ⟨r1, a1, b1, c1⟩ := QszIntS x.Picks ((g.2).1) r0 (by omega) (by omega)
  simp only [PS, a1]
  by_cases d1 : r1 < 0
  · exact ⟨-1, by simp [d1], by omega, fun h => by omega⟩
  have q1 : decide (r1 < 0) = false := by simp [d1]
  simp only [PS, q1]
  exact ⟨r1, rfl, by omega, fun h => c1 (by omega)⟩
def smFoundS (x : (List GFound)) : Prop := x.length ≤ 1048576 ∧ ∀ y ∈ x, smFound y
theorem QszFoundS (x : (List GFound)) (g : x.length ≤ 9223372036854775807 ∧ ∀ y0 ∈ x, wfGFound y0) (l : Int) (h0 : 0 ≤ l) (h1 : l ≤ 1048576) : ∃ r : Int, laws_szFoundS x l = some r ∧ r ≤ l ∧ (0 ≤ r → smFoundS x) := by
  have g1 := g.1
  rw [laws_szFoundS, w64_id (by omega)]
  by_cases h : l - (x.length : Int) < 0
  · exact ⟨-1, by simp [h], by omega, fun h => by omega⟩
  · have hd : decide (l - (x.length : Int) < 0) = false := by simp [h]
    simp only [PS, hd]
    obtain ⟨r, e1, e2, e3⟩ := szL (p := x) (s := laws_szFound) (small := fun y => smFound y) (F := laws_szFoundS_l0 x) (by intros; rw [laws_szFoundS_l0]) (by omega) (fun y hy l h0 h1 => QszFound y (g.2 y hy) l h0 h1) (l := l - (x.length : Int)) (by omega) (by omega)
    exact ⟨r, e1, by omega, fun h => ⟨by omega, e3 h⟩⟩
def smHunt (x : GHunt) : Prop := smProg x.Prog ∧ smPctS x.Kept ∧ smPairS x.Covered ∧ smFoundS x.Finds
theorem QszHunt (x : GHunt) (g : wfGHunt x) (l : Int) (h0 : 0 ≤ l) (h1 : l ≤ 1048576) : ∃ r : Int, laws_szHunt x l = some r ∧ r ≤ l ∧ (0 ≤ r → smHunt x) := by
  rw [laws_szHunt]
  obtain ⟨r0, a0, b0, c0⟩ := QszProg x.Prog (g.1) l (by omega) (by omega)
  simp only [PS, a0]
  by_cases d0 : r0 < 0
  · exact ⟨-1, by simp [d0], by omega, fun h => by omega⟩
  have q0 : decide (r0 < 0) = false := by simp [d0]
  simp only [PS, q0]
  obtain ⟨r1, a1, b1, c1⟩ := QszPctS x.Kept (g.2.1) r0 (by omega) (by omega)
  simp only [PS, a1]
  by_cases d1 : r1 < 0
  · exact ⟨-1, by simp [d1], by omega, fun h => by omega⟩
  have q1 : decide (r1 < 0) = false := by simp [d1]
  simp only [PS, q1]
  obtain ⟨r2, a2, b2, c2⟩ := QszPairS x.Covered ((g.2.2.1).1) r1 (by omega) (by omega)
  simp only [PS, a2]
  by_cases d2 : r2 < 0
  · exact ⟨-1, by simp [d2], by omega, fun h => by omega⟩
  have q2 : decide (r2 < 0) = false := by simp [d2]
  simp only [PS, q2]
  obtain ⟨r3, a3, b3, c3⟩ := QszFoundS x.Finds (g.2.2.2.1) r2 (by omega) (by omega)
  simp only [PS, a3]
  by_cases d3 : r3 < 0
  · exact ⟨-1, by simp [d3], by omega, fun h => by omega⟩
  have q3 : decide (r3 < 0) = false := by simp [d3]
  simp only [PS, q3]
  exact ⟨r3, rfl, by omega, fun h => ⟨c0 (by omega), c1 (by omega), c2 (by omega), c3 (by omega)⟩⟩
theorem QtoOp (x : GOp) : laws_toOp x = some x := rfl
theorem QtoOpS (x : (List GOp)) (h : smOpS x) : laws_toOpS x = some x := by
  have hl : x.length < 1099511627776 := by have := (show x.length ≤ 1048576 from h); omega
  rw [laws_toOpS]
  exact toL (t := laws_toOp) (by intros; rw [laws_toOpS_l0]) hl (fun y hy => QtoOp y) _
theorem QtoOpSS (x : (List (List GOp))) (h : smOpSS x) : laws_toOpSS x = some x := by
  have hl : x.length < 1099511627776 := by have := h.1; omega
  rw [laws_toOpSS]
  exact toL (t := laws_toOpS) (by intros; rw [laws_toOpSS_l0]) hl (fun y hy => QtoOpS y (h.2 y hy)) _
theorem QtoProg (x : GProg) (h : smProg x) : laws_toProg x = some x := by
  rw [laws_toProg]; simp only [PS, QtoOpSS _ (h)]
theorem QtoIntS (x : (List Int)) (h : smIntS x) : laws_toIntS x = some x := by
  have hl : x.length < 1099511627776 := by have := (show x.length ≤ 1048576 from h); omega
  rw [laws_toIntS]
  exact toLs (by intros; rw [laws_toIntS_l0]) hl _
theorem QtoPct (x : GPct) (h : smPct x) : laws_toPct x = some x := by
  rw [laws_toPct]; simp only [PS, QtoIntS _ (h.1), QtoIntS _ (h.2)]
theorem QtoPctS (x : (List GPct)) (h : smPctS x) : laws_toPctS x = some x := by
  have hl : x.length < 1099511627776 := by have := h.1; omega
  rw [laws_toPctS]
  exact toL (t := laws_toPct) (by intros; rw [laws_toPctS_l0]) hl (fun y hy => QtoPct y (h.2 y hy)) _
theorem QtoPair (x : GPair) : laws_toPair x = some x := rfl
theorem QtoPairS (x : (List GPair)) (h : smPairS x) : laws_toPairS x = some x := by
  have hl : x.length < 1099511627776 := by have := (show x.length ≤ 1048576 from h); omega
  rw [laws_toPairS]
  exact toL (t := laws_toPair) (by intros; rw [laws_toPairS_l0]) hl (fun y hy => QtoPair y) _
theorem QtoFound (x : GFound) (h : smFound x) : laws_toFound x = some x := by
  rw [laws_toFound]; simp only [PS, QtoIntS _ (h)]
theorem QtoFoundS (x : (List GFound)) (h : smFoundS x) : laws_toFoundS x = some x := by
  have hl : x.length < 1099511627776 := by have := h.1; omega
  rw [laws_toFoundS]
  exact toL (t := laws_toFound) (by intros; rw [laws_toFoundS_l0]) hl (fun y hy => QtoFound y (h.2 y hy)) _
theorem QtoHunt (x : GHunt) (h : smHunt x) : laws_toHunt x = some x := by
  rw [laws_toHunt]; simp only [PS, QtoProg _ (h.1), QtoPctS _ (h.2.1), QtoPairS _ (h.2.2.1), QtoFoundS _ (h.2.2.2)]
theorem Qsame (x : Nat) : laws_sameFloat x x = some true := by
  unfold laws_sameFloat
  rcases fcmp_self x with h | h
  · simp [h]
  · unfold laws_sameFloat_j0
    by_cases h0 : fcmp x 0 = some .eq
    · simp [h, h0]
    · simp [h, h0]
theorem QeqOp (x : GOp) : laws_eqOp x x = some true := by
  simp [laws_eqOp, Qsame]
theorem QeqOpS (x : (List GOp)) (h : smOpS x) : laws_eqOpS x x = some true := by
  have hl : x.length < 1099511627776 := by have := (show x.length ≤ 1048576 from h); omega
  rw [laws_eqOpS]; simp only [PS, ]
  exact eqL (e := laws_eqOp) (by intros; rw [laws_eqOpS_l0]) hl (fun y hy => QeqOp y)
theorem QeqOpSS (x : (List (List GOp))) (h : smOpSS x) : laws_eqOpSS x x = some true := by
  have hl : x.length < 1099511627776 := by have := h.1; omega
  rw [laws_eqOpSS]; simp only [PS, ]
  exact eqL (e := laws_eqOpS) (by intros; rw [laws_eqOpSS_l0]) hl (fun y hy => QeqOpS y (h.2 y hy))
theorem QeqProg (x : GProg) (h : smProg x) : laws_eqProg x x = some true := by
  simp [laws_eqProg, QeqOpSS _ (h)]
theorem QeqIntS (x : (List Int)) (h : smIntS x) : laws_eqIntS x x = some true := by
  have hl : x.length < 1099511627776 := by have := (show x.length ≤ 1048576 from h); omega
  rw [laws_eqIntS]; simp only [PS, ]
  exact eqLs (by intros; rw [laws_eqIntS_l0]) hl
theorem QeqPct (x : GPct) (h : smPct x) : laws_eqPct x x = some true := by
  simp [laws_eqPct, QeqIntS _ (h.1), QeqIntS _ (h.2)]
theorem QeqPctS (x : (List GPct)) (h : smPctS x) : laws_eqPctS x x = some true := by
  have hl : x.length < 1099511627776 := by have := h.1; omega
  rw [laws_eqPctS]; simp only [PS, ]
  exact eqL (e := laws_eqPct) (by intros; rw [laws_eqPctS_l0]) hl (fun y hy => QeqPct y (h.2 y hy))
theorem QeqPair (x : GPair) : laws_eqPair x x = some true := by
  simp [laws_eqPair]
theorem QeqPairS (x : (List GPair)) (h : smPairS x) : laws_eqPairS x x = some true := by
  have hl : x.length < 1099511627776 := by have := (show x.length ≤ 1048576 from h); omega
  rw [laws_eqPairS]; simp only [PS, ]
  exact eqL (e := laws_eqPair) (by intros; rw [laws_eqPairS_l0]) hl (fun y hy => QeqPair y)
theorem QeqFound (x : GFound) (h : smFound x) : laws_eqFound x x = some true := by
  simp [laws_eqFound, QeqIntS _ (h)]
theorem QeqFoundS (x : (List GFound)) (h : smFoundS x) : laws_eqFoundS x x = some true := by
  have hl : x.length < 1099511627776 := by have := h.1; omega
  rw [laws_eqFoundS]; simp only [PS, ]
  exact eqL (e := laws_eqFound) (by intros; rw [laws_eqFoundS_l0]) hl (fun y hy => QeqFound y (h.2 y hy))
theorem QeqHunt (x : GHunt) (h : smHunt x) : laws_eqHunt x x = some true := by
  simp [laws_eqHunt, QeqProg _ (h.1), QeqPctS _ (h.2.1), QeqPairS _ (h.2.2.1), QeqFoundS _ (h.2.2.2)]
theorem law_GoodHunt_of (x0 : GHunt) (g0 : wfGHunt x0) (core : ∀ (sm0 : smHunt x0), ∃ r : Bool, spec_GoodHunt x0 = some r ∧ impl_GoodHunt x0 = some r) : laws_FnExactGoodHunt x0 = some true := by
  rw [laws_FnExactGoodHunt]
  obtain ⟨s0, z0, za0, zb0⟩ := QszHunt x0 g0 1048576 (by omega) (by omega)
  simp only [PS, z0]
  by_cases hs0 : s0 < 0
  · simp [hs0]
  have hd0 : decide (s0 < 0) = false := by simp [hs0]
  simp only [PS, hd0]
  have sm0 := zb0 (by omega)
  obtain ⟨r, e1, e2⟩ := core sm0
  simp only [PS, e1, e2, QtoHunt x0 sm0, QeqHunt x0 sm0]
end Go.Proofs.YthhcnmideecfpaaGreat
