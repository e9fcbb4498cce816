/- Plain facts for FnExactSpotOf; no condition. -/

import Derived.Test.YtemmdkcpcjidmaaGreatSS
set_option linter.unusedVariables false
set_option linter.unusedSimpArgs false
namespace Go.Proofs.YtemmdkcpcjidmaaGreat
open Go Go.T
theorem Xnj {p : Qag} {s : Qa1} (h : RG p s) : SB s := by
 obtain ⟨a, b, c, d⟩ := h.sc
 exact ⟨by omega, by omega, by omega, fun t ht => by have := d t ht; omega, h.cf, fun t ht => (h.th t ht).fl⟩
noncomputable def isG (p : Qag) (r : Qbx) : Bool := decide (r.Trace.length ≤ 200) && ((decide (r.Picks.length ≤ 200) && r.Picks.all (fun x => inr x 0 999)) && Quq ((Qhz p r.Picks r.Picks.length).getD Xfg) r)
structure IsH (p : Qag) (r : Qbx) : Prop where
 hv : ∀ q ∈ p.Routines, ∀ o ∈ q, o.V < 18446744073709551616
 ht : r.Trace.length ≤ 1048576
 hk : r.Picks.length ≤ 1048576
 hb : SB r.End
theorem Xfa {p : Qag} {r : Qbx} (hg : Qje p = true) (H : IsH p r) (hp : (decide (r.Picks.length ≤ 200) && r.Picks.all (fun x => inr x 0 999)) = true) :
  ∃ (R : Qbx) (s : Qa1), Qhz p r.Picks r.Picks.length = some R ∧ Qgb p r.Picks r.Picks.length = some R ∧ R.Trace.length ≤ 200 ∧ R.Picks.length ≤ 200 ∧ RG p R.End ∧ Qga p = some s ∧ Qgd p = some s ∧ Xdw p s R.Picks R.Trace R.End := by
 simp only [Bool.and_eq_true, decide_eq_true_eq, List.all_eq_true] at hp
 exact Qzs hg H.hv (m := r.Picks.length) hp.1 (fun x hx => (Qc4.1 (hp.2 x hx)).1) hp.1
theorem Xlt {p : Qag} {r : Qbx} (hg : Qje p = true) (H : IsH p r) : Qn7 p r = some (isG p r) := by
 rw [Qn7, Xk7 H.hk]
 unfold isG
 by_cases htl : r.Trace.length ≤ 200
 case neg =>
  have c1 : decide ((r.Trace.length : Int) ≤ 200) = false := by simp; omega
  simp [c1, htl]
 have c1 : decide ((r.Trace.length : Int) ≤ 200) = true := by simp; omega
 have c2 : decide (r.Trace.length ≤ 200) = true := by simpa using htl
 simp only [c1, c2, if_true, Option.bind_some, Bool.true_and]
 cases hp : decide (r.Picks.length ≤ 200) && r.Picks.all (fun x => inr x 0 999)
 ·simp
 obtain ⟨R, s, r1, r2, r3, r4, r5, _⟩ := Xfa hg H hp
 have eR : (Qbx.mk R.Code R.Trace R.Picks (Qa1.mk R.End.Threads R.End.Cells R.End.Owner R.End.Fault)) = R := rfl
 simp only [r1, Option.bind_some, eR, s_run (a := R) (b := r) (by omega) (by omega) (Xnj r5) H.hb, if_true, Option.getD_some, Bool.true_and]
theorem Xhj {p : Qag} {r : Qbx} (hg : Qje p = true) (H : IsH p r) (htl : r.Trace.length ≤ 200) (hp : (decide (r.Picks.length ≤ 200) && r.Picks.all (fun x => inr x 0 999)) = true) : Qhh p r = some (isG p r, true) := by
 obtain ⟨R, s, r1, r2, r3, r4, r5, _⟩ := Xfa hg H hp
 have eR : (Qbx.mk R.Code R.Trace R.Picks (Qa1.mk R.End.Threads R.End.Cells R.End.Owner R.End.Fault)) = R := rfl
 have c2 : decide (r.Trace.length ≤ 200) = true := by simpa using htl
 unfold isG
 simp only [Qhh, r1, r2, Option.bind_some, eR, i_run (a := R) (b := r) (by omega) (by omega) (Xnj r5), c2, hp, Option.getD_some, Bool.true_and]
theorem Xhv {p : Qag} {r : Qbx} (hip : Qfd p = some (Qje p)) (H : IsH p r) :
  ∃ o : Bool, Ql5 p r = some (Qje p && isG p r, o) ∧ ((Qje p && isG p r) = true → o = true) ∧ (o = (Qje p && (decide (r.Trace.length ≤ 200) && (decide (r.Picks.length ≤ 200) && r.Picks.all (fun x => inr x 0 999))))) := by
 rw [Ql5, hip]
 cases hg : Qje p
 ·exact ⟨false, by simp, by simp, by simp⟩
 simp only [Option.bind_some, Xi6 H.hk, Bool.not_true, Bool.false_eq_true, if_false, Bool.true_and]
 by_cases htl : r.Trace.length ≤ 200
 case neg =>
  have c1 : decide ((r.Trace.length : Int) > 200) = true := by simp; omega
  have e : isG p r = false := by unfold isG; simp [htl]
  exact ⟨false, by simp [c1, e], by simp [e], by simp [htl]⟩
 have c1 : decide ((r.Trace.length : Int) > 200) = false := by simp; omega
 simp only [c1, Bool.false_eq_true, if_false]
 cases hp : decide (r.Picks.length ≤ 200) && r.Picks.all (fun x => inr x 0 999)
 ·have e : isG p r = false := by unfold isG; rw [hp]; simp
  exact ⟨false, by simp [e], by simp [e], by simp⟩
 exact ⟨true, by simp [Xhj hg H htl hp], fun _ => rfl, by simp [htl]⟩
theorem Xl3 {p : Qag} {r : Qbx} (hip : Qfd p = some (Qje p)) (H : IsH p r) : Qlf p r = some (Qje p && isG p r) := by
 obtain ⟨o, e2, e3, _⟩ := Xhv hip H
 rw [Qlf, e2]
 cases h : Qje p && isG p r
 ·simp
 ·simp [e3 h]
theorem Xke {p : Qag} {r : Qbx} (hg : Qje p = true) (H : IsH p r) (h : isG p r = true) : ∃ (R : Qbx) (s : Qa1), Xdw p s R.Picks R.Trace R.End ∧ Qga p = some s ∧ Qgd p = some s ∧ Quq R r = true ∧ RG p R.End ∧ R.Trace.length ≤ 200 := by
 have h0 := h
 unfold isG at h
 rw [Bool.and_eq_true, Bool.and_eq_true] at h
 obtain ⟨_, hp, hs⟩ := h
 obtain ⟨R, s, r1, r2, r3, r4, r5, r6, r7, r8⟩ := Xfa hg H hp
 rw [r1] at hs
 exact ⟨R, s, r8, r6, r7, hs, r5, r3⟩
end Go.Proofs.YtemmdkcpcjidmaaGreat
