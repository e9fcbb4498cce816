/- Plain facts for FnExactIsRun; no condition. -/

import Derived.Test.YtemmdkcpcjidmaaGreatSS
set_option linter.unusedVariables false
set_option linter.unusedSimpArgs false
namespace Go.Proofs.YtemmdkcpcjidmaaGreat
open Go Go.T
theorem Xn4 {p : Qah} {s : Qa1} (h : RG p s) : SB s := by
 obtain ⟨a, b, c, d⟩ := h.sc
 exact ⟨by omega, by omega, by omega, fun t ht => by have := d t ht; omega, h.cf, fun t ht => (h.th t ht).fl⟩
noncomputable def isG (p : Qah) (r : Qcg) : Bool := decide (r.Trace.length ≤ 200) && ((decide (r.Picks.length ≤ 200) && r.Picks.all (fun x => inr x 0 999)) && Qyl ((Qi3 p r.Picks r.Picks.length).getD Xd9) r)
structure IsH (p : Qah) (r : Qcg) : Prop where
 hv : ∀ q ∈ p.Routines, ∀ o ∈ q, o.V < 18446744073709551616
 ht : r.Trace.length ≤ 1048576
 hk : r.Picks.length ≤ 1048576
 hb : SB r.End
theorem Xih {p : Qah} {r : Qcg} (hg : Qlg p = true) (H : IsH p r) (hp : (decide (r.Picks.length ≤ 200) && r.Picks.all (fun x => inr x 0 999)) = true) :
  ∃ (R : Qcg) (s : Qa1), Qi3 p r.Picks r.Picks.length = some R ∧ Qgb p r.Picks r.Picks.length = some R ∧ R.Trace.length ≤ 200 ∧ R.Picks.length ≤ 200 ∧ RG p R.End ∧ Qhc p = some s ∧ Qh1 p = some s ∧ Xi4 p s R.Picks R.Trace R.End := by
 simp only [Bool.and_eq_true, decide_eq_true_eq, List.all_eq_true] at hp
 exact Xa9 hg H.hv (m := r.Picks.length) hp.1 (fun x hx => (Qc9.1 (hp.2 x hx)).1) hp.1
theorem Xj1 {p : Qah} {r : Qcg} (hg : Qlg p = true) (H : IsH p r) : Qmz p r = some (isG p r) := by
 rw [Qmz, Xfi H.hk]
 unfold isG
 by_cases htl : r.Trace.length ≤ 200
 case neg =>
  have c1 : decide ((r.Trace.length : Int) ≤ 200) = false := by simp; omega
  simp [c1, htl]
 have c1 : decide ((r.Trace.length : Int) ≤ 200) = true := by simp; omega
 have c2 : decide (r.Trace.length ≤ 200) = true := by simpa using htl
 simp only [c1, c2, if_true, Option.bind_some, Bool.true_and]
 cases hp : decide (r.Picks.length ≤ 200) && r.Picks.all (fun x => inr x 0 999)
 ·simp
 obtain ⟨R, s, r1, r2, r3, r4, r5, _⟩ := Xih hg H hp
 have eR : (Qcg.mk R.Code R.Trace R.Picks (Qa1.mk R.End.Threads R.End.Cells R.End.Owner R.End.Fault)) = R := rfl
 simp only [r1, Option.bind_some, eR, s_run (a := R) (b := r) (by omega) (by omega) (Xn4 r5) H.hb, if_true, Option.getD_some, Bool.true_and]
theorem Xhr {p : Qah} {r : Qcg} (hg : Qlg p = true) (H : IsH p r) (htl : r.Trace.length ≤ 200) (hp : (decide (r.Picks.length ≤ 200) && r.Picks.all (fun x => inr x 0 999)) = true) : Qhg p r = some (isG p r, true) := by
 obtain ⟨R, s, r1, r2, r3, r4, r5, _⟩ := Xih hg H hp
 have eR : (Qcg.mk R.Code R.Trace R.Picks (Qa1.mk R.End.Threads R.End.Cells R.End.Owner R.End.Fault)) = R := rfl
 have c2 : decide (r.Trace.length ≤ 200) = true := by simpa using htl
 unfold isG
 simp only [Qhg, r1, r2, Option.bind_some, eR, i_run (a := R) (b := r) (by omega) (by omega) (Xn4 r5), c2, hp, Option.getD_some, Bool.true_and]
theorem Xl5 {p : Qah} {r : Qcg} (hsp : Qge p = some (Qlg p)) (hip : Qgf p = some (Qlg p)) (H : IsH p r) :
  ∃ o : Bool, Qjg p r = some (Qlg p && isG p r, o) ∧ Qjj p r = some (Qlg p && isG p r, o) ∧ ((Qlg p && isG p r) = true → o = true) := by
 rw [Qjg, Qjj, hsp, hip, Xfi H.hk]
 cases hg : Qlg p
 ·exact ⟨false, by simp, by simp, by simp⟩
 simp only [Option.bind_some, Xh5 H.hk, Bool.not_true, Bool.false_eq_true, if_false, Bool.true_and, Xj1 hg H]
 by_cases htl : r.Trace.length ≤ 200
 case neg =>
  have c1 : decide ((r.Trace.length : Int) > 200) = true := by simp; omega
  have e : isG p r = false := by unfold isG; simp [htl]
  exact ⟨false, by simp [c1, e], by simp [c1, e], by simp [e]⟩
 have c1 : decide ((r.Trace.length : Int) > 200) = false := by simp; omega
 simp only [c1, Bool.false_eq_true, if_false]
 cases hp : decide (r.Picks.length ≤ 200) && r.Picks.all (fun x => inr x 0 999)
 ·have e : isG p r = false := by unfold isG; rw [hp]; simp
  exact ⟨false, by simp [e], by simp [e], by simp [e]⟩
 exact ⟨true, by simp, by simp [Xhr hg H htl hp], fun _ => rfl⟩
end Go.Proofs.YtemmdkcpcjidmaaGreat
