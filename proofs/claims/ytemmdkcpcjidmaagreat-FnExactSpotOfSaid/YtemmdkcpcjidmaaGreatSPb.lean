/- Plain facts for FnExactSpotOf; no condition. -/

import Derived.Test.YtemmdkcpcjidmaaGreatQFnExactSpotOf
set_option linter.unusedVariables false
namespace Go.Proofs.YtemmdkcpcjidmaaGreat
open Go Go.T
theorem sb_of {s : Qa1} (hw : Qss s) (hs : Quv s) : SB s := by
 obtain ⟨⟨a, b⟩, c, d⟩ := hs
 obtain ⟨⟨_, w1⟩, ⟨_, w2⟩, _⟩ := hw
 have c : s.Cells.length ≤ 1048576 := c
 have d : s.Owner.length ≤ 1048576 := d
 refine ⟨by omega, by omega, by omega, fun t ht => ?_, w2, fun t ht => ?_⟩
 ·have : t.Stack.length ≤ 1048576 := b t ht
  omega
 ·exact (w1 t ht).2.2.2.2.2.2
theorem Xo4 {x0 : Qag} {x1 : Qbx} (g0 : Qom x0) (g1 : Qyy x1) (sm1 : Xg5 x1) : IsH x0 x1 := by
 obtain ⟨t1, t2, t3⟩ := sm1
 exact ⟨fun r hr o ho => ((g0.2.2.2.2 r hr).2 o ho).2.2.2, t1, t2, sb_of g1.2.2.2 t3⟩
theorem Xc1 (x0 : Qag) (x1 : Qbx) (x2 : Int) (g0 : Qom x0) (g1 : Qyy x1) (g2 : (Lit.int .i64 x2).wf = true) : Qee x0 x1 x2 = some true := by
 refine Qwc x0 x1 x2 g0 g1 g2 fun sm0 sm1 => ?_
 have H := Xo4 g0 g1 sm1
 have hsp := Qx1 sm0 g0
 have hip := Qxi (p := x0) sm0
 rw [Qk5, Qjr, Xl3 hip H, hsp]
 cases hg : Qje x0
 ·exact ⟨(0, false), by simp, by simp⟩
 simp only [Option.bind_some, Bool.not_true, Bool.false_eq_true, if_false, Bool.true_and, Xlt hg H]
 cases hi : isG x0 x1
 ·exact ⟨(0, false), by simp, by simp⟩
 obtain ⟨R, s, hP, _, _, hs, _, hl⟩ := Xke hg H hi
 unfold Quq at hs
 simp only [Bool.and_eq_true, decide_eq_true_eq] at hs
 obtain ⟨_, hT, _, hE⟩ := hs
 unfold Qw8 at hE
 have hEl : R.End.Threads.length = x1.End.Threads.length := by
  apply Classical.byContradiction
  intro hne
  rw [Qif hne, Bool.false_and] at hE
  cases hE
 have hlt : x1.Trace.length ≤ 200 := by rw [← hT]; exact hl
 have w0 : w64 ((x1.Trace.length : Int) - 1) = (x1.Trace.length : Int) - 1 := Qgv (by omega)
 simp only [Bool.not_true, Bool.false_eq_true, if_false, Qhw, w0, Qjc, Qjq, Option.bind_some]
 cases hr : inr x2 0 ((x1.Trace.length : Int) - 1)
 ·exact ⟨(0, false), by simp, by simp⟩
 have hr' := Qc4.1 hr
 have hx : rd x1.Trace x2 = some x1.Trace[x2.toNat] := Qwd hr'.1 (List.getElem?_eq_getElem (by omega))
 obtain ⟨t0, t1⟩ := hP.thr x1.Trace[x2.toNat] (by rw [hT]; exact List.getElem_mem _)
 have hy : rd x1.End.Threads x1.Trace[x2.toNat].Thread = some x1.End.Threads[x1.Trace[x2.toNat].Thread.toNat] := Qwd t0 (List.getElem?_eq_getElem (by omega))
 refine ⟨(w64 (w64 (100 * x1.End.Threads[x1.Trace[x2.toNat].Thread.toNat].Routine) + x1.Trace[x2.toNat].Pc), true), ?_, ?_⟩
 ·simp [Qkt, hx, hy]
 ·simp [Qie, Qoz, hx, hy]
end Go.Proofs.YtemmdkcpcjidmaaGreat
