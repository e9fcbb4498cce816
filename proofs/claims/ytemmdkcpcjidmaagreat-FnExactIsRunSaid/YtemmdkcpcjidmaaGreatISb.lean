/- Plain facts for FnExactIsRun; no condition. -/

import Derived.Test.YtemmdkcpcjidmaaGreatQFnExactIsRun
set_option linter.unusedVariables false
namespace Go.Proofs.YtemmdkcpcjidmaaGreat
open Go Go.T
theorem sb_of {s : Qa1} (hw : Qsm s) (hs : Qu2 s) : SB s := by
 obtain ⟨⟨a, b⟩, c, d⟩ := hs
 obtain ⟨⟨_, w1⟩, ⟨_, w2⟩, _⟩ := hw
 have c : s.Cells.length ≤ 1048576 := c
 have d : s.Owner.length ≤ 1048576 := d
 refine ⟨by omega, by omega, by omega, fun t ht => ?_, w2, fun t ht => ?_⟩
 ·have : t.Stack.length ≤ 1048576 := b t ht
  omega
 ·exact (w1 t ht).2.2.2.2.2.2
theorem Xmm {x0 : Qah} {x1 : Qcg} (g0 : Qoc x0) (g1 : Qys x1) (sm1 : Xcy x1) : IsH x0 x1 := by
 obtain ⟨t1, t2, t3⟩ := sm1
 exact ⟨fun r hr o ho => ((g0.2.2.2.2 r hr).2 o ho).2.2.2, t1, t2, sb_of g1.2.2.2 t3⟩
theorem Xdy (x0 : Qah) (x1 : Qcg) (g0 : Qoc x0) (g1 : Qys x1) : Qex x0 x1 = some true := by
 refine Qyi x0 x1 g0 g1 fun sm0 sm1 => ?_
 obtain ⟨o, e1, e2, _⟩ := Xl5 (p := x0) (r := x1) (Qwl sm0 g0) (Qvz sm0) (Xmm g0 g1 sm1)
 exact ⟨_, e1, e2⟩
end Go.Proofs.YtemmdkcpcjidmaaGreat
