/- Plain facts for FnExactOrderOf; no condition. -/

import Derived.Test.YtjcaompblpglcaaL2
set_option linter.unusedVariables false
namespace Go.Proofs.Ytjcaompblpglcaa
open Go Go.T
def Qet (p : List Qa0) (i : Nat) : Qa0 := p[i]?.getD ⟨0, 0, 0, 0, 0⟩
theorem Qlp {p : List Qa0} {i : Nat} (h : i < p.length) : rd p (i : Int) = some (Qet p i) := by rw [Qdm h]; simp [Qet, h]
theorem Qhu {p : List Qa0} {i : Nat} (hg : p.all Qdl = true) (h : i < p.length) : Qdl (Qet p i) = true := by
 have : Qet p i = p[i] := by simp [Qet, h]
 rw [this]
 exact List.all_eq_true.1 hg _ (List.getElem_mem h)
def Qbt (e : Qa0) : Int := if e.Kind = 5 then e.Obj else if e.Kind = 8 then e.Lock else -2
def Qas (e : Qa0) : Int := if e.Kind = 4 then e.Obj else if e.Kind = 9 then e.Lock else -3
end Go.Proofs.Ytjcaompblpglcaa
