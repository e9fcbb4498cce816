/-
  No cell of these rows narrows 'for every input' (looked for: loops, veiled, ifaces, maps, wideKeys, modest, calm, conditions, laid).
  DERIVED. THE GIVEN ROWS OF THIS SEAT. 6 by the template 'for every input the law returns true; each argument reads behind the call as it read before'; 0 by the template 'total and deterministic' (their statements: YtemmdkcpcjidmaaGreatTotals.lean).
  GIVEN WITH THE SEED: the statements are not yours to turn. If you find one false, say at which input.
  Laid BY PROGRAM, IN A SANDBOX (cutbox-rows.mjs): the forced cells as the released guide's own fill.sh prints them over the translation 56352cfdbd76cf50… (all of the seat's roots in one cut). By AI agents, Wed Nov 11 2026. No macro, syntax, notation, axiom, sorry.
-/
import Derived.Test.YtemmdkcpcjidmaaGreatChecked
import GoSem.Claim
import GoSem.ClaimJoined
import GoSem.ClaimMapViews
import Derived.JoinedTies
import Derived.KernelRfl
namespace Go.Proofs.YtemmdkcpcjidmaaGreat
/- THE CELL 'sum', in the pinned program and in every row, IS THE sha256 OF THE DUMP (.gsa) THAT YtemmdkcpcjidmaaGreatProg.lean LOADS. Nothing in Lean hashes anything: it is a label: what it is worth is what the hold of that sum in a sandbox is worth. -/
noncomputable def Tryz.pinned : Pinned := { name := "ytemmdkcpcjidmaagreat", sum := "56352cfdbd76cf5082689b2ce5d60e28f0b5e81379c99d5ef86fdf65bee72739", checked := Tryz.checked }
namespace Rows
def none {H : Type} : Left H := { results := [], args := [] }

/-- 'laws.FnExactIsRun': WHATEVER THE INPUT: true; the input reads as it did. -/
def fnExactIsRunSpec : ChangeSpec := { name := "fnExactIsRun", fn := fun _ => fun
  | [d1, d2] => { results := [.lit (.bool true)], args := [d1, d2] }
  | _ => none }
def fnExactIsRunRow : OpenClaim := { program := "ytemmdkcpcjidmaagreat", sum := "56352cfdbd76cf5082689b2ce5d60e28f0b5e81379c99d5ef86fdf65bee72739", func := "loop.example/g00696/laws.FnExactIsRun", spec := "fnExactIsRun", inPlace := ["math.Float64bits", "math.Float64frombits", "math.archTrunc"], unfollowed := true, recurses := true, apart := false }
def FnExactIsRunSaid : Prop := fnExactIsRunRow.holds Tryz.pinned (OpenSpec.ofChange fnExactIsRunSpec)

/-- ITS FALSE NEIGHBOUR: 'it returns false'. Refute it at one input. -/
def fnExactIsRunWrong : ChangeSpec := { name := "fnExactIsRun", fn := fun _ => fun
  | [d1, d2] => { results := [.lit (.bool false)], args := [d1, d2] }
  | _ => none }
def FnExactIsRunWrongFalsely : Prop := fnExactIsRunRow.holds Tryz.pinned (OpenSpec.ofChange fnExactIsRunWrong)

/-- 'laws.FnExactSpotOf': WHATEVER THE INPUT: true; the input reads as it did. -/
def fnExactSpotOfSpec : ChangeSpec := { name := "fnExactSpotOf", fn := fun _ => fun
  | [d1, d2, d3] => { results := [.lit (.bool true)], args := [d1, d2, d3] }
  | _ => none }
def fnExactSpotOfRow : OpenClaim := { program := "ytemmdkcpcjidmaagreat", sum := "56352cfdbd76cf5082689b2ce5d60e28f0b5e81379c99d5ef86fdf65bee72739", func := "loop.example/g00696/laws.FnExactSpotOf", spec := "fnExactSpotOf", inPlace := ["math.Float64bits", "math.Float64frombits", "math.archTrunc"], unfollowed := true, recurses := true, apart := false }
def FnExactSpotOfSaid : Prop := fnExactSpotOfRow.holds Tryz.pinned (OpenSpec.ofChange fnExactSpotOfSpec)

/-- ITS FALSE NEIGHBOUR: 'it returns false'. Refute it at one input. -/
def fnExactSpotOfWrong : ChangeSpec := { name := "fnExactSpotOf", fn := fun _ => fun
  | [d1, d2, d3] => { results := [.lit (.bool false)], args := [d1, d2, d3] }
  | _ => none }
def FnExactSpotOfWrongFalsely : Prop := fnExactSpotOfRow.holds Tryz.pinned (OpenSpec.ofChange fnExactSpotOfWrong)

/-- 'laws.FnExactPreemptsIn': WHATEVER THE INPUT: true; the input reads as it did. -/
def fnExactPreemptsInSpec : ChangeSpec := { name := "fnExactPreemptsIn", fn := fun _ => fun
  | [d1, d2] => { results := [.lit (.bool true)], args := [d1, d2] }
  | _ => none }
def fnExactPreemptsInRow : OpenClaim := { program := "ytemmdkcpcjidmaagreat", sum := "56352cfdbd76cf5082689b2ce5d60e28f0b5e81379c99d5ef86fdf65bee72739", func := "loop.example/g00696/laws.FnExactPreemptsIn", spec := "fnExactPreemptsIn", inPlace := ["math.Float64bits", "math.Float64frombits", "math.archTrunc"], unfollowed := true, recurses := true, apart := false }
def FnExactPreemptsInSaid : Prop := fnExactPreemptsInRow.holds Tryz.pinned (OpenSpec.ofChange fnExactPreemptsInSpec)

/-- ITS FALSE NEIGHBOUR: 'it returns false'. Refute it at one input. -/
def fnExactPreemptsInWrong : ChangeSpec := { name := "fnExactPreemptsIn", fn := fun _ => fun
  | [d1, d2] => { results := [.lit (.bool false)], args := [d1, d2] }
  | _ => none }
def FnExactPreemptsInWrongFalsely : Prop := fnExactPreemptsInRow.holds Tryz.pinned (OpenSpec.ofChange fnExactPreemptsInWrong)

/-- 'laws.FnStep': WHATEVER THE INPUT: true; the input reads as it did. -/
def fnStepSpec : ChangeSpec := { name := "fnStep", fn := fun _ => fun
  | [d1, d2] => { results := [.lit (.bool true)], args := [d1, d2] }
  | _ => none }
def fnStepRow : OpenClaim := { program := "ytemmdkcpcjidmaagreat", sum := "56352cfdbd76cf5082689b2ce5d60e28f0b5e81379c99d5ef86fdf65bee72739", func := "loop.example/g00696/laws.FnStep", spec := "fnStep", inPlace := ["math.Float64bits", "math.Float64frombits", "math.archTrunc"], unfollowed := true, recurses := true, apart := false }
def FnStepSaid : Prop := fnStepRow.holds Tryz.pinned (OpenSpec.ofChange fnStepSpec)

/-- ITS FALSE NEIGHBOUR: 'it returns false'. Refute it at one input. -/
def fnStepWrong : ChangeSpec := { name := "fnStep", fn := fun _ => fun
  | [d1, d2] => { results := [.lit (.bool false)], args := [d1, d2] }
  | _ => none }
def FnStepWrongFalsely : Prop := fnStepRow.holds Tryz.pinned (OpenSpec.ofChange fnStepWrong)

/-- 'laws.FnRun': WHATEVER THE INPUT: true; the input reads as it did. -/
def fnRunSpec : ChangeSpec := { name := "fnRun", fn := fun _ => fun
  | [d1, d2] => { results := [.lit (.bool true)], args := [d1, d2] }
  | _ => none }
def fnRunRow : OpenClaim := { program := "ytemmdkcpcjidmaagreat", sum := "56352cfdbd76cf5082689b2ce5d60e28f0b5e81379c99d5ef86fdf65bee72739", func := "loop.example/g00696/laws.FnRun", spec := "fnRun", inPlace := ["math.Float64bits", "math.Float64frombits", "math.archTrunc"], unfollowed := true, recurses := true, apart := false }
def FnRunSaid : Prop := fnRunRow.holds Tryz.pinned (OpenSpec.ofChange fnRunSpec)

/-- ITS FALSE NEIGHBOUR: 'it returns false'. Refute it at one input. -/
def fnRunWrong : ChangeSpec := { name := "fnRun", fn := fun _ => fun
  | [d1, d2] => { results := [.lit (.bool false)], args := [d1, d2] }
  | _ => none }
def FnRunWrongFalsely : Prop := fnRunRow.holds Tryz.pinned (OpenSpec.ofChange fnRunWrong)

/-- 'laws.FnSwapped': WHATEVER THE INPUT: true; the input reads as it did. -/
def fnSwappedSpec : ChangeSpec := { name := "fnSwapped", fn := fun _ => fun
  | [d1, d2] => { results := [.lit (.bool true)], args := [d1, d2] }
  | _ => none }
def fnSwappedRow : OpenClaim := { program := "ytemmdkcpcjidmaagreat", sum := "56352cfdbd76cf5082689b2ce5d60e28f0b5e81379c99d5ef86fdf65bee72739", func := "loop.example/g00696/laws.FnSwapped", spec := "fnSwapped", inPlace := ["math.Float64bits", "math.Float64frombits", "math.archTrunc"], unfollowed := true, recurses := true, apart := false }
def FnSwappedSaid : Prop := fnSwappedRow.holds Tryz.pinned (OpenSpec.ofChange fnSwappedSpec)

/-- ITS FALSE NEIGHBOUR: 'it returns false'. Refute it at one input. -/
def fnSwappedWrong : ChangeSpec := { name := "fnSwapped", fn := fun _ => fun
  | [d1, d2] => { results := [.lit (.bool false)], args := [d1, d2] }
  | _ => none }
def FnSwappedWrongFalsely : Prop := fnSwappedRow.holds Tryz.pinned (OpenSpec.ofChange fnSwappedWrong)

/- THE SECOND FORM. 'bulk': how many values and letters a reading holds, each counted each time it is reached (what is shared counts as often as it is met; a slice's spare places count too). A statement '..UptoSaid' is the law's where the arguments, and the package variables that the reading takes, are together of bulk at most 1048576: NARROWER than '..Said'. Prove '..Said' where nothing that the law and all that it calls make is longer than what came in: it says more and counts as full. Else prove '..UptoSaid'. A law counts once. -/
mutual
def uptoBulk {H : Type} : DataW H → Nat
  | .lit (.string bytes) => bytes.length + 1
  | .lit _ => 1
  | .nil => 1
  | .ptr d => uptoBulk d + 1
  | .slice elems spare => uptoBulkAll elems + uptoBulkAll spare + 1
  | .agg parts => uptoBulkAll parts + 1
  | .iface _ d => uptoBulk d + 1
  | .map entries => uptoBulkEntries entries + 1
  | .held _ => 1
def uptoBulkAll {H : Type} : List (DataW H) → Nat
  | [] => 0
  | d :: r => uptoBulk d + uptoBulkAll r
def uptoBulkEntries {H : Type} : List (Lit × DataW H) → Nat
  | [] => 0
  | x :: r => uptoBulkEntry x + uptoBulkEntries r
def uptoBulkEntry {H : Type} : Lit × DataW H → Nat
  | (.string bytes, d) => bytes.length + uptoBulk d + 1
  | (_, d) => uptoBulk d + 1
 end
def uptoSmall : (H : Type) → List (DataW H) → Bool := fun _ ds => decide (uptoBulkAll ds ≤ 1048576)
def OpenSpec.upto (s : _root_.Go.ChangeSpec) : _root_.Go.OpenSpec := { _root_.Go.OpenSpec.ofChange s with cond := some uptoSmall }

/-- 'laws.FnExactIsRun', WHERE WHAT IT READS IS OF BULK AT MOST 1048576: true; the input reads as it did. -/
def fnExactIsRunUptoRow : OpenClaim := { program := "ytemmdkcpcjidmaagreat", sum := "56352cfdbd76cf5082689b2ce5d60e28f0b5e81379c99d5ef86fdf65bee72739", func := "loop.example/g00696/laws.FnExactIsRun", spec := "fnExactIsRun", inPlace := ["math.Float64bits", "math.Float64frombits", "math.archTrunc"], unfollowed := true, recurses := true, apart := false, narrowed := true }
def FnExactIsRunUptoSaid : Prop := fnExactIsRunUptoRow.holds Tryz.pinned (OpenSpec.upto fnExactIsRunSpec)

/-- 'laws.FnExactSpotOf', WHERE WHAT IT READS IS OF BULK AT MOST 1048576: true; the input reads as it did. -/
def fnExactSpotOfUptoRow : OpenClaim := { program := "ytemmdkcpcjidmaagreat", sum := "56352cfdbd76cf5082689b2ce5d60e28f0b5e81379c99d5ef86fdf65bee72739", func := "loop.example/g00696/laws.FnExactSpotOf", spec := "fnExactSpotOf", inPlace := ["math.Float64bits", "math.Float64frombits", "math.archTrunc"], unfollowed := true, recurses := true, apart := false, narrowed := true }
def FnExactSpotOfUptoSaid : Prop := fnExactSpotOfUptoRow.holds Tryz.pinned (OpenSpec.upto fnExactSpotOfSpec)

/-- 'laws.FnExactPreemptsIn', WHERE WHAT IT READS IS OF BULK AT MOST 1048576: true; the input reads as it did. -/
def fnExactPreemptsInUptoRow : OpenClaim := { program := "ytemmdkcpcjidmaagreat", sum := "56352cfdbd76cf5082689b2ce5d60e28f0b5e81379c99d5ef86fdf65bee72739", func := "loop.example/g00696/laws.FnExactPreemptsIn", spec := "fnExactPreemptsIn", inPlace := ["math.Float64bits", "math.Float64frombits", "math.archTrunc"], unfollowed := true, recurses := true, apart := false, narrowed := true }
def FnExactPreemptsInUptoSaid : Prop := fnExactPreemptsInUptoRow.holds Tryz.pinned (OpenSpec.upto fnExactPreemptsInSpec)

/-- 'laws.FnStep', WHERE WHAT IT READS IS OF BULK AT MOST 1048576: true; the input reads as it did. -/
def fnStepUptoRow : OpenClaim := { program := "ytemmdkcpcjidmaagreat", sum := "56352cfdbd76cf5082689b2ce5d60e28f0b5e81379c99d5ef86fdf65bee72739", func := "loop.example/g00696/laws.FnStep", spec := "fnStep", inPlace := ["math.Float64bits", "math.Float64frombits", "math.archTrunc"], unfollowed := true, recurses := true, apart := false, narrowed := true }
def FnStepUptoSaid : Prop := fnStepUptoRow.holds Tryz.pinned (OpenSpec.upto fnStepSpec)

/-- 'laws.FnRun', WHERE WHAT IT READS IS OF BULK AT MOST 1048576: true; the input reads as it did. -/
def fnRunUptoRow : OpenClaim := { program := "ytemmdkcpcjidmaagreat", sum := "56352cfdbd76cf5082689b2ce5d60e28f0b5e81379c99d5ef86fdf65bee72739", func := "loop.example/g00696/laws.FnRun", spec := "fnRun", inPlace := ["math.Float64bits", "math.Float64frombits", "math.archTrunc"], unfollowed := true, recurses := true, apart := false, narrowed := true }
def FnRunUptoSaid : Prop := fnRunUptoRow.holds Tryz.pinned (OpenSpec.upto fnRunSpec)

/-- 'laws.FnSwapped', WHERE WHAT IT READS IS OF BULK AT MOST 1048576: true; the input reads as it did. -/
def fnSwappedUptoRow : OpenClaim := { program := "ytemmdkcpcjidmaagreat", sum := "56352cfdbd76cf5082689b2ce5d60e28f0b5e81379c99d5ef86fdf65bee72739", func := "loop.example/g00696/laws.FnSwapped", spec := "fnSwapped", inPlace := ["math.Float64bits", "math.Float64frombits", "math.archTrunc"], unfollowed := true, recurses := true, apart := false, narrowed := true }
def FnSwappedUptoSaid : Prop := fnSwappedUptoRow.holds Tryz.pinned (OpenSpec.upto fnSwappedSpec)

end Rows
end Go.Proofs.YtemmdkcpcjidmaaGreat
