/-
  No cell of these rows narrows 'for every input' (looked for: loops, veiled, ifaces, maps, wideKeys, modest, calm, conditions, laid).
  DERIVED. THE GIVEN ROWS OF THIS SEAT. 5 by the template 'for every input the law returns true; each argument reads behind the call as it read before'; 0 by the template 'total and deterministic' (their statements: YtgofeoobgpadiaaTotals.lean).
  GIVEN WITH THE SEED: the statements are not yours to turn. If you find one false, say at which input.
  Laid BY PROGRAM, IN A SANDBOX (cutbox-rows.mjs): the forced cells as the released guide's own fill.sh prints them over the translation 4cda951175fee54a… (all of the seat's roots in one cut). By AI agents, Wed Nov 11 2026. No macro, syntax, notation, axiom, sorry.
-/
import Derived.Test.YtgofeoobgpadiaaChecked
import GoSem.Claim
import GoSem.ClaimJoined
import GoSem.ClaimMapViews
import Derived.JoinedTies
import Derived.KernelRfl
namespace Go.Proofs.Ytgofeoobgpadiaa
/- THE CELL 'sum', in the pinned program and in every row, IS THE sha256 OF THE DUMP (.gsa) THAT YtgofeoobgpadiaaProg.lean LOADS. Nothing in Lean hashes anything: it is a label: what it is worth is what the hold of that sum in a sandbox is worth. -/
noncomputable def Try.pinned : Pinned := { name := "ytgofeoobgpadiaa", sum := "4cda951175fee54a4c3744e8fa2e0050635b1f19ae510db1f85ea66be35c16b3", checked := Try.checked }
namespace Rows
def none {H : Type} : Left H := { results := [], args := [] }

/-- 'laws.FnExactGoodState': WHATEVER THE INPUT: true; the input reads as it did. -/
def fnExactGoodStateSpec : ChangeSpec := { name := "fnExactGoodState", fn := fun _ => fun
  | [d1, d2] => { results := [.lit (.bool true)], args := [d1, d2] }
  | _ => none }
def fnExactGoodStateRow : OpenClaim := { program := "ytgofeoobgpadiaa", sum := "4cda951175fee54a4c3744e8fa2e0050635b1f19ae510db1f85ea66be35c16b3", func := "loop.example/g00696/laws.FnExactGoodState", spec := "fnExactGoodState", inPlace := ["math.Float64bits"], unfollowed := true, recurses := true, apart := false }
def FnExactGoodStateSaid : Prop := fnExactGoodStateRow.holds Try.pinned (OpenSpec.ofChange fnExactGoodStateSpec)

/-- ITS FALSE NEIGHBOUR: 'it returns false'. Refute it at one input. -/
def fnExactGoodStateWrong : ChangeSpec := { name := "fnExactGoodState", fn := fun _ => fun
  | [d1, d2] => { results := [.lit (.bool false)], args := [d1, d2] }
  | _ => none }
def FnExactGoodStateWrongFalsely : Prop := fnExactGoodStateRow.holds Try.pinned (OpenSpec.ofChange fnExactGoodStateWrong)

/-- 'laws.FnExactNewState': WHATEVER THE INPUT: true; the input reads as it did. -/
def fnExactNewStateSpec : ChangeSpec := { name := "fnExactNewState", fn := fun _ => fun
  | [d] => { results := [.lit (.bool true)], args := [d] }
  | _ => none }
def fnExactNewStateRow : OpenClaim := { program := "ytgofeoobgpadiaa", sum := "4cda951175fee54a4c3744e8fa2e0050635b1f19ae510db1f85ea66be35c16b3", func := "loop.example/g00696/laws.FnExactNewState", spec := "fnExactNewState", inPlace := ["math.Float64bits"], unfollowed := true, recurses := true, apart := false }
def FnExactNewStateSaid : Prop := fnExactNewStateRow.holds Try.pinned (OpenSpec.ofChange fnExactNewStateSpec)

/-- ITS FALSE NEIGHBOUR: 'it returns false'. Refute it at one input. -/
def fnExactNewStateWrong : ChangeSpec := { name := "fnExactNewState", fn := fun _ => fun
  | [d] => { results := [.lit (.bool false)], args := [d] }
  | _ => none }
def FnExactNewStateWrongFalsely : Prop := fnExactNewStateRow.holds Try.pinned (OpenSpec.ofChange fnExactNewStateWrong)

/-- 'laws.FnExactEnabledIn': WHATEVER THE INPUT: true; the input reads as it did. -/
def fnExactEnabledInSpec : ChangeSpec := { name := "fnExactEnabledIn", fn := fun _ => fun
  | [d1, d2] => { results := [.lit (.bool true)], args := [d1, d2] }
  | _ => none }
def fnExactEnabledInRow : OpenClaim := { program := "ytgofeoobgpadiaa", sum := "4cda951175fee54a4c3744e8fa2e0050635b1f19ae510db1f85ea66be35c16b3", func := "loop.example/g00696/laws.FnExactEnabledIn", spec := "fnExactEnabledIn", inPlace := ["math.Float64bits", "math.Float64frombits", "math.archTrunc"], unfollowed := true, recurses := true, apart := false }
def FnExactEnabledInSaid : Prop := fnExactEnabledInRow.holds Try.pinned (OpenSpec.ofChange fnExactEnabledInSpec)

/-- ITS FALSE NEIGHBOUR: 'it returns false'. Refute it at one input. -/
def fnExactEnabledInWrong : ChangeSpec := { name := "fnExactEnabledIn", fn := fun _ => fun
  | [d1, d2] => { results := [.lit (.bool false)], args := [d1, d2] }
  | _ => none }
def FnExactEnabledInWrongFalsely : Prop := fnExactEnabledInRow.holds Try.pinned (OpenSpec.ofChange fnExactEnabledInWrong)

/-- 'laws.FnExactSpawnsIn': WHATEVER THE INPUT: true; the input reads as it did. -/
def fnExactSpawnsInSpec : ChangeSpec := { name := "fnExactSpawnsIn", fn := fun _ => fun
  | [d] => { results := [.lit (.bool true)], args := [d] }
  | _ => none }
def fnExactSpawnsInRow : OpenClaim := { program := "ytgofeoobgpadiaa", sum := "4cda951175fee54a4c3744e8fa2e0050635b1f19ae510db1f85ea66be35c16b3", func := "loop.example/g00696/laws.FnExactSpawnsIn", spec := "fnExactSpawnsIn", inPlace := ["math.Float64bits"], unfollowed := true, recurses := true, apart := false }
def FnExactSpawnsInSaid : Prop := fnExactSpawnsInRow.holds Try.pinned (OpenSpec.ofChange fnExactSpawnsInSpec)

/-- ITS FALSE NEIGHBOUR: 'it returns false'. Refute it at one input. -/
def fnExactSpawnsInWrong : ChangeSpec := { name := "fnExactSpawnsIn", fn := fun _ => fun
  | [d] => { results := [.lit (.bool false)], args := [d] }
  | _ => none }
def FnExactSpawnsInWrongFalsely : Prop := fnExactSpawnsInRow.holds Try.pinned (OpenSpec.ofChange fnExactSpawnsInWrong)

/-- 'laws.FnExactWaitsFor': WHATEVER THE INPUT: true; the input reads as it did. -/
def fnExactWaitsForSpec : ChangeSpec := { name := "fnExactWaitsFor", fn := fun _ => fun
  | [d1, d2] => { results := [.lit (.bool true)], args := [d1, d2] }
  | _ => none }
def fnExactWaitsForRow : OpenClaim := { program := "ytgofeoobgpadiaa", sum := "4cda951175fee54a4c3744e8fa2e0050635b1f19ae510db1f85ea66be35c16b3", func := "loop.example/g00696/laws.FnExactWaitsFor", spec := "fnExactWaitsFor", inPlace := ["math.Float64bits", "math.Float64frombits", "math.archTrunc"], unfollowed := true, recurses := true, apart := false }
def FnExactWaitsForSaid : Prop := fnExactWaitsForRow.holds Try.pinned (OpenSpec.ofChange fnExactWaitsForSpec)

/-- ITS FALSE NEIGHBOUR: 'it returns false'. Refute it at one input. -/
def fnExactWaitsForWrong : ChangeSpec := { name := "fnExactWaitsFor", fn := fun _ => fun
  | [d1, d2] => { results := [.lit (.bool false)], args := [d1, d2] }
  | _ => none }
def FnExactWaitsForWrongFalsely : Prop := fnExactWaitsForRow.holds Try.pinned (OpenSpec.ofChange fnExactWaitsForWrong)

/- THE SECOND FORM. 'bulk': how many values and letters a reading holds, each counted each time it is reached (what is shared counts as often as it is met; a slice's spare places count too). A statement '..UptoSaid' is the law's where the arguments, and the package variables that the reading takes, are together of bulk at most 1048576: NARROWER than '..Said'. Prove '..Said' where nothing that the law and all that it calls make is longer than what came in: it says more and counts as full. Else prove '..UptoSaid'. A law counts once. -/
mutual
def uptoBulk {H : Type} : DataW H → Nat
  | .lit (.string bytes) => bytes.length + 1
  | .lit _ => 1
  | .nil => 1
  | .ptr d => uptoBulk d + 1
  | .slice elems spare => uptoBulkAll elems + uptoBulkAll spare + 1
  | .agg parts => uptoBulkAll parts + 1
  | .iface _ d => uptoBulk d + 1
  | .map entries => uptoBulkEntries entries + 1
  | .held _ => 1
def uptoBulkAll {H : Type} : List (DataW H) → Nat
  | [] => 0
  | d :: r => uptoBulk d + uptoBulkAll r
def uptoBulkEntries {H : Type} : List (Lit × DataW H) → Nat
  | [] => 0
  | x :: r => uptoBulkEntry x + uptoBulkEntries r
def uptoBulkEntry {H : Type} : Lit × DataW H → Nat
  | (.string bytes, d) => bytes.length + uptoBulk d + 1
  | (_, d) => uptoBulk d + 1
 end
def uptoSmall : (H : Type) → List (DataW H) → Bool := fun _ ds => decide (uptoBulkAll ds ≤ 1048576)
def OpenSpec.upto (s : _root_.Go.ChangeSpec) : _root_.Go.OpenSpec := { _root_.Go.OpenSpec.ofChange s with cond := some uptoSmall }

/-- 'laws.FnExactGoodState', WHERE WHAT IT READS IS OF BULK AT MOST 1048576: true; the input reads as it did. -/
def fnExactGoodStateUptoRow : OpenClaim := { program := "ytgofeoobgpadiaa", sum := "4cda951175fee54a4c3744e8fa2e0050635b1f19ae510db1f85ea66be35c16b3", func := "loop.example/g00696/laws.FnExactGoodState", spec := "fnExactGoodState", inPlace := ["math.Float64bits"], unfollowed := true, recurses := true, apart := false, narrowed := true }
def FnExactGoodStateUptoSaid : Prop := fnExactGoodStateUptoRow.holds Try.pinned (OpenSpec.upto fnExactGoodStateSpec)

/-- 'laws.FnExactNewState', WHERE WHAT IT READS IS OF BULK AT MOST 1048576: true; the input reads as it did. -/
def fnExactNewStateUptoRow : OpenClaim := { program := "ytgofeoobgpadiaa", sum := "4cda951175fee54a4c3744e8fa2e0050635b1f19ae510db1f85ea66be35c16b3", func := "loop.example/g00696/laws.FnExactNewState", spec := "fnExactNewState", inPlace := ["math.Float64bits"], unfollowed := true, recurses := true, apart := false, narrowed := true }
def FnExactNewStateUptoSaid : Prop := fnExactNewStateUptoRow.holds Try.pinned (OpenSpec.upto fnExactNewStateSpec)

/-- 'laws.FnExactEnabledIn', WHERE WHAT IT READS IS OF BULK AT MOST 1048576: true; the input reads as it did. -/
def fnExactEnabledInUptoRow : OpenClaim := { program := "ytgofeoobgpadiaa", sum := "4cda951175fee54a4c3744e8fa2e0050635b1f19ae510db1f85ea66be35c16b3", func := "loop.example/g00696/laws.FnExactEnabledIn", spec := "fnExactEnabledIn", inPlace := ["math.Float64bits", "math.Float64frombits", "math.archTrunc"], unfollowed := true, recurses := true, apart := false, narrowed := true }
def FnExactEnabledInUptoSaid : Prop := fnExactEnabledInUptoRow.holds Try.pinned (OpenSpec.upto fnExactEnabledInSpec)

/-- 'laws.FnExactSpawnsIn', WHERE WHAT IT READS IS OF BULK AT MOST 1048576: true; the input reads as it did. -/
def fnExactSpawnsInUptoRow : OpenClaim := { program := "ytgofeoobgpadiaa", sum := "4cda951175fee54a4c3744e8fa2e0050635b1f19ae510db1f85ea66be35c16b3", func := "loop.example/g00696/laws.FnExactSpawnsIn", spec := "fnExactSpawnsIn", inPlace := ["math.Float64bits"], unfollowed := true, recurses := true, apart := false, narrowed := true }
def FnExactSpawnsInUptoSaid : Prop := fnExactSpawnsInUptoRow.holds Try.pinned (OpenSpec.upto fnExactSpawnsInSpec)

/-- 'laws.FnExactWaitsFor', WHERE WHAT IT READS IS OF BULK AT MOST 1048576: true; the input reads as it did. -/
def fnExactWaitsForUptoRow : OpenClaim := { program := "ytgofeoobgpadiaa", sum := "4cda951175fee54a4c3744e8fa2e0050635b1f19ae510db1f85ea66be35c16b3", func := "loop.example/g00696/laws.FnExactWaitsFor", spec := "fnExactWaitsFor", inPlace := ["math.Float64bits", "math.Float64frombits", "math.archTrunc"], unfollowed := true, recurses := true, apart := false, narrowed := true }
def FnExactWaitsForUptoSaid : Prop := fnExactWaitsForUptoRow.holds Try.pinned (OpenSpec.upto fnExactWaitsForSpec)

end Rows
end Go.Proofs.Ytgofeoobgpadiaa
