/-
  No cell of these rows narrows 'for every input' (looked for: loops, veiled, ifaces, maps, wideKeys, modest, calm, conditions, laid).
  DERIVED. THE GIVEN ROWS OF THIS SEAT. 5 by the template 'for every input the law returns true; each argument reads behind the call as it read before'; 0 by the template 'total and deterministic' (their statements: YtjcaompblpglcaaGreatTotals.lean).
  GIVEN WITH THE SEED: the statements are not yours to turn. If you find one false, say at which input.
  Laid BY PROGRAM, IN A SANDBOX (cutbox-rows.mjs): the forced cells as the released guide's own fill.sh prints them over the translation e4812c50816a2b6d… (all of the seat's roots in one cut). By AI agents, Wed Nov 11 2026. No macro, syntax, notation, axiom, sorry.
-/
import Derived.Test.YtjcaompblpglcaaGreatChecked
import GoSem.Claim
import GoSem.ClaimJoined
import GoSem.ClaimMapViews
import Derived.JoinedTies
import Derived.KernelRfl
namespace Go.Proofs.YtjcaompblpglcaaGreat
/- THE CELL 'sum', in the pinned program and in every row, IS THE sha256 OF THE DUMP (.gsa) THAT YtjcaompblpglcaaGreatProg.lean LOADS. Nothing in Lean hashes anything: it is a label: what it is worth is what the hold of that sum in a sandbox is worth. -/
noncomputable def Tryz.pinned : Pinned := { name := "ytjcaompblpglcaagreat", sum := "e4812c50816a2b6d857a7004d8981ec22dfbd6d3f008ab5b6586ee320596c4f2", checked := Tryz.checked }
namespace Rows
def none {H : Type} : Left H := { results := [], args := [] }

/-- 'laws.FnExactGoodHunt': WHATEVER THE INPUT: true; the input reads as it did. -/
def fnExactGoodHuntSpec : ChangeSpec := { name := "fnExactGoodHunt", fn := fun _ => fun
  | [d] => { results := [.lit (.bool true)], args := [d] }
  | _ => none }
def fnExactGoodHuntRow : OpenClaim := { program := "ytjcaompblpglcaagreat", sum := "e4812c50816a2b6d857a7004d8981ec22dfbd6d3f008ab5b6586ee320596c4f2", func := "loop.example/g00696/laws.FnExactGoodHunt", spec := "fnExactGoodHunt", inPlace := ["math.Float64bits"], unfollowed := true, recurses := true, apart := false }
def FnExactGoodHuntSaid : Prop := fnExactGoodHuntRow.holds Tryz.pinned (OpenSpec.ofChange fnExactGoodHuntSpec)

/-- ITS FALSE NEIGHBOUR: 'it returns false'. Refute it at one input. -/
def fnExactGoodHuntWrong : ChangeSpec := { name := "fnExactGoodHunt", fn := fun _ => fun
  | [d] => { results := [.lit (.bool false)], args := [d] }
  | _ => none }
def FnExactGoodHuntWrongFalsely : Prop := fnExactGoodHuntRow.holds Tryz.pinned (OpenSpec.ofChange fnExactGoodHuntWrong)

/-- 'laws.FnExactCountRuns': WHATEVER THE INPUT: true; the input reads as it did. -/
def fnExactCountRunsSpec : ChangeSpec := { name := "fnExactCountRuns", fn := fun _ => fun
  | [d1, d2] => { results := [.lit (.bool true)], args := [d1, d2] }
  | _ => none }
def fnExactCountRunsRow : OpenClaim := { program := "ytjcaompblpglcaagreat", sum := "e4812c50816a2b6d857a7004d8981ec22dfbd6d3f008ab5b6586ee320596c4f2", func := "loop.example/g00696/laws.FnExactCountRuns", spec := "fnExactCountRuns", inPlace := ["math.Float64bits", "math.Float64frombits", "math.archTrunc"], unfollowed := true, recurses := true, apart := false }
def FnExactCountRunsSaid : Prop := fnExactCountRunsRow.holds Tryz.pinned (OpenSpec.ofChange fnExactCountRunsSpec)

/-- ITS FALSE NEIGHBOUR: 'it returns false'. Refute it at one input. -/
def fnExactCountRunsWrong : ChangeSpec := { name := "fnExactCountRuns", fn := fun _ => fun
  | [d1, d2] => { results := [.lit (.bool false)], args := [d1, d2] }
  | _ => none }
def FnExactCountRunsWrongFalsely : Prop := fnExactCountRunsRow.holds Tryz.pinned (OpenSpec.ofChange fnExactCountRunsWrong)

/-- 'laws.FnExactStepState': WHATEVER THE INPUT: true; the input reads as it did. -/
def fnExactStepStateSpec : ChangeSpec := { name := "fnExactStepState", fn := fun _ => fun
  | [d1, d2, d3] => { results := [.lit (.bool true)], args := [d1, d2, d3] }
  | _ => none }
def fnExactStepStateRow : OpenClaim := { program := "ytjcaompblpglcaagreat", sum := "e4812c50816a2b6d857a7004d8981ec22dfbd6d3f008ab5b6586ee320596c4f2", func := "loop.example/g00696/laws.FnExactStepState", spec := "fnExactStepState", inPlace := ["math.Float64bits", "math.Float64frombits", "math.archTrunc"], unfollowed := true, recurses := true, apart := false }
def FnExactStepStateSaid : Prop := fnExactStepStateRow.holds Tryz.pinned (OpenSpec.ofChange fnExactStepStateSpec)

/-- ITS FALSE NEIGHBOUR: 'it returns false'. Refute it at one input. -/
def fnExactStepStateWrong : ChangeSpec := { name := "fnExactStepState", fn := fun _ => fun
  | [d1, d2, d3] => { results := [.lit (.bool false)], args := [d1, d2, d3] }
  | _ => none }
def FnExactStepStateWrongFalsely : Prop := fnExactStepStateRow.holds Tryz.pinned (OpenSpec.ofChange fnExactStepStateWrong)

/-- 'laws.FnExactRunThreads': WHATEVER THE INPUT: true; the input reads as it did. -/
def fnExactRunThreadsSpec : ChangeSpec := { name := "fnExactRunThreads", fn := fun _ => fun
  | [d1, d2] => { results := [.lit (.bool true)], args := [d1, d2] }
  | _ => none }
def fnExactRunThreadsRow : OpenClaim := { program := "ytjcaompblpglcaagreat", sum := "e4812c50816a2b6d857a7004d8981ec22dfbd6d3f008ab5b6586ee320596c4f2", func := "loop.example/g00696/laws.FnExactRunThreads", spec := "fnExactRunThreads", inPlace := ["math.Float64bits", "math.Float64frombits", "math.archTrunc"], unfollowed := true, recurses := true, apart := false }
def FnExactRunThreadsSaid : Prop := fnExactRunThreadsRow.holds Tryz.pinned (OpenSpec.ofChange fnExactRunThreadsSpec)

/-- ITS FALSE NEIGHBOUR: 'it returns false'. Refute it at one input. -/
def fnExactRunThreadsWrong : ChangeSpec := { name := "fnExactRunThreads", fn := fun _ => fun
  | [d1, d2] => { results := [.lit (.bool false)], args := [d1, d2] }
  | _ => none }
def FnExactRunThreadsWrongFalsely : Prop := fnExactRunThreadsRow.holds Tryz.pinned (OpenSpec.ofChange fnExactRunThreadsWrong)

/-- 'laws.FnExactRunPicks': WHATEVER THE INPUT: true; the input reads as it did. -/
def fnExactRunPicksSpec : ChangeSpec := { name := "fnExactRunPicks", fn := fun _ => fun
  | [d1, d2, d3] => { results := [.lit (.bool true)], args := [d1, d2, d3] }
  | _ => none }
def fnExactRunPicksRow : OpenClaim := { program := "ytjcaompblpglcaagreat", sum := "e4812c50816a2b6d857a7004d8981ec22dfbd6d3f008ab5b6586ee320596c4f2", func := "loop.example/g00696/laws.FnExactRunPicks", spec := "fnExactRunPicks", inPlace := ["math.Float64bits", "math.Float64frombits", "math.archTrunc"], unfollowed := true, recurses := true, apart := false }
def FnExactRunPicksSaid : Prop := fnExactRunPicksRow.holds Tryz.pinned (OpenSpec.ofChange fnExactRunPicksSpec)

/-- ITS FALSE NEIGHBOUR: 'it returns false'. Refute it at one input. -/
def fnExactRunPicksWrong : ChangeSpec := { name := "fnExactRunPicks", fn := fun _ => fun
  | [d1, d2, d3] => { results := [.lit (.bool false)], args := [d1, d2, d3] }
  | _ => none }
def FnExactRunPicksWrongFalsely : Prop := fnExactRunPicksRow.holds Tryz.pinned (OpenSpec.ofChange fnExactRunPicksWrong)

/- THE SECOND FORM. 'bulk': how many values and letters a reading holds, each counted each time it is reached (what is shared counts as often as it is met; a slice's spare places count too). A statement '..UptoSaid' is the law's where the arguments, and the package variables that the reading takes, are together of bulk at most 1048576: NARROWER than '..Said'. Prove '..Said' where nothing that the law and all that it calls make is longer than what came in: it says more and counts as full. Else prove '..UptoSaid'. A law counts once. -/
mutual
def uptoBulk {H : Type} : DataW H → Nat
  | .lit (.string bytes) => bytes.length + 1
  | .lit _ => 1
  | .nil => 1
  | .ptr d => uptoBulk d + 1
  | .slice elems spare => uptoBulkAll elems + uptoBulkAll spare + 1
  | .agg parts => uptoBulkAll parts + 1
  | .iface _ d => uptoBulk d + 1
  | .map entries => uptoBulkEntries entries + 1
  | .held _ => 1
def uptoBulkAll {H : Type} : List (DataW H) → Nat
  | [] => 0
  | d :: r => uptoBulk d + uptoBulkAll r
def uptoBulkEntries {H : Type} : List (Lit × DataW H) → Nat
  | [] => 0
  | x :: r => uptoBulkEntry x + uptoBulkEntries r
def uptoBulkEntry {H : Type} : Lit × DataW H → Nat
  | (.string bytes, d) => bytes.length + uptoBulk d + 1
  | (_, d) => uptoBulk d + 1
 end
def uptoSmall : (H : Type) → List (DataW H) → Bool := fun _ ds => decide (uptoBulkAll ds ≤ 1048576)
def OpenSpec.upto (s : _root_.Go.ChangeSpec) : _root_.Go.OpenSpec := { _root_.Go.OpenSpec.ofChange s with cond := some uptoSmall }

/-- 'laws.FnExactGoodHunt', WHERE WHAT IT READS IS OF BULK AT MOST 1048576: true; the input reads as it did. -/
def fnExactGoodHuntUptoRow : OpenClaim := { program := "ytjcaompblpglcaagreat", sum := "e4812c50816a2b6d857a7004d8981ec22dfbd6d3f008ab5b6586ee320596c4f2", func := "loop.example/g00696/laws.FnExactGoodHunt", spec := "fnExactGoodHunt", inPlace := ["math.Float64bits"], unfollowed := true, recurses := true, apart := false, narrowed := true }
def FnExactGoodHuntUptoSaid : Prop := fnExactGoodHuntUptoRow.holds Tryz.pinned (OpenSpec.upto fnExactGoodHuntSpec)

/-- 'laws.FnExactCountRuns', WHERE WHAT IT READS IS OF BULK AT MOST 1048576: true; the input reads as it did. -/
def fnExactCountRunsUptoRow : OpenClaim := { program := "ytjcaompblpglcaagreat", sum := "e4812c50816a2b6d857a7004d8981ec22dfbd6d3f008ab5b6586ee320596c4f2", func := "loop.example/g00696/laws.FnExactCountRuns", spec := "fnExactCountRuns", inPlace := ["math.Float64bits", "math.Float64frombits", "math.archTrunc"], unfollowed := true, recurses := true, apart := false, narrowed := true }
def FnExactCountRunsUptoSaid : Prop := fnExactCountRunsUptoRow.holds Tryz.pinned (OpenSpec.upto fnExactCountRunsSpec)

/-- 'laws.FnExactStepState', WHERE WHAT IT READS IS OF BULK AT MOST 1048576: true; the input reads as it did. -/
def fnExactStepStateUptoRow : OpenClaim := { program := "ytjcaompblpglcaagreat", sum := "e4812c50816a2b6d857a7004d8981ec22dfbd6d3f008ab5b6586ee320596c4f2", func := "loop.example/g00696/laws.FnExactStepState", spec := "fnExactStepState", inPlace := ["math.Float64bits", "math.Float64frombits", "math.archTrunc"], unfollowed := true, recurses := true, apart := false, narrowed := true }
def FnExactStepStateUptoSaid : Prop := fnExactStepStateUptoRow.holds Tryz.pinned (OpenSpec.upto fnExactStepStateSpec)

/-- 'laws.FnExactRunThreads', WHERE WHAT IT READS IS OF BULK AT MOST 1048576: true; the input reads as it did. -/
def fnExactRunThreadsUptoRow : OpenClaim := { program := "ytjcaompblpglcaagreat", sum := "e4812c50816a2b6d857a7004d8981ec22dfbd6d3f008ab5b6586ee320596c4f2", func := "loop.example/g00696/laws.FnExactRunThreads", spec := "fnExactRunThreads", inPlace := ["math.Float64bits", "math.Float64frombits", "math.archTrunc"], unfollowed := true, recurses := true, apart := false, narrowed := true }
def FnExactRunThreadsUptoSaid : Prop := fnExactRunThreadsUptoRow.holds Tryz.pinned (OpenSpec.upto fnExactRunThreadsSpec)

/-- 'laws.FnExactRunPicks', WHERE WHAT IT READS IS OF BULK AT MOST 1048576: true; the input reads as it did. -/
def fnExactRunPicksUptoRow : OpenClaim := { program := "ytjcaompblpglcaagreat", sum := "e4812c50816a2b6d857a7004d8981ec22dfbd6d3f008ab5b6586ee320596c4f2", func := "loop.example/g00696/laws.FnExactRunPicks", spec := "fnExactRunPicks", inPlace := ["math.Float64bits", "math.Float64frombits", "math.archTrunc"], unfollowed := true, recurses := true, apart := false, narrowed := true }
def FnExactRunPicksUptoSaid : Prop := fnExactRunPicksUptoRow.holds Tryz.pinned (OpenSpec.upto fnExactRunPicksSpec)

end Rows
end Go.Proofs.YtjcaompblpglcaaGreat
