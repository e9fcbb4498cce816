/-
  No cell of these rows narrows 'for every input' (looked for: loops, veiled, ifaces, maps, wideKeys, modest, calm, conditions, laid).
  DERIVED. THE GIVEN ROWS OF THIS SEAT. 6 by the template 'for every input the law returns true; each argument reads behind the call as it read before'; 0 by the template 'total and deterministic' (their statements: YtihgcgccajikpaaTotals.lean).
  GIVEN WITH THE SEED: the statements are not yours to turn. If you find one false, say at which input.
  Laid BY PROGRAM, IN A SANDBOX (cutbox-rows.mjs): the forced cells as the released guide's own fill.sh prints them over the translation eec34ee9437c3da5… (all of the seat's roots in one cut). By AI agents, Wed Nov 11 2026. No macro, syntax, notation, axiom, sorry.
-/
import Derived.Test.YtihgcgccajikpaaChecked
import GoSem.Claim
import GoSem.ClaimJoined
import GoSem.ClaimMapViews
import Derived.JoinedTies
import Derived.KernelRfl
namespace Go.Proofs.Ytihgcgccajikpaa
/- THE CELL 'sum', in the pinned program and in every row, IS THE sha256 OF THE DUMP (.gsa) THAT YtihgcgccajikpaaProg.lean LOADS. Nothing in Lean hashes anything: it is a label: what it is worth is what the hold of that sum in a sandbox is worth. -/
noncomputable def Try.pinned : Pinned := { name := "ytihgcgccajikpaa", sum := "eec34ee9437c3da5a8405401b8602282be5fbdba407b269f8f84b145cfefb26d", checked := Try.checked }
namespace Rows
def none {H : Type} : Left H := { results := [], args := [] }

/-- 'laws.FnExactAddPairs': WHATEVER THE INPUT: true; the input reads as it did. -/
def fnExactAddPairsSpec : ChangeSpec := { name := "fnExactAddPairs", fn := fun _ => fun
  | [d1, d2] => { results := [.lit (.bool true)], args := [d1, d2] }
  | _ => none }
def fnExactAddPairsRow : OpenClaim := { program := "ytihgcgccajikpaa", sum := "eec34ee9437c3da5a8405401b8602282be5fbdba407b269f8f84b145cfefb26d", func := "loop.example/g00696/laws.FnExactAddPairs", spec := "fnExactAddPairs", unfollowed := true, recurses := true, apart := false }
def FnExactAddPairsSaid : Prop := fnExactAddPairsRow.holds Try.pinned (OpenSpec.ofChange fnExactAddPairsSpec)

/-- ITS FALSE NEIGHBOUR: 'it returns false'. Refute it at one input. -/
def fnExactAddPairsWrong : ChangeSpec := { name := "fnExactAddPairs", fn := fun _ => fun
  | [d1, d2] => { results := [.lit (.bool false)], args := [d1, d2] }
  | _ => none }
def FnExactAddPairsWrongFalsely : Prop := fnExactAddPairsRow.holds Try.pinned (OpenSpec.ofChange fnExactAddPairsWrong)

/-- 'laws.FnExactRacyCells': WHATEVER THE INPUT: true; the input reads as it did. -/
def fnExactRacyCellsSpec : ChangeSpec := { name := "fnExactRacyCells", fn := fun _ => fun
  | [d] => { results := [.lit (.bool true)], args := [d] }
  | _ => none }
def fnExactRacyCellsRow : OpenClaim := { program := "ytihgcgccajikpaa", sum := "eec34ee9437c3da5a8405401b8602282be5fbdba407b269f8f84b145cfefb26d", func := "loop.example/g00696/laws.FnExactRacyCells", spec := "fnExactRacyCells", unfollowed := true, recurses := true, apart := false }
def FnExactRacyCellsSaid : Prop := fnExactRacyCellsRow.holds Try.pinned (OpenSpec.ofChange fnExactRacyCellsSpec)

/-- ITS FALSE NEIGHBOUR: 'it returns false'. Refute it at one input. -/
def fnExactRacyCellsWrong : ChangeSpec := { name := "fnExactRacyCells", fn := fun _ => fun
  | [d] => { results := [.lit (.bool false)], args := [d] }
  | _ => none }
def FnExactRacyCellsWrongFalsely : Prop := fnExactRacyCellsRow.holds Try.pinned (OpenSpec.ofChange fnExactRacyCellsWrong)

/-- 'laws.FnExactLockPairs': WHATEVER THE INPUT: true; the input reads as it did. -/
def fnExactLockPairsSpec : ChangeSpec := { name := "fnExactLockPairs", fn := fun _ => fun
  | [d] => { results := [.lit (.bool true)], args := [d] }
  | _ => none }
def fnExactLockPairsRow : OpenClaim := { program := "ytihgcgccajikpaa", sum := "eec34ee9437c3da5a8405401b8602282be5fbdba407b269f8f84b145cfefb26d", func := "loop.example/g00696/laws.FnExactLockPairs", spec := "fnExactLockPairs", unfollowed := true, recurses := true, apart := false }
def FnExactLockPairsSaid : Prop := fnExactLockPairsRow.holds Try.pinned (OpenSpec.ofChange fnExactLockPairsSpec)

/-- ITS FALSE NEIGHBOUR: 'it returns false'. Refute it at one input. -/
def fnExactLockPairsWrong : ChangeSpec := { name := "fnExactLockPairs", fn := fun _ => fun
  | [d] => { results := [.lit (.bool false)], args := [d] }
  | _ => none }
def FnExactLockPairsWrongFalsely : Prop := fnExactLockPairsRow.holds Try.pinned (OpenSpec.ofChange fnExactLockPairsWrong)

/-- 'laws.FnExactCutsOf': WHATEVER THE INPUT: true; the input reads as it did. -/
def fnExactCutsOfSpec : ChangeSpec := { name := "fnExactCutsOf", fn := fun _ => fun
  | [d] => { results := [.lit (.bool true)], args := [d] }
  | _ => none }
def fnExactCutsOfRow : OpenClaim := { program := "ytihgcgccajikpaa", sum := "eec34ee9437c3da5a8405401b8602282be5fbdba407b269f8f84b145cfefb26d", func := "loop.example/g00696/laws.FnExactCutsOf", spec := "fnExactCutsOf", unfollowed := true, recurses := true, apart := false }
def FnExactCutsOfSaid : Prop := fnExactCutsOfRow.holds Try.pinned (OpenSpec.ofChange fnExactCutsOfSpec)

/-- ITS FALSE NEIGHBOUR: 'it returns false'. Refute it at one input. -/
def fnExactCutsOfWrong : ChangeSpec := { name := "fnExactCutsOf", fn := fun _ => fun
  | [d] => { results := [.lit (.bool false)], args := [d] }
  | _ => none }
def FnExactCutsOfWrongFalsely : Prop := fnExactCutsOfRow.holds Try.pinned (OpenSpec.ofChange fnExactCutsOfWrong)

/-- 'laws.FnExactWarnsOf': WHATEVER THE INPUT: true; the input reads as it did. -/
def fnExactWarnsOfSpec : ChangeSpec := { name := "fnExactWarnsOf", fn := fun _ => fun
  | [d] => { results := [.lit (.bool true)], args := [d] }
  | _ => none }
def fnExactWarnsOfRow : OpenClaim := { program := "ytihgcgccajikpaa", sum := "eec34ee9437c3da5a8405401b8602282be5fbdba407b269f8f84b145cfefb26d", func := "loop.example/g00696/laws.FnExactWarnsOf", spec := "fnExactWarnsOf", unfollowed := true, recurses := true, apart := false }
def FnExactWarnsOfSaid : Prop := fnExactWarnsOfRow.holds Try.pinned (OpenSpec.ofChange fnExactWarnsOfSpec)

/-- ITS FALSE NEIGHBOUR: 'it returns false'. Refute it at one input. -/
def fnExactWarnsOfWrong : ChangeSpec := { name := "fnExactWarnsOf", fn := fun _ => fun
  | [d] => { results := [.lit (.bool false)], args := [d] }
  | _ => none }
def FnExactWarnsOfWrongFalsely : Prop := fnExactWarnsOfRow.holds Try.pinned (OpenSpec.ofChange fnExactWarnsOfWrong)

/-- 'laws.FnExactWarnsGuarded': WHATEVER THE INPUT: true; the input reads as it did. -/
def fnExactWarnsGuardedSpec : ChangeSpec := { name := "fnExactWarnsGuarded", fn := fun _ => fun
  | [d] => { results := [.lit (.bool true)], args := [d] }
  | _ => none }
def fnExactWarnsGuardedRow : OpenClaim := { program := "ytihgcgccajikpaa", sum := "eec34ee9437c3da5a8405401b8602282be5fbdba407b269f8f84b145cfefb26d", func := "loop.example/g00696/laws.FnExactWarnsGuarded", spec := "fnExactWarnsGuarded", unfollowed := true, recurses := true, apart := false }
def FnExactWarnsGuardedSaid : Prop := fnExactWarnsGuardedRow.holds Try.pinned (OpenSpec.ofChange fnExactWarnsGuardedSpec)

/-- ITS FALSE NEIGHBOUR: 'it returns false'. Refute it at one input. -/
def fnExactWarnsGuardedWrong : ChangeSpec := { name := "fnExactWarnsGuarded", fn := fun _ => fun
  | [d] => { results := [.lit (.bool false)], args := [d] }
  | _ => none }
def FnExactWarnsGuardedWrongFalsely : Prop := fnExactWarnsGuardedRow.holds Try.pinned (OpenSpec.ofChange fnExactWarnsGuardedWrong)

/- THE SECOND FORM. 'bulk': how many values and letters a reading holds, each counted each time it is reached (what is shared counts as often as it is met; a slice's spare places count too). A statement '..UptoSaid' is the law's where the arguments, and the package variables that the reading takes, are together of bulk at most 1048576: NARROWER than '..Said'. Prove '..Said' where nothing that the law and all that it calls make is longer than what came in: it says more and counts as full. Else prove '..UptoSaid'. A law counts once. -/
mutual
def uptoBulk {H : Type} : DataW H → Nat
  | .lit (.string bytes) => bytes.length + 1
  | .lit _ => 1
  | .nil => 1
  | .ptr d => uptoBulk d + 1
  | .slice elems spare => uptoBulkAll elems + uptoBulkAll spare + 1
  | .agg parts => uptoBulkAll parts + 1
  | .iface _ d => uptoBulk d + 1
  | .map entries => uptoBulkEntries entries + 1
  | .held _ => 1
def uptoBulkAll {H : Type} : List (DataW H) → Nat
  | [] => 0
  | d :: r => uptoBulk d + uptoBulkAll r
def uptoBulkEntries {H : Type} : List (Lit × DataW H) → Nat
  | [] => 0
  | x :: r => uptoBulkEntry x + uptoBulkEntries r
def uptoBulkEntry {H : Type} : Lit × DataW H → Nat
  | (.string bytes, d) => bytes.length + uptoBulk d + 1
  | (_, d) => uptoBulk d + 1
 end
def uptoSmall : (H : Type) → List (DataW H) → Bool := fun _ ds => decide (uptoBulkAll ds ≤ 1048576)
def OpenSpec.upto (s : _root_.Go.ChangeSpec) : _root_.Go.OpenSpec := { _root_.Go.OpenSpec.ofChange s with cond := some uptoSmall }

/-- 'laws.FnExactAddPairs', WHERE WHAT IT READS IS OF BULK AT MOST 1048576: true; the input reads as it did. -/
def fnExactAddPairsUptoRow : OpenClaim := { program := "ytihgcgccajikpaa", sum := "eec34ee9437c3da5a8405401b8602282be5fbdba407b269f8f84b145cfefb26d", func := "loop.example/g00696/laws.FnExactAddPairs", spec := "fnExactAddPairs", unfollowed := true, recurses := true, apart := false, narrowed := true }
def FnExactAddPairsUptoSaid : Prop := fnExactAddPairsUptoRow.holds Try.pinned (OpenSpec.upto fnExactAddPairsSpec)

/-- 'laws.FnExactRacyCells', WHERE WHAT IT READS IS OF BULK AT MOST 1048576: true; the input reads as it did. -/
def fnExactRacyCellsUptoRow : OpenClaim := { program := "ytihgcgccajikpaa", sum := "eec34ee9437c3da5a8405401b8602282be5fbdba407b269f8f84b145cfefb26d", func := "loop.example/g00696/laws.FnExactRacyCells", spec := "fnExactRacyCells", unfollowed := true, recurses := true, apart := false, narrowed := true }
def FnExactRacyCellsUptoSaid : Prop := fnExactRacyCellsUptoRow.holds Try.pinned (OpenSpec.upto fnExactRacyCellsSpec)

/-- 'laws.FnExactLockPairs', WHERE WHAT IT READS IS OF BULK AT MOST 1048576: true; the input reads as it did. -/
def fnExactLockPairsUptoRow : OpenClaim := { program := "ytihgcgccajikpaa", sum := "eec34ee9437c3da5a8405401b8602282be5fbdba407b269f8f84b145cfefb26d", func := "loop.example/g00696/laws.FnExactLockPairs", spec := "fnExactLockPairs", unfollowed := true, recurses := true, apart := false, narrowed := true }
def FnExactLockPairsUptoSaid : Prop := fnExactLockPairsUptoRow.holds Try.pinned (OpenSpec.upto fnExactLockPairsSpec)

/-- 'laws.FnExactCutsOf', WHERE WHAT IT READS IS OF BULK AT MOST 1048576: true; the input reads as it did. -/
def fnExactCutsOfUptoRow : OpenClaim := { program := "ytihgcgccajikpaa", sum := "eec34ee9437c3da5a8405401b8602282be5fbdba407b269f8f84b145cfefb26d", func := "loop.example/g00696/laws.FnExactCutsOf", spec := "fnExactCutsOf", unfollowed := true, recurses := true, apart := false, narrowed := true }
def FnExactCutsOfUptoSaid : Prop := fnExactCutsOfUptoRow.holds Try.pinned (OpenSpec.upto fnExactCutsOfSpec)

/-- 'laws.FnExactWarnsOf', WHERE WHAT IT READS IS OF BULK AT MOST 1048576: true; the input reads as it did. -/
def fnExactWarnsOfUptoRow : OpenClaim := { program := "ytihgcgccajikpaa", sum := "eec34ee9437c3da5a8405401b8602282be5fbdba407b269f8f84b145cfefb26d", func := "loop.example/g00696/laws.FnExactWarnsOf", spec := "fnExactWarnsOf", unfollowed := true, recurses := true, apart := false, narrowed := true }
def FnExactWarnsOfUptoSaid : Prop := fnExactWarnsOfUptoRow.holds Try.pinned (OpenSpec.upto fnExactWarnsOfSpec)

/-- 'laws.FnExactWarnsGuarded', WHERE WHAT IT READS IS OF BULK AT MOST 1048576: true; the input reads as it did. -/
def fnExactWarnsGuardedUptoRow : OpenClaim := { program := "ytihgcgccajikpaa", sum := "eec34ee9437c3da5a8405401b8602282be5fbdba407b269f8f84b145cfefb26d", func := "loop.example/g00696/laws.FnExactWarnsGuarded", spec := "fnExactWarnsGuarded", unfollowed := true, recurses := true, apart := false, narrowed := true }
def FnExactWarnsGuardedUptoSaid : Prop := fnExactWarnsGuardedUptoRow.holds Try.pinned (OpenSpec.upto fnExactWarnsGuardedSpec)

end Rows
end Go.Proofs.Ytihgcgccajikpaa
