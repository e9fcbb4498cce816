/-
  No cell of these rows narrows 'for every input' (looked for: loops, veiled, ifaces, maps, wideKeys, modest, calm, conditions, laid).
  DERIVED. THE GIVEN ROWS OF THIS SEAT. 6 by the template 'for every input the law returns true; each argument reads behind the call as it read before'; 0 by the template 'total and deterministic' (their statements: YtefcdjocfjpjgaaTotals.lean).
  GIVEN WITH THE SEED: the statements are not yours to turn. If you find one false, say at which input.
  Laid BY PROGRAM, IN A SANDBOX (cutbox-rows.mjs): the forced cells as the released guide's own fill.sh prints them over the translation f8537b3521faee66… (all of the seat's roots in one cut). By AI agents, Wed Nov 11 2026. No macro, syntax, notation, axiom, sorry.
-/
import Derived.Test.YtefcdjocfjpjgaaChecked
import GoSem.Claim
import GoSem.ClaimJoined
import GoSem.ClaimMapViews
import Derived.JoinedTies
import Derived.KernelRfl
namespace Go.Proofs.Ytefcdjocfjpjgaa
/- THE CELL 'sum', in the pinned program and in every row, IS THE sha256 OF THE DUMP (.gsa) THAT YtefcdjocfjpjgaaProg.lean LOADS. Nothing in Lean hashes anything: it is a label: what it is worth is what the hold of that sum in a sandbox is worth. -/
noncomputable def Try.pinned : Pinned := { name := "ytefcdjocfjpjgaa", sum := "f8537b3521faee66c013c490fd731865b72a4787b61dadd81ccff0c5507dbf34", checked := Try.checked }
namespace Rows
def none {H : Type} : Left H := { results := [], args := [] }

/-- 'laws.FnExactFencedOf': WHATEVER THE INPUT: true; the input reads as it did. -/
def fnExactFencedOfSpec : ChangeSpec := { name := "fnExactFencedOf", fn := fun _ => fun
  | [d] => { results := [.lit (.bool true)], args := [d] }
  | _ => none }
def fnExactFencedOfRow : OpenClaim := { program := "ytefcdjocfjpjgaa", sum := "f8537b3521faee66c013c490fd731865b72a4787b61dadd81ccff0c5507dbf34", func := "loop.example/g00696/laws.FnExactFencedOf", spec := "fnExactFencedOf", inPlace := ["math.Float64bits"], unfollowed := true, recurses := true, apart := false }
def FnExactFencedOfSaid : Prop := fnExactFencedOfRow.holds Try.pinned (OpenSpec.ofChange fnExactFencedOfSpec)

/-- ITS FALSE NEIGHBOUR: 'it returns false'. Refute it at one input. -/
def fnExactFencedOfWrong : ChangeSpec := { name := "fnExactFencedOf", fn := fun _ => fun
  | [d] => { results := [.lit (.bool false)], args := [d] }
  | _ => none }
def FnExactFencedOfWrongFalsely : Prop := fnExactFencedOfRow.holds Try.pinned (OpenSpec.ofChange fnExactFencedOfWrong)

/-- 'laws.FnExactLocksHeld': WHATEVER THE INPUT: true; the input reads as it did. -/
def fnExactLocksHeldSpec : ChangeSpec := { name := "fnExactLocksHeld", fn := fun _ => fun
  | [d1, d2] => { results := [.lit (.bool true)], args := [d1, d2] }
  | _ => none }
def fnExactLocksHeldRow : OpenClaim := { program := "ytefcdjocfjpjgaa", sum := "f8537b3521faee66c013c490fd731865b72a4787b61dadd81ccff0c5507dbf34", func := "loop.example/g00696/laws.FnExactLocksHeld", spec := "fnExactLocksHeld", unfollowed := true, recurses := true, apart := false }
def FnExactLocksHeldSaid : Prop := fnExactLocksHeldRow.holds Try.pinned (OpenSpec.ofChange fnExactLocksHeldSpec)

/-- ITS FALSE NEIGHBOUR: 'it returns false'. Refute it at one input. -/
def fnExactLocksHeldWrong : ChangeSpec := { name := "fnExactLocksHeld", fn := fun _ => fun
  | [d1, d2] => { results := [.lit (.bool false)], args := [d1, d2] }
  | _ => none }
def FnExactLocksHeldWrongFalsely : Prop := fnExactLocksHeldRow.holds Try.pinned (OpenSpec.ofChange fnExactLocksHeldWrong)

/-- 'laws.FnExactFirstRace': WHATEVER THE INPUT: true; the input reads as it did. -/
def fnExactFirstRaceSpec : ChangeSpec := { name := "fnExactFirstRace", fn := fun _ => fun
  | [d] => { results := [.lit (.bool true)], args := [d] }
  | _ => none }
def fnExactFirstRaceRow : OpenClaim := { program := "ytefcdjocfjpjgaa", sum := "f8537b3521faee66c013c490fd731865b72a4787b61dadd81ccff0c5507dbf34", func := "loop.example/g00696/laws.FnExactFirstRace", spec := "fnExactFirstRace", unfollowed := true, recurses := true, apart := false }
def FnExactFirstRaceSaid : Prop := fnExactFirstRaceRow.holds Try.pinned (OpenSpec.ofChange fnExactFirstRaceSpec)

/-- ITS FALSE NEIGHBOUR: 'it returns false'. Refute it at one input. -/
def fnExactFirstRaceWrong : ChangeSpec := { name := "fnExactFirstRace", fn := fun _ => fun
  | [d] => { results := [.lit (.bool false)], args := [d] }
  | _ => none }
def FnExactFirstRaceWrongFalsely : Prop := fnExactFirstRaceRow.holds Try.pinned (OpenSpec.ofChange fnExactFirstRaceWrong)

/-- 'laws.FnExactCutAround': WHATEVER THE INPUT: true; the input reads as it did. -/
def fnExactCutAroundSpec : ChangeSpec := { name := "fnExactCutAround", fn := fun _ => fun
  | [d1, d2] => { results := [.lit (.bool true)], args := [d1, d2] }
  | _ => none }
def fnExactCutAroundRow : OpenClaim := { program := "ytefcdjocfjpjgaa", sum := "f8537b3521faee66c013c490fd731865b72a4787b61dadd81ccff0c5507dbf34", func := "loop.example/g00696/laws.FnExactCutAround", spec := "fnExactCutAround", unfollowed := true, recurses := true, apart := false }
def FnExactCutAroundSaid : Prop := fnExactCutAroundRow.holds Try.pinned (OpenSpec.ofChange fnExactCutAroundSpec)

/-- ITS FALSE NEIGHBOUR: 'it returns false'. Refute it at one input. -/
def fnExactCutAroundWrong : ChangeSpec := { name := "fnExactCutAround", fn := fun _ => fun
  | [d1, d2] => { results := [.lit (.bool false)], args := [d1, d2] }
  | _ => none }
def FnExactCutAroundWrongFalsely : Prop := fnExactCutAroundRow.holds Try.pinned (OpenSpec.ofChange fnExactCutAroundWrong)

/-- 'laws.FnExactNextAfter': WHATEVER THE INPUT: true; the input reads as it did. -/
def fnExactNextAfterSpec : ChangeSpec := { name := "fnExactNextAfter", fn := fun _ => fun
  | [d] => { results := [.lit (.bool true)], args := [d] }
  | _ => none }
def fnExactNextAfterRow : OpenClaim := { program := "ytefcdjocfjpjgaa", sum := "f8537b3521faee66c013c490fd731865b72a4787b61dadd81ccff0c5507dbf34", func := "loop.example/g00696/laws.FnExactNextAfter", spec := "fnExactNextAfter", unfollowed := true, recurses := true, apart := false }
def FnExactNextAfterSaid : Prop := fnExactNextAfterRow.holds Try.pinned (OpenSpec.ofChange fnExactNextAfterSpec)

/-- ITS FALSE NEIGHBOUR: 'it returns false'. Refute it at one input. -/
def fnExactNextAfterWrong : ChangeSpec := { name := "fnExactNextAfter", fn := fun _ => fun
  | [d] => { results := [.lit (.bool false)], args := [d] }
  | _ => none }
def FnExactNextAfterWrongFalsely : Prop := fnExactNextAfterRow.holds Try.pinned (OpenSpec.ofChange fnExactNextAfterWrong)

/-- 'laws.FnExactGoodProg': WHATEVER THE INPUT: true; the input reads as it did. -/
def fnExactGoodProgSpec : ChangeSpec := { name := "fnExactGoodProg", fn := fun _ => fun
  | [d] => { results := [.lit (.bool true)], args := [d] }
  | _ => none }
def fnExactGoodProgRow : OpenClaim := { program := "ytefcdjocfjpjgaa", sum := "f8537b3521faee66c013c490fd731865b72a4787b61dadd81ccff0c5507dbf34", func := "loop.example/g00696/laws.FnExactGoodProg", spec := "fnExactGoodProg", inPlace := ["math.Float64bits"], unfollowed := true, recurses := true, apart := false }
def FnExactGoodProgSaid : Prop := fnExactGoodProgRow.holds Try.pinned (OpenSpec.ofChange fnExactGoodProgSpec)

/-- ITS FALSE NEIGHBOUR: 'it returns false'. Refute it at one input. -/
def fnExactGoodProgWrong : ChangeSpec := { name := "fnExactGoodProg", fn := fun _ => fun
  | [d] => { results := [.lit (.bool false)], args := [d] }
  | _ => none }
def FnExactGoodProgWrongFalsely : Prop := fnExactGoodProgRow.holds Try.pinned (OpenSpec.ofChange fnExactGoodProgWrong)

/- THE SECOND FORM. 'bulk': how many values and letters a reading holds, each counted each time it is reached (what is shared counts as often as it is met; a slice's spare places count too). A statement '..UptoSaid' is the law's where the arguments, and the package variables that the reading takes, are together of bulk at most 1048576: NARROWER than '..Said'. Prove '..Said' where nothing that the law and all that it calls make is longer than what came in: it says more and counts as full. Else prove '..UptoSaid'. A law counts once. -/
mutual
def uptoBulk {H : Type} : DataW H → Nat
  | .lit (.string bytes) => bytes.length + 1
  | .lit _ => 1
  | .nil => 1
  | .ptr d => uptoBulk d + 1
  | .slice elems spare => uptoBulkAll elems + uptoBulkAll spare + 1
  | .agg parts => uptoBulkAll parts + 1
  | .iface _ d => uptoBulk d + 1
  | .map entries => uptoBulkEntries entries + 1
  | .held _ => 1
def uptoBulkAll {H : Type} : List (DataW H) → Nat
  | [] => 0
  | d :: r => uptoBulk d + uptoBulkAll r
def uptoBulkEntries {H : Type} : List (Lit × DataW H) → Nat
  | [] => 0
  | x :: r => uptoBulkEntry x + uptoBulkEntries r
def uptoBulkEntry {H : Type} : Lit × DataW H → Nat
  | (.string bytes, d) => bytes.length + uptoBulk d + 1
  | (_, d) => uptoBulk d + 1
 end
def uptoSmall : (H : Type) → List (DataW H) → Bool := fun _ ds => decide (uptoBulkAll ds ≤ 1048576)
def OpenSpec.upto (s : _root_.Go.ChangeSpec) : _root_.Go.OpenSpec := { _root_.Go.OpenSpec.ofChange s with cond := some uptoSmall }

/-- 'laws.FnExactFencedOf', WHERE WHAT IT READS IS OF BULK AT MOST 1048576: true; the input reads as it did. -/
def fnExactFencedOfUptoRow : OpenClaim := { program := "ytefcdjocfjpjgaa", sum := "f8537b3521faee66c013c490fd731865b72a4787b61dadd81ccff0c5507dbf34", func := "loop.example/g00696/laws.FnExactFencedOf", spec := "fnExactFencedOf", inPlace := ["math.Float64bits"], unfollowed := true, recurses := true, apart := false, narrowed := true }
def FnExactFencedOfUptoSaid : Prop := fnExactFencedOfUptoRow.holds Try.pinned (OpenSpec.upto fnExactFencedOfSpec)

/-- 'laws.FnExactLocksHeld', WHERE WHAT IT READS IS OF BULK AT MOST 1048576: true; the input reads as it did. -/
def fnExactLocksHeldUptoRow : OpenClaim := { program := "ytefcdjocfjpjgaa", sum := "f8537b3521faee66c013c490fd731865b72a4787b61dadd81ccff0c5507dbf34", func := "loop.example/g00696/laws.FnExactLocksHeld", spec := "fnExactLocksHeld", unfollowed := true, recurses := true, apart := false, narrowed := true }
def FnExactLocksHeldUptoSaid : Prop := fnExactLocksHeldUptoRow.holds Try.pinned (OpenSpec.upto fnExactLocksHeldSpec)

/-- 'laws.FnExactFirstRace', WHERE WHAT IT READS IS OF BULK AT MOST 1048576: true; the input reads as it did. -/
def fnExactFirstRaceUptoRow : OpenClaim := { program := "ytefcdjocfjpjgaa", sum := "f8537b3521faee66c013c490fd731865b72a4787b61dadd81ccff0c5507dbf34", func := "loop.example/g00696/laws.FnExactFirstRace", spec := "fnExactFirstRace", unfollowed := true, recurses := true, apart := false, narrowed := true }
def FnExactFirstRaceUptoSaid : Prop := fnExactFirstRaceUptoRow.holds Try.pinned (OpenSpec.upto fnExactFirstRaceSpec)

/-- 'laws.FnExactCutAround', WHERE WHAT IT READS IS OF BULK AT MOST 1048576: true; the input reads as it did. -/
def fnExactCutAroundUptoRow : OpenClaim := { program := "ytefcdjocfjpjgaa", sum := "f8537b3521faee66c013c490fd731865b72a4787b61dadd81ccff0c5507dbf34", func := "loop.example/g00696/laws.FnExactCutAround", spec := "fnExactCutAround", unfollowed := true, recurses := true, apart := false, narrowed := true }
def FnExactCutAroundUptoSaid : Prop := fnExactCutAroundUptoRow.holds Try.pinned (OpenSpec.upto fnExactCutAroundSpec)

/-- 'laws.FnExactNextAfter', WHERE WHAT IT READS IS OF BULK AT MOST 1048576: true; the input reads as it did. -/
def fnExactNextAfterUptoRow : OpenClaim := { program := "ytefcdjocfjpjgaa", sum := "f8537b3521faee66c013c490fd731865b72a4787b61dadd81ccff0c5507dbf34", func := "loop.example/g00696/laws.FnExactNextAfter", spec := "fnExactNextAfter", unfollowed := true, recurses := true, apart := false, narrowed := true }
def FnExactNextAfterUptoSaid : Prop := fnExactNextAfterUptoRow.holds Try.pinned (OpenSpec.upto fnExactNextAfterSpec)

/-- 'laws.FnExactGoodProg', WHERE WHAT IT READS IS OF BULK AT MOST 1048576: true; the input reads as it did. -/
def fnExactGoodProgUptoRow : OpenClaim := { program := "ytefcdjocfjpjgaa", sum := "f8537b3521faee66c013c490fd731865b72a4787b61dadd81ccff0c5507dbf34", func := "loop.example/g00696/laws.FnExactGoodProg", spec := "fnExactGoodProg", inPlace := ["math.Float64bits"], unfollowed := true, recurses := true, apart := false, narrowed := true }
def FnExactGoodProgUptoSaid : Prop := fnExactGoodProgUptoRow.holds Try.pinned (OpenSpec.upto fnExactGoodProgSpec)

end Rows
end Go.Proofs.Ytefcdjocfjpjgaa
