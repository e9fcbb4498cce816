/-
  No cell of these rows narrows 'for every input' (looked for: loops, veiled, ifaces, maps, wideKeys, modest, calm, conditions, laid).
  DERIVED. THE GIVEN ROWS OF THIS SEAT. 5 by the template 'for every input the law returns true; each argument reads behind the call as it read before'; 0 by the template 'total and deterministic' (their statements: YtkmjbfmmcijojaaTotals.lean).
  GIVEN WITH THE SEED: the statements are not yours to turn. If you find one false, say at which input.
  Laid BY PROGRAM, IN A SANDBOX (cutbox-rows.mjs): the forced cells as the released guide's own fill.sh prints them over the translation 1e6d7dcfe6b95373… (all of the seat's roots in one cut). By AI agents, Wed Nov 11 2026. No macro, syntax, notation, axiom, sorry.
-/
import Derived.Test.YtkmjbfmmcijojaaChecked
import GoSem.Claim
import GoSem.ClaimJoined
import GoSem.ClaimMapViews
import Derived.JoinedTies
import Derived.KernelRfl
namespace Go.Proofs.Ytkmjbfmmcijojaa
/- THE CELL 'sum', in the pinned program and in every row, IS THE sha256 OF THE DUMP (.gsa) THAT YtkmjbfmmcijojaaProg.lean LOADS. Nothing in Lean hashes anything: it is a label: what it is worth is what the hold of that sum in a sandbox is worth. -/
noncomputable def Try.pinned : Pinned := { name := "ytkmjbfmmcijojaa", sum := "1e6d7dcfe6b953732c6c8ca9ec3f9528698280f6f387b719a76649b7e9fcae38", checked := Try.checked }
namespace Rows
def none {H : Type} : Left H := { results := [], args := [] }

/-- 'laws.FnExactRacesIn': WHATEVER THE INPUT: true; the input reads as it did. -/
def fnExactRacesInSpec : ChangeSpec := { name := "fnExactRacesIn", fn := fun _ => fun
  | [d] => { results := [.lit (.bool true)], args := [d] }
  | _ => none }
def fnExactRacesInRow : OpenClaim := { program := "ytkmjbfmmcijojaa", sum := "1e6d7dcfe6b953732c6c8ca9ec3f9528698280f6f387b719a76649b7e9fcae38", func := "loop.example/g00696/laws.FnExactRacesIn", spec := "fnExactRacesIn", unfollowed := true, recurses := true, apart := false }
def FnExactRacesInSaid : Prop := fnExactRacesInRow.holds Try.pinned (OpenSpec.ofChange fnExactRacesInSpec)

/-- ITS FALSE NEIGHBOUR: 'it returns false'. Refute it at one input. -/
def fnExactRacesInWrong : ChangeSpec := { name := "fnExactRacesIn", fn := fun _ => fun
  | [d] => { results := [.lit (.bool false)], args := [d] }
  | _ => none }
def FnExactRacesInWrongFalsely : Prop := fnExactRacesInRow.holds Try.pinned (OpenSpec.ofChange fnExactRacesInWrong)

/-- 'laws.FnExactClocksOf': WHATEVER THE INPUT: true; the input reads as it did. -/
def fnExactClocksOfSpec : ChangeSpec := { name := "fnExactClocksOf", fn := fun _ => fun
  | [d] => { results := [.lit (.bool true)], args := [d] }
  | _ => none }
def fnExactClocksOfRow : OpenClaim := { program := "ytkmjbfmmcijojaa", sum := "1e6d7dcfe6b953732c6c8ca9ec3f9528698280f6f387b719a76649b7e9fcae38", func := "loop.example/g00696/laws.FnExactClocksOf", spec := "fnExactClocksOf", unfollowed := true, recurses := true, apart := false }
def FnExactClocksOfSaid : Prop := fnExactClocksOfRow.holds Try.pinned (OpenSpec.ofChange fnExactClocksOfSpec)

/-- ITS FALSE NEIGHBOUR: 'it returns false'. Refute it at one input. -/
def fnExactClocksOfWrong : ChangeSpec := { name := "fnExactClocksOf", fn := fun _ => fun
  | [d] => { results := [.lit (.bool false)], args := [d] }
  | _ => none }
def FnExactClocksOfWrongFalsely : Prop := fnExactClocksOfRow.holds Try.pinned (OpenSpec.ofChange fnExactClocksOfWrong)

/-- 'laws.FnExactLayersOf': WHATEVER THE INPUT: true; the input reads as it did. -/
def fnExactLayersOfSpec : ChangeSpec := { name := "fnExactLayersOf", fn := fun _ => fun
  | [d] => { results := [.lit (.bool true)], args := [d] }
  | _ => none }
def fnExactLayersOfRow : OpenClaim := { program := "ytkmjbfmmcijojaa", sum := "1e6d7dcfe6b953732c6c8ca9ec3f9528698280f6f387b719a76649b7e9fcae38", func := "loop.example/g00696/laws.FnExactLayersOf", spec := "fnExactLayersOf", unfollowed := true, recurses := true, apart := false }
def FnExactLayersOfSaid : Prop := fnExactLayersOfRow.holds Try.pinned (OpenSpec.ofChange fnExactLayersOfSpec)

/-- ITS FALSE NEIGHBOUR: 'it returns false'. Refute it at one input. -/
def fnExactLayersOfWrong : ChangeSpec := { name := "fnExactLayersOf", fn := fun _ => fun
  | [d] => { results := [.lit (.bool false)], args := [d] }
  | _ => none }
def FnExactLayersOfWrongFalsely : Prop := fnExactLayersOfRow.holds Try.pinned (OpenSpec.ofChange fnExactLayersOfWrong)

/-- 'laws.FnExactUndersIn': WHATEVER THE INPUT: true; the input reads as it did. -/
def fnExactUndersInSpec : ChangeSpec := { name := "fnExactUndersIn", fn := fun _ => fun
  | [d] => { results := [.lit (.bool true)], args := [d] }
  | _ => none }
def fnExactUndersInRow : OpenClaim := { program := "ytkmjbfmmcijojaa", sum := "1e6d7dcfe6b953732c6c8ca9ec3f9528698280f6f387b719a76649b7e9fcae38", func := "loop.example/g00696/laws.FnExactUndersIn", spec := "fnExactUndersIn", unfollowed := true, recurses := true, apart := false }
def FnExactUndersInSaid : Prop := fnExactUndersInRow.holds Try.pinned (OpenSpec.ofChange fnExactUndersInSpec)

/-- ITS FALSE NEIGHBOUR: 'it returns false'. Refute it at one input. -/
def fnExactUndersInWrong : ChangeSpec := { name := "fnExactUndersIn", fn := fun _ => fun
  | [d] => { results := [.lit (.bool false)], args := [d] }
  | _ => none }
def FnExactUndersInWrongFalsely : Prop := fnExactUndersInRow.holds Try.pinned (OpenSpec.ofChange fnExactUndersInWrong)

/-- 'laws.FnExactSharedLocks': WHATEVER THE INPUT: true; the input reads as it did. -/
def fnExactSharedLocksSpec : ChangeSpec := { name := "fnExactSharedLocks", fn := fun _ => fun
  | [d] => { results := [.lit (.bool true)], args := [d] }
  | _ => none }
def fnExactSharedLocksRow : OpenClaim := { program := "ytkmjbfmmcijojaa", sum := "1e6d7dcfe6b953732c6c8ca9ec3f9528698280f6f387b719a76649b7e9fcae38", func := "loop.example/g00696/laws.FnExactSharedLocks", spec := "fnExactSharedLocks", unfollowed := true, recurses := true, apart := false }
def FnExactSharedLocksSaid : Prop := fnExactSharedLocksRow.holds Try.pinned (OpenSpec.ofChange fnExactSharedLocksSpec)

/-- ITS FALSE NEIGHBOUR: 'it returns false'. Refute it at one input. -/
def fnExactSharedLocksWrong : ChangeSpec := { name := "fnExactSharedLocks", fn := fun _ => fun
  | [d] => { results := [.lit (.bool false)], args := [d] }
  | _ => none }
def FnExactSharedLocksWrongFalsely : Prop := fnExactSharedLocksRow.holds Try.pinned (OpenSpec.ofChange fnExactSharedLocksWrong)

/- THE SECOND FORM. 'bulk': how many values and letters a reading holds, each counted each time it is reached (what is shared counts as often as it is met; a slice's spare places count too). A statement '..UptoSaid' is the law's where the arguments, and the package variables that the reading takes, are together of bulk at most 1048576: NARROWER than '..Said'. Prove '..Said' where nothing that the law and all that it calls make is longer than what came in: it says more and counts as full. Else prove '..UptoSaid'. A law counts once. -/
mutual
def uptoBulk {H : Type} : DataW H → Nat
  | .lit (.string bytes) => bytes.length + 1
  | .lit _ => 1
  | .nil => 1
  | .ptr d => uptoBulk d + 1
  | .slice elems spare => uptoBulkAll elems + uptoBulkAll spare + 1
  | .agg parts => uptoBulkAll parts + 1
  | .iface _ d => uptoBulk d + 1
  | .map entries => uptoBulkEntries entries + 1
  | .held _ => 1
def uptoBulkAll {H : Type} : List (DataW H) → Nat
  | [] => 0
  | d :: r => uptoBulk d + uptoBulkAll r
def uptoBulkEntries {H : Type} : List (Lit × DataW H) → Nat
  | [] => 0
  | x :: r => uptoBulkEntry x + uptoBulkEntries r
def uptoBulkEntry {H : Type} : Lit × DataW H → Nat
  | (.string bytes, d) => bytes.length + uptoBulk d + 1
  | (_, d) => uptoBulk d + 1
 end
def uptoSmall : (H : Type) → List (DataW H) → Bool := fun _ ds => decide (uptoBulkAll ds ≤ 1048576)
def OpenSpec.upto (s : _root_.Go.ChangeSpec) : _root_.Go.OpenSpec := { _root_.Go.OpenSpec.ofChange s with cond := some uptoSmall }

/-- 'laws.FnExactRacesIn', WHERE WHAT IT READS IS OF BULK AT MOST 1048576: true; the input reads as it did. -/
def fnExactRacesInUptoRow : OpenClaim := { program := "ytkmjbfmmcijojaa", sum := "1e6d7dcfe6b953732c6c8ca9ec3f9528698280f6f387b719a76649b7e9fcae38", func := "loop.example/g00696/laws.FnExactRacesIn", spec := "fnExactRacesIn", unfollowed := true, recurses := true, apart := false, narrowed := true }
def FnExactRacesInUptoSaid : Prop := fnExactRacesInUptoRow.holds Try.pinned (OpenSpec.upto fnExactRacesInSpec)

/-- 'laws.FnExactClocksOf', WHERE WHAT IT READS IS OF BULK AT MOST 1048576: true; the input reads as it did. -/
def fnExactClocksOfUptoRow : OpenClaim := { program := "ytkmjbfmmcijojaa", sum := "1e6d7dcfe6b953732c6c8ca9ec3f9528698280f6f387b719a76649b7e9fcae38", func := "loop.example/g00696/laws.FnExactClocksOf", spec := "fnExactClocksOf", unfollowed := true, recurses := true, apart := false, narrowed := true }
def FnExactClocksOfUptoSaid : Prop := fnExactClocksOfUptoRow.holds Try.pinned (OpenSpec.upto fnExactClocksOfSpec)

/-- 'laws.FnExactLayersOf', WHERE WHAT IT READS IS OF BULK AT MOST 1048576: true; the input reads as it did. -/
def fnExactLayersOfUptoRow : OpenClaim := { program := "ytkmjbfmmcijojaa", sum := "1e6d7dcfe6b953732c6c8ca9ec3f9528698280f6f387b719a76649b7e9fcae38", func := "loop.example/g00696/laws.FnExactLayersOf", spec := "fnExactLayersOf", unfollowed := true, recurses := true, apart := false, narrowed := true }
def FnExactLayersOfUptoSaid : Prop := fnExactLayersOfUptoRow.holds Try.pinned (OpenSpec.upto fnExactLayersOfSpec)

/-- 'laws.FnExactUndersIn', WHERE WHAT IT READS IS OF BULK AT MOST 1048576: true; the input reads as it did. -/
def fnExactUndersInUptoRow : OpenClaim := { program := "ytkmjbfmmcijojaa", sum := "1e6d7dcfe6b953732c6c8ca9ec3f9528698280f6f387b719a76649b7e9fcae38", func := "loop.example/g00696/laws.FnExactUndersIn", spec := "fnExactUndersIn", unfollowed := true, recurses := true, apart := false, narrowed := true }
def FnExactUndersInUptoSaid : Prop := fnExactUndersInUptoRow.holds Try.pinned (OpenSpec.upto fnExactUndersInSpec)

/-- 'laws.FnExactSharedLocks', WHERE WHAT IT READS IS OF BULK AT MOST 1048576: true; the input reads as it did. -/
def fnExactSharedLocksUptoRow : OpenClaim := { program := "ytkmjbfmmcijojaa", sum := "1e6d7dcfe6b953732c6c8ca9ec3f9528698280f6f387b719a76649b7e9fcae38", func := "loop.example/g00696/laws.FnExactSharedLocks", spec := "fnExactSharedLocks", unfollowed := true, recurses := true, apart := false, narrowed := true }
def FnExactSharedLocksUptoSaid : Prop := fnExactSharedLocksUptoRow.holds Try.pinned (OpenSpec.upto fnExactSharedLocksSpec)

end Rows
end Go.Proofs.Ytkmjbfmmcijojaa
