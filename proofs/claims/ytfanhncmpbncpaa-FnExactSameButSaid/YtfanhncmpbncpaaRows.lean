/-
  No cell of these rows narrows 'for every input' (looked for: loops, veiled, ifaces, maps, wideKeys, modest, calm, conditions, laid).
  DERIVED. THE GIVEN ROWS OF THIS SEAT. 6 by the template 'for every input the law returns true; each argument reads behind the call as it read before'; 0 by the template 'total and deterministic' (their statements: YtfanhncmpbncpaaTotals.lean).
  GIVEN WITH THE SEED: the statements are not yours to turn. If you find one false, say at which input.
  Laid BY PROGRAM, IN A SANDBOX (cutbox-rows.mjs): the forced cells as the released guide's own fill.sh prints them over the translation 1bee87167b9e6a01… (all of the seat's roots in one cut). By AI agents, Wed Nov 11 2026. No macro, syntax, notation, axiom, sorry.
-/
import Derived.Test.YtfanhncmpbncpaaChecked
import GoSem.Claim
import GoSem.ClaimJoined
import GoSem.ClaimMapViews
import Derived.JoinedTies
import Derived.KernelRfl
namespace Go.Proofs.Ytfanhncmpbncpaa
/- THE CELL 'sum', in the pinned program and in every row, IS THE sha256 OF THE DUMP (.gsa) THAT YtfanhncmpbncpaaProg.lean LOADS. Nothing in Lean hashes anything: it is a label: what it is worth is what the hold of that sum in a sandbox is worth. -/
noncomputable def Try.pinned : Pinned := { name := "ytfanhncmpbncpaa", sum := "1bee87167b9e6a0180cf729502482f604d93c133559b97554d0cd6b9c451f3ac", checked := Try.checked }
namespace Rows
def none {H : Type} : Left H := { results := [], args := [] }

/-- 'laws.FnExactIsForm': WHATEVER THE INPUT: true; the input reads as it did. -/
def fnExactIsFormSpec : ChangeSpec := { name := "fnExactIsForm", fn := fun _ => fun
  | [d] => { results := [.lit (.bool true)], args := [d] }
  | _ => none }
def fnExactIsFormRow : OpenClaim := { program := "ytfanhncmpbncpaa", sum := "1bee87167b9e6a0180cf729502482f604d93c133559b97554d0cd6b9c451f3ac", func := "loop.example/g00696/laws.FnExactIsForm", spec := "fnExactIsForm", unfollowed := true, recurses := true, apart := false }
def FnExactIsFormSaid : Prop := fnExactIsFormRow.holds Try.pinned (OpenSpec.ofChange fnExactIsFormSpec)

/-- ITS FALSE NEIGHBOUR: 'it returns false'. Refute it at one input. -/
def fnExactIsFormWrong : ChangeSpec := { name := "fnExactIsForm", fn := fun _ => fun
  | [d] => { results := [.lit (.bool false)], args := [d] }
  | _ => none }
def FnExactIsFormWrongFalsely : Prop := fnExactIsFormRow.holds Try.pinned (OpenSpec.ofChange fnExactIsFormWrong)

/-- 'laws.FnExactSameBut': WHATEVER THE INPUT: true; the input reads as it did. -/
def fnExactSameButSpec : ChangeSpec := { name := "fnExactSameBut", fn := fun _ => fun
  | [d1, d2] => { results := [.lit (.bool true)], args := [d1, d2] }
  | _ => none }
def fnExactSameButRow : OpenClaim := { program := "ytfanhncmpbncpaa", sum := "1bee87167b9e6a0180cf729502482f604d93c133559b97554d0cd6b9c451f3ac", func := "loop.example/g00696/laws.FnExactSameBut", spec := "fnExactSameBut", unfollowed := true, recurses := true, apart := false }
def FnExactSameButSaid : Prop := fnExactSameButRow.holds Try.pinned (OpenSpec.ofChange fnExactSameButSpec)

/-- ITS FALSE NEIGHBOUR: 'it returns false'. Refute it at one input. -/
def fnExactSameButWrong : ChangeSpec := { name := "fnExactSameBut", fn := fun _ => fun
  | [d1, d2] => { results := [.lit (.bool false)], args := [d1, d2] }
  | _ => none }
def FnExactSameButWrongFalsely : Prop := fnExactSameButRow.holds Try.pinned (OpenSpec.ofChange fnExactSameButWrong)

/-- 'laws.FnExactIsCut': WHATEVER THE INPUT: true; the input reads as it did. -/
def fnExactIsCutSpec : ChangeSpec := { name := "fnExactIsCut", fn := fun _ => fun
  | [d1, d2] => { results := [.lit (.bool true)], args := [d1, d2] }
  | _ => none }
def fnExactIsCutRow : OpenClaim := { program := "ytfanhncmpbncpaa", sum := "1bee87167b9e6a0180cf729502482f604d93c133559b97554d0cd6b9c451f3ac", func := "loop.example/g00696/laws.FnExactIsCut", spec := "fnExactIsCut", unfollowed := true, recurses := true, apart := false }
def FnExactIsCutSaid : Prop := fnExactIsCutRow.holds Try.pinned (OpenSpec.ofChange fnExactIsCutSpec)

/-- ITS FALSE NEIGHBOUR: 'it returns false'. Refute it at one input. -/
def fnExactIsCutWrong : ChangeSpec := { name := "fnExactIsCut", fn := fun _ => fun
  | [d1, d2] => { results := [.lit (.bool false)], args := [d1, d2] }
  | _ => none }
def FnExactIsCutWrongFalsely : Prop := fnExactIsCutRow.holds Try.pinned (OpenSpec.ofChange fnExactIsCutWrong)

/-- 'laws.FnExactFirstForm': WHATEVER THE INPUT: true; the input reads as it did. -/
def fnExactFirstFormSpec : ChangeSpec := { name := "fnExactFirstForm", fn := fun _ => fun
  | [d] => { results := [.lit (.bool true)], args := [d] }
  | _ => none }
def fnExactFirstFormRow : OpenClaim := { program := "ytfanhncmpbncpaa", sum := "1bee87167b9e6a0180cf729502482f604d93c133559b97554d0cd6b9c451f3ac", func := "loop.example/g00696/laws.FnExactFirstForm", spec := "fnExactFirstForm", unfollowed := true, recurses := true, apart := false }
def FnExactFirstFormSaid : Prop := fnExactFirstFormRow.holds Try.pinned (OpenSpec.ofChange fnExactFirstFormSpec)

/-- ITS FALSE NEIGHBOUR: 'it returns false'. Refute it at one input. -/
def fnExactFirstFormWrong : ChangeSpec := { name := "fnExactFirstForm", fn := fun _ => fun
  | [d] => { results := [.lit (.bool false)], args := [d] }
  | _ => none }
def FnExactFirstFormWrongFalsely : Prop := fnExactFirstFormRow.holds Try.pinned (OpenSpec.ofChange fnExactFirstFormWrong)

/-- 'laws.FnExactFastRace': WHATEVER THE INPUT: true; the input reads as it did. -/
def fnExactFastRaceSpec : ChangeSpec := { name := "fnExactFastRace", fn := fun _ => fun
  | [d] => { results := [.lit (.bool true)], args := [d] }
  | _ => none }
def fnExactFastRaceRow : OpenClaim := { program := "ytfanhncmpbncpaa", sum := "1bee87167b9e6a0180cf729502482f604d93c133559b97554d0cd6b9c451f3ac", func := "loop.example/g00696/laws.FnExactFastRace", spec := "fnExactFastRace", unfollowed := true, recurses := true, apart := false }
def FnExactFastRaceSaid : Prop := fnExactFastRaceRow.holds Try.pinned (OpenSpec.ofChange fnExactFastRaceSpec)

/-- ITS FALSE NEIGHBOUR: 'it returns false'. Refute it at one input. -/
def fnExactFastRaceWrong : ChangeSpec := { name := "fnExactFastRace", fn := fun _ => fun
  | [d] => { results := [.lit (.bool false)], args := [d] }
  | _ => none }
def FnExactFastRaceWrongFalsely : Prop := fnExactFastRaceRow.holds Try.pinned (OpenSpec.ofChange fnExactFastRaceWrong)

/-- 'laws.FnExactSideBySide': WHATEVER THE INPUT: true; the input reads as it did. -/
def fnExactSideBySideSpec : ChangeSpec := { name := "fnExactSideBySide", fn := fun _ => fun
  | [d] => { results := [.lit (.bool true)], args := [d] }
  | _ => none }
def fnExactSideBySideRow : OpenClaim := { program := "ytfanhncmpbncpaa", sum := "1bee87167b9e6a0180cf729502482f604d93c133559b97554d0cd6b9c451f3ac", func := "loop.example/g00696/laws.FnExactSideBySide", spec := "fnExactSideBySide", unfollowed := true, recurses := true, apart := false }
def FnExactSideBySideSaid : Prop := fnExactSideBySideRow.holds Try.pinned (OpenSpec.ofChange fnExactSideBySideSpec)

/-- ITS FALSE NEIGHBOUR: 'it returns false'. Refute it at one input. -/
def fnExactSideBySideWrong : ChangeSpec := { name := "fnExactSideBySide", fn := fun _ => fun
  | [d] => { results := [.lit (.bool false)], args := [d] }
  | _ => none }
def FnExactSideBySideWrongFalsely : Prop := fnExactSideBySideRow.holds Try.pinned (OpenSpec.ofChange fnExactSideBySideWrong)

/- THE SECOND FORM. 'bulk': how many values and letters a reading holds, each counted each time it is reached (what is shared counts as often as it is met; a slice's spare places count too). A statement '..UptoSaid' is the law's where the arguments, and the package variables that the reading takes, are together of bulk at most 1048576: NARROWER than '..Said'. Prove '..Said' where nothing that the law and all that it calls make is longer than what came in: it says more and counts as full. Else prove '..UptoSaid'. A law counts once. -/
mutual
def uptoBulk {H : Type} : DataW H → Nat
  | .lit (.string bytes) => bytes.length + 1
  | .lit _ => 1
  | .nil => 1
  | .ptr d => uptoBulk d + 1
  | .slice elems spare => uptoBulkAll elems + uptoBulkAll spare + 1
  | .agg parts => uptoBulkAll parts + 1
  | .iface _ d => uptoBulk d + 1
  | .map entries => uptoBulkEntries entries + 1
  | .held _ => 1
def uptoBulkAll {H : Type} : List (DataW H) → Nat
  | [] => 0
  | d :: r => uptoBulk d + uptoBulkAll r
def uptoBulkEntries {H : Type} : List (Lit × DataW H) → Nat
  | [] => 0
  | x :: r => uptoBulkEntry x + uptoBulkEntries r
def uptoBulkEntry {H : Type} : Lit × DataW H → Nat
  | (.string bytes, d) => bytes.length + uptoBulk d + 1
  | (_, d) => uptoBulk d + 1
 end
def uptoSmall : (H : Type) → List (DataW H) → Bool := fun _ ds => decide (uptoBulkAll ds ≤ 1048576)
def OpenSpec.upto (s : _root_.Go.ChangeSpec) : _root_.Go.OpenSpec := { _root_.Go.OpenSpec.ofChange s with cond := some uptoSmall }

/-- 'laws.FnExactIsForm', WHERE WHAT IT READS IS OF BULK AT MOST 1048576: true; the input reads as it did. -/
def fnExactIsFormUptoRow : OpenClaim := { program := "ytfanhncmpbncpaa", sum := "1bee87167b9e6a0180cf729502482f604d93c133559b97554d0cd6b9c451f3ac", func := "loop.example/g00696/laws.FnExactIsForm", spec := "fnExactIsForm", unfollowed := true, recurses := true, apart := false, narrowed := true }
def FnExactIsFormUptoSaid : Prop := fnExactIsFormUptoRow.holds Try.pinned (OpenSpec.upto fnExactIsFormSpec)

/-- 'laws.FnExactSameBut', WHERE WHAT IT READS IS OF BULK AT MOST 1048576: true; the input reads as it did. -/
def fnExactSameButUptoRow : OpenClaim := { program := "ytfanhncmpbncpaa", sum := "1bee87167b9e6a0180cf729502482f604d93c133559b97554d0cd6b9c451f3ac", func := "loop.example/g00696/laws.FnExactSameBut", spec := "fnExactSameBut", unfollowed := true, recurses := true, apart := false, narrowed := true }
def FnExactSameButUptoSaid : Prop := fnExactSameButUptoRow.holds Try.pinned (OpenSpec.upto fnExactSameButSpec)

/-- 'laws.FnExactIsCut', WHERE WHAT IT READS IS OF BULK AT MOST 1048576: true; the input reads as it did. -/
def fnExactIsCutUptoRow : OpenClaim := { program := "ytfanhncmpbncpaa", sum := "1bee87167b9e6a0180cf729502482f604d93c133559b97554d0cd6b9c451f3ac", func := "loop.example/g00696/laws.FnExactIsCut", spec := "fnExactIsCut", unfollowed := true, recurses := true, apart := false, narrowed := true }
def FnExactIsCutUptoSaid : Prop := fnExactIsCutUptoRow.holds Try.pinned (OpenSpec.upto fnExactIsCutSpec)

/-- 'laws.FnExactFirstForm', WHERE WHAT IT READS IS OF BULK AT MOST 1048576: true; the input reads as it did. -/
def fnExactFirstFormUptoRow : OpenClaim := { program := "ytfanhncmpbncpaa", sum := "1bee87167b9e6a0180cf729502482f604d93c133559b97554d0cd6b9c451f3ac", func := "loop.example/g00696/laws.FnExactFirstForm", spec := "fnExactFirstForm", unfollowed := true, recurses := true, apart := false, narrowed := true }
def FnExactFirstFormUptoSaid : Prop := fnExactFirstFormUptoRow.holds Try.pinned (OpenSpec.upto fnExactFirstFormSpec)

/-- 'laws.FnExactFastRace', WHERE WHAT IT READS IS OF BULK AT MOST 1048576: true; the input reads as it did. -/
def fnExactFastRaceUptoRow : OpenClaim := { program := "ytfanhncmpbncpaa", sum := "1bee87167b9e6a0180cf729502482f604d93c133559b97554d0cd6b9c451f3ac", func := "loop.example/g00696/laws.FnExactFastRace", spec := "fnExactFastRace", unfollowed := true, recurses := true, apart := false, narrowed := true }
def FnExactFastRaceUptoSaid : Prop := fnExactFastRaceUptoRow.holds Try.pinned (OpenSpec.upto fnExactFastRaceSpec)

/-- 'laws.FnExactSideBySide', WHERE WHAT IT READS IS OF BULK AT MOST 1048576: true; the input reads as it did. -/
def fnExactSideBySideUptoRow : OpenClaim := { program := "ytfanhncmpbncpaa", sum := "1bee87167b9e6a0180cf729502482f604d93c133559b97554d0cd6b9c451f3ac", func := "loop.example/g00696/laws.FnExactSideBySide", spec := "fnExactSideBySide", unfollowed := true, recurses := true, apart := false, narrowed := true }
def FnExactSideBySideUptoSaid : Prop := fnExactSideBySideUptoRow.holds Try.pinned (OpenSpec.upto fnExactSideBySideSpec)

end Rows
end Go.Proofs.Ytfanhncmpbncpaa
