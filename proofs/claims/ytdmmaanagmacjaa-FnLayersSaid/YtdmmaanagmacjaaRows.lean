/-
  No cell of these rows narrows 'for every input' (looked for: loops, veiled, ifaces, maps, wideKeys, modest, calm, conditions, laid).
  DERIVED. THE GIVEN ROWS OF THIS SEAT. 5 by the template 'for every input the law returns true; each argument reads behind the call as it read before'; 0 by the template 'total and deterministic' (their statements: YtdmmaanagmacjaaTotals.lean).
  GIVEN WITH THE SEED: the statements are not yours to turn. If you find one false, say at which input.
  Laid BY PROGRAM, IN A SANDBOX (cutbox-rows.mjs): the forced cells as the released guide's own fill.sh prints them over the translation a32b9de9d80ec694… (all of the seat's roots in one cut). By AI agents, Wed Nov 11 2026. No macro, syntax, notation, axiom, sorry.
-/
import Derived.Test.YtdmmaanagmacjaaChecked
import GoSem.Claim
import GoSem.ClaimJoined
import GoSem.ClaimMapViews
import Derived.JoinedTies
import Derived.KernelRfl
namespace Go.Proofs.Ytdmmaanagmacjaa
/- THE CELL 'sum', in the pinned program and in every row, IS THE sha256 OF THE DUMP (.gsa) THAT YtdmmaanagmacjaaProg.lean LOADS. Nothing in Lean hashes anything: it is a label: what it is worth is what the hold of that sum in a sandbox is worth. -/
noncomputable def Try.pinned : Pinned := { name := "ytdmmaanagmacjaa", sum := "a32b9de9d80ec6944e1d1353e1cf273d1288ee52a277f9cccb96de507e0f3e55", checked := Try.checked }
namespace Rows
def none {H : Type} : Left H := { results := [], args := [] }

/-- 'laws.FnExactCutsOf': WHATEVER THE INPUT: true; the input reads as it did. -/
def fnExactCutsOfSpec : ChangeSpec := { name := "fnExactCutsOf", fn := fun _ => fun
  | [d] => { results := [.lit (.bool true)], args := [d] }
  | _ => none }
def fnExactCutsOfRow : OpenClaim := { program := "ytdmmaanagmacjaa", sum := "a32b9de9d80ec6944e1d1353e1cf273d1288ee52a277f9cccb96de507e0f3e55", func := "loop.example/g00696/laws.FnExactCutsOf", spec := "fnExactCutsOf", unfollowed := true, recurses := true, apart := false }
def FnExactCutsOfSaid : Prop := fnExactCutsOfRow.holds Try.pinned (OpenSpec.ofChange fnExactCutsOfSpec)

/-- ITS FALSE NEIGHBOUR: 'it returns false'. Refute it at one input. -/
def fnExactCutsOfWrong : ChangeSpec := { name := "fnExactCutsOf", fn := fun _ => fun
  | [d] => { results := [.lit (.bool false)], args := [d] }
  | _ => none }
def FnExactCutsOfWrongFalsely : Prop := fnExactCutsOfRow.holds Try.pinned (OpenSpec.ofChange fnExactCutsOfWrong)

/-- 'laws.FnExactWarnsOf': WHATEVER THE INPUT: true; the input reads as it did. -/
def fnExactWarnsOfSpec : ChangeSpec := { name := "fnExactWarnsOf", fn := fun _ => fun
  | [d] => { results := [.lit (.bool true)], args := [d] }
  | _ => none }
def fnExactWarnsOfRow : OpenClaim := { program := "ytdmmaanagmacjaa", sum := "a32b9de9d80ec6944e1d1353e1cf273d1288ee52a277f9cccb96de507e0f3e55", func := "loop.example/g00696/laws.FnExactWarnsOf", spec := "fnExactWarnsOf", unfollowed := true, recurses := true, apart := false }
def FnExactWarnsOfSaid : Prop := fnExactWarnsOfRow.holds Try.pinned (OpenSpec.ofChange fnExactWarnsOfSpec)

/-- ITS FALSE NEIGHBOUR: 'it returns false'. Refute it at one input. -/
def fnExactWarnsOfWrong : ChangeSpec := { name := "fnExactWarnsOf", fn := fun _ => fun
  | [d] => { results := [.lit (.bool false)], args := [d] }
  | _ => none }
def FnExactWarnsOfWrongFalsely : Prop := fnExactWarnsOfRow.holds Try.pinned (OpenSpec.ofChange fnExactWarnsOfWrong)

/-- 'laws.FnStore': WHATEVER THE INPUT: true; the input reads as it did. -/
def fnStoreSpec : ChangeSpec := { name := "fnStore", fn := fun _ => fun
  | [d1, d2] => { results := [.lit (.bool true)], args := [d1, d2] }
  | _ => none }
def fnStoreRow : OpenClaim := { program := "ytdmmaanagmacjaa", sum := "a32b9de9d80ec6944e1d1353e1cf273d1288ee52a277f9cccb96de507e0f3e55", func := "loop.example/g00696/laws.FnStore", spec := "fnStore", apart := false }
def FnStoreSaid : Prop := fnStoreRow.holds Try.pinned (OpenSpec.ofChange fnStoreSpec)

/-- ITS FALSE NEIGHBOUR: 'it returns false'. Refute it at one input. -/
def fnStoreWrong : ChangeSpec := { name := "fnStore", fn := fun _ => fun
  | [d1, d2] => { results := [.lit (.bool false)], args := [d1, d2] }
  | _ => none }
def FnStoreWrongFalsely : Prop := fnStoreRow.holds Try.pinned (OpenSpec.ofChange fnStoreWrong)

/-- 'laws.FnLayers': WHATEVER THE INPUT: true; the input reads as it did. -/
def fnLayersSpec : ChangeSpec := { name := "fnLayers", fn := fun _ => fun
  | [d1, d2] => { results := [.lit (.bool true)], args := [d1, d2] }
  | _ => none }
def fnLayersRow : OpenClaim := { program := "ytdmmaanagmacjaa", sum := "a32b9de9d80ec6944e1d1353e1cf273d1288ee52a277f9cccb96de507e0f3e55", func := "loop.example/g00696/laws.FnLayers", spec := "fnLayers", unfollowed := true, recurses := true, apart := false }
def FnLayersSaid : Prop := fnLayersRow.holds Try.pinned (OpenSpec.ofChange fnLayersSpec)

/-- ITS FALSE NEIGHBOUR: 'it returns false'. Refute it at one input. -/
def fnLayersWrong : ChangeSpec := { name := "fnLayers", fn := fun _ => fun
  | [d1, d2] => { results := [.lit (.bool false)], args := [d1, d2] }
  | _ => none }
def FnLayersWrongFalsely : Prop := fnLayersRow.holds Try.pinned (OpenSpec.ofChange fnLayersWrong)

/-- 'laws.FnAhead': WHATEVER THE INPUT: true; the input reads as it did. -/
def fnAheadSpec : ChangeSpec := { name := "fnAhead", fn := fun _ => fun
  | [d1, d2] => { results := [.lit (.bool true)], args := [d1, d2] }
  | _ => none }
def fnAheadRow : OpenClaim := { program := "ytdmmaanagmacjaa", sum := "a32b9de9d80ec6944e1d1353e1cf273d1288ee52a277f9cccb96de507e0f3e55", func := "loop.example/g00696/laws.FnAhead", spec := "fnAhead", unfollowed := true, recurses := true, apart := false }
def FnAheadSaid : Prop := fnAheadRow.holds Try.pinned (OpenSpec.ofChange fnAheadSpec)

/-- ITS FALSE NEIGHBOUR: 'it returns false'. Refute it at one input. -/
def fnAheadWrong : ChangeSpec := { name := "fnAhead", fn := fun _ => fun
  | [d1, d2] => { results := [.lit (.bool false)], args := [d1, d2] }
  | _ => none }
def FnAheadWrongFalsely : Prop := fnAheadRow.holds Try.pinned (OpenSpec.ofChange fnAheadWrong)

/- THE SECOND FORM. 'bulk': how many values and letters a reading holds, each counted each time it is reached (what is shared counts as often as it is met; a slice's spare places count too). A statement '..UptoSaid' is the law's where the arguments, and the package variables that the reading takes, are together of bulk at most 1048576: NARROWER than '..Said'. Prove '..Said' where nothing that the law and all that it calls make is longer than what came in: it says more and counts as full. Else prove '..UptoSaid'. A law counts once. -/
mutual
def uptoBulk {H : Type} : DataW H → Nat
  | .lit (.string bytes) => bytes.length + 1
  | .lit _ => 1
  | .nil => 1
  | .ptr d => uptoBulk d + 1
  | .slice elems spare => uptoBulkAll elems + uptoBulkAll spare + 1
  | .agg parts => uptoBulkAll parts + 1
  | .iface _ d => uptoBulk d + 1
  | .map entries => uptoBulkEntries entries + 1
  | .held _ => 1
def uptoBulkAll {H : Type} : List (DataW H) → Nat
  | [] => 0
  | d :: r => uptoBulk d + uptoBulkAll r
def uptoBulkEntries {H : Type} : List (Lit × DataW H) → Nat
  | [] => 0
  | x :: r => uptoBulkEntry x + uptoBulkEntries r
def uptoBulkEntry {H : Type} : Lit × DataW H → Nat
  | (.string bytes, d) => bytes.length + uptoBulk d + 1
  | (_, d) => uptoBulk d + 1
 end
def uptoSmall : (H : Type) → List (DataW H) → Bool := fun _ ds => decide (uptoBulkAll ds ≤ 1048576)
def OpenSpec.upto (s : _root_.Go.ChangeSpec) : _root_.Go.OpenSpec := { _root_.Go.OpenSpec.ofChange s with cond := some uptoSmall }

/-- 'laws.FnExactCutsOf', WHERE WHAT IT READS IS OF BULK AT MOST 1048576: true; the input reads as it did. -/
def fnExactCutsOfUptoRow : OpenClaim := { program := "ytdmmaanagmacjaa", sum := "a32b9de9d80ec6944e1d1353e1cf273d1288ee52a277f9cccb96de507e0f3e55", func := "loop.example/g00696/laws.FnExactCutsOf", spec := "fnExactCutsOf", unfollowed := true, recurses := true, apart := false, narrowed := true }
def FnExactCutsOfUptoSaid : Prop := fnExactCutsOfUptoRow.holds Try.pinned (OpenSpec.upto fnExactCutsOfSpec)

/-- 'laws.FnExactWarnsOf', WHERE WHAT IT READS IS OF BULK AT MOST 1048576: true; the input reads as it did. -/
def fnExactWarnsOfUptoRow : OpenClaim := { program := "ytdmmaanagmacjaa", sum := "a32b9de9d80ec6944e1d1353e1cf273d1288ee52a277f9cccb96de507e0f3e55", func := "loop.example/g00696/laws.FnExactWarnsOf", spec := "fnExactWarnsOf", unfollowed := true, recurses := true, apart := false, narrowed := true }
def FnExactWarnsOfUptoSaid : Prop := fnExactWarnsOfUptoRow.holds Try.pinned (OpenSpec.upto fnExactWarnsOfSpec)

/-- 'laws.FnStore', WHERE WHAT IT READS IS OF BULK AT MOST 1048576: true; the input reads as it did. -/
def fnStoreUptoRow : OpenClaim := { program := "ytdmmaanagmacjaa", sum := "a32b9de9d80ec6944e1d1353e1cf273d1288ee52a277f9cccb96de507e0f3e55", func := "loop.example/g00696/laws.FnStore", spec := "fnStore", apart := false, narrowed := true }
def FnStoreUptoSaid : Prop := fnStoreUptoRow.holds Try.pinned (OpenSpec.upto fnStoreSpec)

/-- 'laws.FnLayers', WHERE WHAT IT READS IS OF BULK AT MOST 1048576: true; the input reads as it did. -/
def fnLayersUptoRow : OpenClaim := { program := "ytdmmaanagmacjaa", sum := "a32b9de9d80ec6944e1d1353e1cf273d1288ee52a277f9cccb96de507e0f3e55", func := "loop.example/g00696/laws.FnLayers", spec := "fnLayers", unfollowed := true, recurses := true, apart := false, narrowed := true }
def FnLayersUptoSaid : Prop := fnLayersUptoRow.holds Try.pinned (OpenSpec.upto fnLayersSpec)

/-- 'laws.FnAhead', WHERE WHAT IT READS IS OF BULK AT MOST 1048576: true; the input reads as it did. -/
def fnAheadUptoRow : OpenClaim := { program := "ytdmmaanagmacjaa", sum := "a32b9de9d80ec6944e1d1353e1cf273d1288ee52a277f9cccb96de507e0f3e55", func := "loop.example/g00696/laws.FnAhead", spec := "fnAhead", unfollowed := true, recurses := true, apart := false, narrowed := true }
def FnAheadUptoSaid : Prop := fnAheadUptoRow.holds Try.pinned (OpenSpec.upto fnAheadSpec)

end Rows
end Go.Proofs.Ytdmmaanagmacjaa
