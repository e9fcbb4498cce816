/- UN: part of the layer and the walks that the claims of this seat stand on; no condition of its own. -/
import Derived.Test.YtefcdjocfjpjgaaRows
import Derived.JoinedOf
import Derived.KernelRfl
namespace Go.Proofs.Ytefcdjocfjpjgaa
open Go
theorem and_mk_fnExactNextAfter {a b : Bool} (h : a = true) (k : b = true) : (a && b) = true := by rw [h, k]; rfl
theorem jf0_fnExactNextAfter : (Rows.fnExactNextAfterRow.wf (OpenSpec.ofChange Rows.fnExactNextAfterSpec) : Bool) = true := by kernel_rfl
theorem jf1_fnExactNextAfter : (laidOutB Try.prog : Bool) = true := by kernel_rfl
theorem jf2_fnExactNextAfter : (mapsRowed Try.prog : Bool) = true := by kernel_rfl
theorem jf3_fnExactNextAfter : (Try.f7.params.all (Try.prog.readableRec ·) : Bool) = true := by kernel_rfl
theorem jf4_fnExactNextAfter : (namedTie Try.prog Rows.fnExactNextAfterRow.named Rows.fnExactNextAfterSpec.vars : Bool) = true := by kernel_rfl
theorem jf5_fnExactNextAfter : ((Rows.fnExactNextAfterRow.stops == []) : Bool) = true := by kernel_rfl
theorem jf6_fnExactNextAfter : ((Try.prog.stops == []) : Bool) = true := by kernel_rfl
theorem jf7_fnExactNextAfter : ((Rows.fnExactNextAfterRow.knobs == []) : Bool) = true := by kernel_rfl
theorem jf8_fnExactNextAfter : ((Try.prog.stopKnobs == []) : Bool) = true := by kernel_rfl
theorem jf9_fnExactNextAfter : ((Rows.fnExactNextAfterRow.inPlace == Try.prog.inPlace 7) : Bool) = true := by kernel_rfl
theorem jf10_fnExactNextAfter : ((Rows.fnExactNextAfterRow.unfollowed == Try.prog.unfollowed 7) : Bool) = true := by kernel_rfl
theorem jf11_fnExactNextAfter : ((Rows.fnExactNextAfterRow.recurses == Try.prog.recurses 7) : Bool) = true := by kernel_rfl
theorem jf12_fnExactNextAfter : ((Rows.fnExactNextAfterRow.named == Try.prog.varsNamed 7) : Bool) = true := by kernel_rfl
theorem jf13_fnExactNextAfter : ((Rows.fnExactNextAfterRow.maps == (Try.f7.params.toList ++ Rows.fnExactNextAfterSpec.plain.varTypes Try.prog).any (Try.prog.mapsRec ·)) : Bool) = true := by kernel_rfl
theorem jf14_fnExactNextAfter : ((Rows.fnExactNextAfterRow.ifaces == (Try.f7.params.toList ++ Rows.fnExactNextAfterSpec.plain.varTypes Try.prog).any (Try.prog.ifacesRec ·)) : Bool) = true := by kernel_rfl
theorem jf15_fnExactNextAfter : ((Rows.fnExactNextAfterRow.mapsOut == Try.prog.mapsAmong Try.f7.resultTypes.toList) : Bool) = true := by kernel_rfl
theorem jf16_fnExactNextAfter : ((Rows.fnExactNextAfterRow.loops == (Try.f7.params.toList ++ Rows.fnExactNextAfterSpec.plain.varTypes Try.prog).any (Try.prog.loopsFrom ·)) : Bool) = true := by kernel_rfl
theorem jf17_fnExactNextAfter : ((Rows.fnExactNextAfterRow.wideKeys == (Try.f7.params.toList ++ Rows.fnExactNextAfterSpec.plain.varTypes Try.prog ++ Try.f7.resultTypes.toList).any (Try.prog.wideKeysFrom ·)) : Bool) = true := by kernel_rfl
theorem jf18_fnExactNextAfter : (Rows.fnExactNextAfterSpec.vars.all (Try.prog.varReadable ·) : Bool) = true := by kernel_rfl
theorem jf19_fnExactNextAfter : (Try.f7.resultTypes.all (fun t => Try.prog.readableRec t && decide (t < Try.prog.types.size)) : Bool) = true := by kernel_rfl
theorem jf20_fnExactNextAfter : ((Rows.fnExactNextAfterRow.ifacesOut == Try.f7.resultTypes.toList.any (Try.prog.ifacesRec ·)) : Bool) = true := by kernel_rfl
theorem jf21_fnExactNextAfter : ((Rows.fnExactNextAfterRow.loopsOut == Try.f7.resultTypes.toList.any (Try.prog.loopsFrom ·)) : Bool) = true := by kernel_rfl
theorem jf22_fnExactNextAfter : ((Rows.fnExactNextAfterRow.plainKeys == Try.prog.plainKeys) : Bool) = true := by kernel_rfl
theorem jf23_fnExactNextAfter : (Rows.fnExactNextAfterRow.shortTexts.isNone : Bool) = true := by kernel_rfl
theorem jf24_fnExactNextAfter : (Try.prog.stopsHeard : Bool) = true := by kernel_rfl
theorem jf25_fnExactNextAfter : (Try.prog.mayEnter : Bool) = true := by kernel_rfl
theorem jf26_fnExactNextAfter : ((Rows.fnExactNextAfterRow.lifted == Try.prog.liftsFinal) : Bool) = true := by kernel_rfl
theorem jf27_fnExactNextAfter : ((Try.prog.make == some Rows.fnExactNextAfterRow.make) : Bool) = true := by kernel_rfl
theorem jf28_fnExactNextAfter : ((Rows.fnExactNextAfterRow.kinds == (if Rows.fnExactNextAfterRow.domain.isEmpty then [] else Try.f7.params.toList.map fun t => match Try.prog.underlying t with | some (.int k) => some k | _ => none)) : Bool) = true := by kernel_rfl
theorem jf29_fnExactNextAfter : ((Rows.fnExactNextAfterRow.pinned == Rows.fnExactNextAfterRow.pinnedBy) : Bool) = true := by kernel_rfl
theorem jf30_fnExactNextAfter : ((Rows.fnExactNextAfterRow.veiled == (Try.f7.params.toList ++ Rows.fnExactNextAfterSpec.plain.varTypes Try.prog ++ Try.f7.resultTypes.toList).any (Try.prog.veiledRec ·)) : Bool) = true := by kernel_rfl
theorem jf31_fnExactNextAfter : (Rows.fnExactNextAfterRow.veiledFits Try.prog Try.f7.params.toList (Try.f7.params.toList ++ Rows.fnExactNextAfterSpec.plain.varTypes Try.prog ++ Try.f7.resultTypes.toList) : Bool) = true := by kernel_rfl
set_option maxRecDepth 100000 in
theorem facts_fnExactNextAfter : joinedFacts Try.prog 7 Try.f7 Rows.fnExactNextAfterSpec Rows.fnExactNextAfterRow = true := by unfold joinedFacts; exact (and_mk_fnExactNextAfter (and_mk_fnExactNextAfter (and_mk_fnExactNextAfter (and_mk_fnExactNextAfter (and_mk_fnExactNextAfter (and_mk_fnExactNextAfter (and_mk_fnExactNextAfter (and_mk_fnExactNextAfter (and_mk_fnExactNextAfter (and_mk_fnExactNextAfter (and_mk_fnExactNextAfter (and_mk_fnExactNextAfter (and_mk_fnExactNextAfter (and_mk_fnExactNextAfter (and_mk_fnExactNextAfter (and_mk_fnExactNextAfter (and_mk_fnExactNextAfter (and_mk_fnExactNextAfter (and_mk_fnExactNextAfter (and_mk_fnExactNextAfter (and_mk_fnExactNextAfter (and_mk_fnExactNextAfter (and_mk_fnExactNextAfter (and_mk_fnExactNextAfter (and_mk_fnExactNextAfter (and_mk_fnExactNextAfter (and_mk_fnExactNextAfter (and_mk_fnExactNextAfter (and_mk_fnExactNextAfter (and_mk_fnExactNextAfter (and_mk_fnExactNextAfter jf0_fnExactNextAfter jf1_fnExactNextAfter) jf2_fnExactNextAfter) jf3_fnExactNextAfter) jf4_fnExactNextAfter) jf5_fnExactNextAfter) jf6_fnExactNextAfter) jf7_fnExactNextAfter) jf8_fnExactNextAfter) jf9_fnExactNextAfter) jf10_fnExactNextAfter) jf11_fnExactNextAfter) jf12_fnExactNextAfter) jf13_fnExactNextAfter) jf14_fnExactNextAfter) jf15_fnExactNextAfter) jf16_fnExactNextAfter) jf17_fnExactNextAfter) jf18_fnExactNextAfter) jf19_fnExactNextAfter) jf20_fnExactNextAfter) jf21_fnExactNextAfter) jf22_fnExactNextAfter) jf23_fnExactNextAfter) jf24_fnExactNextAfter) jf25_fnExactNextAfter) jf26_fnExactNextAfter) jf27_fnExactNextAfter) jf28_fnExactNextAfter) jf29_fnExactNextAfter) jf30_fnExactNextAfter) jf31_fnExactNextAfter)
end Go.Proofs.Ytefcdjocfjpjgaa
