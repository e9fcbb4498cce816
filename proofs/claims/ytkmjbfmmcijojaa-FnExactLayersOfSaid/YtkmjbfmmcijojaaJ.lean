/- The program's LayersOf returns what the reference's returns, for all arguments; no condition. -/

import Derived.Test.YtkmjbfmmcijojaaTX
import Derived.Test.YtkmjbfmmcijojaaLY
import Derived.Test.YtkmjbfmmcijojaaRows
import Derived.WalkKit
import Derived.ProofKit
import Derived.OpenShut
import Derived.ShutString
import Derived.ChangeOld
import Derived.Below
set_option linter.unusedVariables false
namespace Go.Proofs.Ytkmjbfmmcijojaa
open Go Go.T
open Go.ChangeShapes Go.WideShapes Go.ChangeAt Go.RowKit
open Go.ChangeMaps (open_string shut_string)

theorem own_knob : ownKnob Try.prog.godebug = none := by kernel_rfl
theorem laid_out : laidOutB Try.prog = true := by kernel_rfl
theorem and_mk_fnExactLayersOf {a b : Bool} (h : a = true) (k : b = true) : (a && b) = true := by rw [h, k]; rfl
theorem jf0_fnExactLayersOf : (Rows.fnExactLayersOfRow.wf (OpenSpec.ofChange Rows.fnExactLayersOfSpec) : Bool) = true := by kernel_rfl
theorem jf1_fnExactLayersOf : (laidOutB Try.prog : Bool) = true := by kernel_rfl
theorem jf2_fnExactLayersOf : (mapsRowed Try.prog : Bool) = true := by kernel_rfl
theorem jf3_fnExactLayersOf : (Try.f5.params.all (Try.prog.readableRec ·) : Bool) = true := by kernel_rfl
theorem jf4_fnExactLayersOf : (namedTie Try.prog Rows.fnExactLayersOfRow.named Rows.fnExactLayersOfSpec.vars : Bool) = true := by kernel_rfl
theorem jf5_fnExactLayersOf : ((Rows.fnExactLayersOfRow.stops == []) : Bool) = true := by kernel_rfl
theorem jf6_fnExactLayersOf : ((Try.prog.stops == []) : Bool) = true := by kernel_rfl
theorem jf7_fnExactLayersOf : ((Rows.fnExactLayersOfRow.knobs == []) : Bool) = true := by kernel_rfl
theorem jf8_fnExactLayersOf : ((Try.prog.stopKnobs == []) : Bool) = true := by kernel_rfl
theorem jf9_fnExactLayersOf : ((Rows.fnExactLayersOfRow.inPlace == Try.prog.inPlace 5) : Bool) = true := by kernel_rfl
theorem jf10_fnExactLayersOf : ((Rows.fnExactLayersOfRow.unfollowed == Try.prog.unfollowed 5) : Bool) = true := by kernel_rfl
theorem jf11_fnExactLayersOf : ((Rows.fnExactLayersOfRow.recurses == Try.prog.recurses 5) : Bool) = true := by kernel_rfl
theorem jf12_fnExactLayersOf : ((Rows.fnExactLayersOfRow.named == Try.prog.varsNamed 5) : Bool) = true := by kernel_rfl
theorem jf13_fnExactLayersOf : ((Rows.fnExactLayersOfRow.maps == (Try.f5.params.toList ++ Rows.fnExactLayersOfSpec.plain.varTypes Try.prog).any (Try.prog.mapsRec ·)) : Bool) = true := by kernel_rfl
theorem jf14_fnExactLayersOf : ((Rows.fnExactLayersOfRow.ifaces == (Try.f5.params.toList ++ Rows.fnExactLayersOfSpec.plain.varTypes Try.prog).any (Try.prog.ifacesRec ·)) : Bool) = true := by kernel_rfl
theorem jf15_fnExactLayersOf : ((Rows.fnExactLayersOfRow.mapsOut == Try.prog.mapsAmong Try.f5.resultTypes.toList) : Bool) = true := by kernel_rfl
theorem jf16_fnExactLayersOf : ((Rows.fnExactLayersOfRow.loops == (Try.f5.params.toList ++ Rows.fnExactLayersOfSpec.plain.varTypes Try.prog).any (Try.prog.loopsFrom ·)) : Bool) = true := by kernel_rfl
theorem jf17_fnExactLayersOf : ((Rows.fnExactLayersOfRow.wideKeys == (Try.f5.params.toList ++ Rows.fnExactLayersOfSpec.plain.varTypes Try.prog ++ Try.f5.resultTypes.toList).any (Try.prog.wideKeysFrom ·)) : Bool) = true := by kernel_rfl
theorem jf18_fnExactLayersOf : (Rows.fnExactLayersOfSpec.vars.all (Try.prog.varReadable ·) : Bool) = true := by kernel_rfl
theorem jf19_fnExactLayersOf : (Try.f5.resultTypes.all (fun t => Try.prog.readableRec t && decide (t < Try.prog.types.size)) : Bool) = true := by kernel_rfl
theorem jf20_fnExactLayersOf : ((Rows.fnExactLayersOfRow.ifacesOut == Try.f5.resultTypes.toList.any (Try.prog.ifacesRec ·)) : Bool) = true := by kernel_rfl
theorem jf21_fnExactLayersOf : ((Rows.fnExactLayersOfRow.loopsOut == Try.f5.resultTypes.toList.any (Try.prog.loopsFrom ·)) : Bool) = true := by kernel_rfl
theorem jf22_fnExactLayersOf : ((Rows.fnExactLayersOfRow.plainKeys == Try.prog.plainKeys) : Bool) = true := by kernel_rfl
theorem jf23_fnExactLayersOf : (Rows.fnExactLayersOfRow.shortTexts.isNone : Bool) = true := by kernel_rfl
theorem jf24_fnExactLayersOf : (Try.prog.stopsHeard : Bool) = true := by kernel_rfl
theorem jf25_fnExactLayersOf : (Try.prog.mayEnter : Bool) = true := by kernel_rfl
theorem jf26_fnExactLayersOf : ((Rows.fnExactLayersOfRow.lifted == Try.prog.liftsFinal) : Bool) = true := by kernel_rfl
theorem jf27_fnExactLayersOf : ((Try.prog.make == some Rows.fnExactLayersOfRow.make) : Bool) = true := by kernel_rfl
theorem jf28_fnExactLayersOf : ((Rows.fnExactLayersOfRow.kinds == (if Rows.fnExactLayersOfRow.domain.isEmpty then [] else Try.f5.params.toList.map fun t => match Try.prog.underlying t with | some (.int k) => some k | _ => none)) : Bool) = true := by kernel_rfl
theorem jf29_fnExactLayersOf : ((Rows.fnExactLayersOfRow.pinned == Rows.fnExactLayersOfRow.pinnedBy) : Bool) = true := by kernel_rfl
theorem jf30_fnExactLayersOf : ((Rows.fnExactLayersOfRow.veiled == (Try.f5.params.toList ++ Rows.fnExactLayersOfSpec.plain.varTypes Try.prog ++ Try.f5.resultTypes.toList).any (Try.prog.veiledRec ·)) : Bool) = true := by kernel_rfl
theorem jf31_fnExactLayersOf : (Rows.fnExactLayersOfRow.veiledFits Try.prog Try.f5.params.toList (Try.f5.params.toList ++ Rows.fnExactLayersOfSpec.plain.varTypes Try.prog ++ Try.f5.resultTypes.toList) : Bool) = true := by kernel_rfl
set_option maxRecDepth 100000 in
theorem facts_fnExactLayersOf : joinedFacts Try.prog 5 Try.f5 Rows.fnExactLayersOfSpec Rows.fnExactLayersOfRow = true := by unfold joinedFacts; exact (and_mk_fnExactLayersOf (and_mk_fnExactLayersOf (and_mk_fnExactLayersOf (and_mk_fnExactLayersOf (and_mk_fnExactLayersOf (and_mk_fnExactLayersOf (and_mk_fnExactLayersOf (and_mk_fnExactLayersOf (and_mk_fnExactLayersOf (and_mk_fnExactLayersOf (and_mk_fnExactLayersOf (and_mk_fnExactLayersOf (and_mk_fnExactLayersOf (and_mk_fnExactLayersOf (and_mk_fnExactLayersOf (and_mk_fnExactLayersOf (and_mk_fnExactLayersOf (and_mk_fnExactLayersOf (and_mk_fnExactLayersOf (and_mk_fnExactLayersOf (and_mk_fnExactLayersOf (and_mk_fnExactLayersOf (and_mk_fnExactLayersOf (and_mk_fnExactLayersOf (and_mk_fnExactLayersOf (and_mk_fnExactLayersOf (and_mk_fnExactLayersOf (and_mk_fnExactLayersOf (and_mk_fnExactLayersOf (and_mk_fnExactLayersOf (and_mk_fnExactLayersOf jf0_fnExactLayersOf jf1_fnExactLayersOf) jf2_fnExactLayersOf) jf3_fnExactLayersOf) jf4_fnExactLayersOf) jf5_fnExactLayersOf) jf6_fnExactLayersOf) jf7_fnExactLayersOf) jf8_fnExactLayersOf) jf9_fnExactLayersOf) jf10_fnExactLayersOf) jf11_fnExactLayersOf) jf12_fnExactLayersOf) jf13_fnExactLayersOf) jf14_fnExactLayersOf) jf15_fnExactLayersOf) jf16_fnExactLayersOf) jf17_fnExactLayersOf) jf18_fnExactLayersOf) jf19_fnExactLayersOf) jf20_fnExactLayersOf) jf21_fnExactLayersOf) jf22_fnExactLayersOf) jf23_fnExactLayersOf) jf24_fnExactLayersOf) jf25_fnExactLayersOf) jf26_fnExactLayersOf) jf27_fnExactLayersOf) jf28_fnExactLayersOf) jf29_fnExactLayersOf) jf30_fnExactLayersOf) jf31_fnExactLayersOf)
theorem op3 {H : Type} {enc : TypeId × Value → H} {W : World} : Opens enc Try.prog W 3 o3 (fun x => (Lit.int .i64 x).wf = true) := (opens_int (tiOf_und ty3)).map id (fun _ => rfl) (fun _ h => h)
instance : Inhabited GEvent := ⟨⟨0, 0, 0, 0, 0⟩⟩
theorem op49 {H : Type} {enc : TypeId × Value → H} {W : World} : Opens enc Try.prog W 49 o49 (fun x => wfGEvent x) := by
  have h := opens_struct (enc := enc) (w := W) (tiOf_und ty49) (m := 5) (by kernel_rfl) (L := [(0, 3), (1, 3), (2, 3), (3, 3), (4, 3)]) rfl (opensL_cons (sz := 1) (by kernel_rfl) rfl op3 (opensL_cons (sz := 1) (by kernel_rfl) rfl op3 (opensL_cons (sz := 1) (by kernel_rfl) rfl op3 (opensL_cons (sz := 1) (by kernel_rfl) rfl op3 (opensL_cons (sz := 1) (by kernel_rfl) rfl op3 opensL_nil)))))
  exact h.map (fun p => (⟨p.1, p.2.1, p.2.2.1, p.2.2.2.1, p.2.2.2.2.1⟩ : GEvent)) (fun _ => rfl) (fun p h => ⟨h.1, h.2.1, h.2.2.1, h.2.2.2.1, h.2.2.2.2.1⟩)
theorem op22 {H : Type} {enc : TypeId × Value → H} {W : World} : Opens enc Try.prog W 22 r22 (fun x => x.length ≤ 9223372036854775807 ∧ ∀ y0 ∈ x, wfGEvent y0) := (opens_slice (tiOf_und ty22) (sz := 5) (by kernel_rfl) (by decide) op49).map id (fun _ => rfl) (fun _ h => h)
set_option maxRecDepth 100000 in
theorem lifted (os : Os) (started : os.Started) (H : Type) (enc : TypeId × Value → H) :
    ReturnsInHanded {} Try.checked os 5 .any (Rows.fnExactLayersOfSpec.pre6 enc Try.prog Try.f5 Rows.fnExactLayersOfRow.domain false) (Rows.fnExactLayersOfSpec.post enc Try.prog Try.f5 false true false false) := by
  refine returnsInHanded_of_change (C := Try.checked) own_knob started (by kernel_rfl) Try.func5
    (ChangeSpec.witness6 (enc := enc) (C := Try.checked) false ⟨#[], #[.slice none 0 0], []⟩ 8 (by kernel_rfl) (by kernel_rfl) (by kernel_rfl) (by kernel_rfl)) ?_
  intro W base args ds gs before hval0 hW hcnd _
  have hval : ∀ (j : Nat) t v, Try.f5.params[j]? = some t → args[j]? = some v → Value.okWide Try.prog W .any base t v := hval0
  have hW' := hW
  obtain ⟨p, q, hA0, hV, rfl, hfz, hnd⟩ := hW
  have hA : DataW.TrodAll enc Try.prog W 0 (fun _ => true) true Try.f5.params.toList args.toList ds p := hA0
  rw [Try.params5] at hA hval
  obtain ⟨v0, vs0, d0, ds0, p0, q0, hargs, rfl, rfl, h0, r0⟩ := trodAll_cons hA
  obtain ⟨rfl, rfl, rfl⟩ := trodAll_nil r0
  obtain rfl : args = #[v0] := by cases args; simp_all
  obtain ⟨rfl, rfl⟩ := trodVars_none hV
  have k0 := h0
  have lt0 : ∀ x ∈ p0, x.block < W.heap.size := by obtain ⟨m, hm⟩ := k0; exact DataW.trod_lt m _ _ _ hm
  obtain ⟨x0, g0, rep0⟩ := open_slc (f := fun (x : (List GEvent)) => AV.ro 5 (x.map o49)) op22 h0 (okWide_slice (tiOf_und ty22) (hval 0 _ v0 rfl rfl))
  have hm := (laws_FnExactLayersOf_m (law_LayersOf x0 g0.1)).2 W (fun b => b < W.heap.size) [v0] (by simp only [repL]; exact ⟨_, [], [], [], rfl, rfl, rep0, rfl, rfl⟩) (fun _ h => h)
  clear hA0 hval0
  refine hm.mono fun e W' ⟨v, fp, he, bel, hr, _⟩ => ?_
  subst he
  obtain rfl : v = .bool true := by simp only [rep] at hr; exact hr.2
  exact ⟨_, rfl, _, _, _, [], _, [], hW', trodAll_mk1 (shut_bool (tiOf_und ty4) _), (trodAll_cons_mk (Below.trod laid_out (by kernel_rfl) (of_decide_eq_true (by kernel_rfl)) k0 bel lt0) trodAll_mk0), rfl, bel.frame _, fun h => by cases h⟩
theorem named : Try.prog.funcNamed Rows.fnExactLayersOfRow.func = some 5 := by kernel_rfl
theorem fnExactLayersOf_proved : Rows.FnExactLayersOfSaid :=
  OpenClaim.holds_of_wide 5 Try.f5 rfl rfl rfl rfl rfl rfl rfl ⟨rfl, rfl, rfl, rfl, rfl⟩ rfl rfl rfl rfl rfl named Try.func5 facts_fnExactLayersOf
    (of_decide_eq_true (by kernel_rfl)) (by unfold Func.isWrapper; first | (rw [if_pos (by decide +kernel)]; kernel_rfl) | (rw [if_neg (by decide +kernel)]; exact ⟨rfl, rfl⟩))
    (fun os started H enc _ => lifted os started H enc)
end Go.Proofs.Ytkmjbfmmcijojaa
