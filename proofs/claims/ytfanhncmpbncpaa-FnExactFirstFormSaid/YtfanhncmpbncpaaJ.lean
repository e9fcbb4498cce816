/- The program's FirstForm returns what the reference's returns, for all arguments; no condition. -/

import Derived.Test.YtfanhncmpbncpaaTX
import Derived.Test.YtfanhncmpbncpaaFG
import Derived.Test.YtfanhncmpbncpaaRows
import Derived.WalkKit
import Derived.ProofKit
import Derived.OpenShut
import Derived.ShutString
import Derived.ChangeOld
import Derived.Below
set_option linter.unusedVariables false
namespace Go.Proofs.Ytfanhncmpbncpaa
open Go Go.T
open Go.ChangeShapes Go.WideShapes Go.ChangeAt Go.RowKit
open Go.ChangeMaps (open_string shut_string)

theorem own_knob : ownKnob Try.prog.godebug = none := by kernel_rfl
theorem laid_out : laidOutB Try.prog = true := by kernel_rfl
theorem and_mk_fnExactFirstForm {a b : Bool} (h : a = true) (k : b = true) : (a && b) = true := by rw [h, k]; rfl
theorem jf0_fnExactFirstForm : (Rows.fnExactFirstFormRow.wf (OpenSpec.ofChange Rows.fnExactFirstFormSpec) : Bool) = true := by kernel_rfl
theorem jf1_fnExactFirstForm : (laidOutB Try.prog : Bool) = true := by kernel_rfl
theorem jf2_fnExactFirstForm : (mapsRowed Try.prog : Bool) = true := by kernel_rfl
theorem jf3_fnExactFirstForm : (Try.f6.params.all (Try.prog.readableRec ·) : Bool) = true := by kernel_rfl
theorem jf4_fnExactFirstForm : (namedTie Try.prog Rows.fnExactFirstFormRow.named Rows.fnExactFirstFormSpec.vars : Bool) = true := by kernel_rfl
theorem jf5_fnExactFirstForm : ((Rows.fnExactFirstFormRow.stops == []) : Bool) = true := by kernel_rfl
theorem jf6_fnExactFirstForm : ((Try.prog.stops == []) : Bool) = true := by kernel_rfl
theorem jf7_fnExactFirstForm : ((Rows.fnExactFirstFormRow.knobs == []) : Bool) = true := by kernel_rfl
theorem jf8_fnExactFirstForm : ((Try.prog.stopKnobs == []) : Bool) = true := by kernel_rfl
theorem jf9_fnExactFirstForm : ((Rows.fnExactFirstFormRow.inPlace == Try.prog.inPlace 6) : Bool) = true := by kernel_rfl
theorem jf10_fnExactFirstForm : ((Rows.fnExactFirstFormRow.unfollowed == Try.prog.unfollowed 6) : Bool) = true := by kernel_rfl
theorem jf11_fnExactFirstForm : ((Rows.fnExactFirstFormRow.recurses == Try.prog.recurses 6) : Bool) = true := by kernel_rfl
theorem jf12_fnExactFirstForm : ((Rows.fnExactFirstFormRow.named == Try.prog.varsNamed 6) : Bool) = true := by kernel_rfl
theorem jf13_fnExactFirstForm : ((Rows.fnExactFirstFormRow.maps == (Try.f6.params.toList ++ Rows.fnExactFirstFormSpec.plain.varTypes Try.prog).any (Try.prog.mapsRec ·)) : Bool) = true := by kernel_rfl
theorem jf14_fnExactFirstForm : ((Rows.fnExactFirstFormRow.ifaces == (Try.f6.params.toList ++ Rows.fnExactFirstFormSpec.plain.varTypes Try.prog).any (Try.prog.ifacesRec ·)) : Bool) = true := by kernel_rfl
theorem jf15_fnExactFirstForm : ((Rows.fnExactFirstFormRow.mapsOut == Try.prog.mapsAmong Try.f6.resultTypes.toList) : Bool) = true := by kernel_rfl
theorem jf16_fnExactFirstForm : ((Rows.fnExactFirstFormRow.loops == (Try.f6.params.toList ++ Rows.fnExactFirstFormSpec.plain.varTypes Try.prog).any (Try.prog.loopsFrom ·)) : Bool) = true := by kernel_rfl
theorem jf17_fnExactFirstForm : ((Rows.fnExactFirstFormRow.wideKeys == (Try.f6.params.toList ++ Rows.fnExactFirstFormSpec.plain.varTypes Try.prog ++ Try.f6.resultTypes.toList).any (Try.prog.wideKeysFrom ·)) : Bool) = true := by kernel_rfl
theorem jf18_fnExactFirstForm : (Rows.fnExactFirstFormSpec.vars.all (Try.prog.varReadable ·) : Bool) = true := by kernel_rfl
theorem jf19_fnExactFirstForm : (Try.f6.resultTypes.all (fun t => Try.prog.readableRec t && decide (t < Try.prog.types.size)) : Bool) = true := by kernel_rfl
theorem jf20_fnExactFirstForm : ((Rows.fnExactFirstFormRow.ifacesOut == Try.f6.resultTypes.toList.any (Try.prog.ifacesRec ·)) : Bool) = true := by kernel_rfl
theorem jf21_fnExactFirstForm : ((Rows.fnExactFirstFormRow.loopsOut == Try.f6.resultTypes.toList.any (Try.prog.loopsFrom ·)) : Bool) = true := by kernel_rfl
theorem jf22_fnExactFirstForm : ((Rows.fnExactFirstFormRow.plainKeys == Try.prog.plainKeys) : Bool) = true := by kernel_rfl
theorem jf23_fnExactFirstForm : (Rows.fnExactFirstFormRow.shortTexts.isNone : Bool) = true := by kernel_rfl
theorem jf24_fnExactFirstForm : (Try.prog.stopsHeard : Bool) = true := by kernel_rfl
theorem jf25_fnExactFirstForm : (Try.prog.mayEnter : Bool) = true := by kernel_rfl
theorem jf26_fnExactFirstForm : ((Rows.fnExactFirstFormRow.lifted == Try.prog.liftsFinal) : Bool) = true := by kernel_rfl
theorem jf27_fnExactFirstForm : ((Try.prog.make == some Rows.fnExactFirstFormRow.make) : Bool) = true := by kernel_rfl
theorem jf28_fnExactFirstForm : ((Rows.fnExactFirstFormRow.kinds == (if Rows.fnExactFirstFormRow.domain.isEmpty then [] else Try.f6.params.toList.map fun t => match Try.prog.underlying t with | some (.int k) => some k | _ => none)) : Bool) = true := by kernel_rfl
theorem jf29_fnExactFirstForm : ((Rows.fnExactFirstFormRow.pinned == Rows.fnExactFirstFormRow.pinnedBy) : Bool) = true := by kernel_rfl
theorem jf30_fnExactFirstForm : ((Rows.fnExactFirstFormRow.veiled == (Try.f6.params.toList ++ Rows.fnExactFirstFormSpec.plain.varTypes Try.prog ++ Try.f6.resultTypes.toList).any (Try.prog.veiledRec ·)) : Bool) = true := by kernel_rfl
theorem jf31_fnExactFirstForm : (Rows.fnExactFirstFormRow.veiledFits Try.prog Try.f6.params.toList (Try.f6.params.toList ++ Rows.fnExactFirstFormSpec.plain.varTypes Try.prog ++ Try.f6.resultTypes.toList) : Bool) = true := by kernel_rfl
set_option maxRecDepth 100000 in
theorem facts_fnExactFirstForm : joinedFacts Try.prog 6 Try.f6 Rows.fnExactFirstFormSpec Rows.fnExactFirstFormRow = true := by unfold joinedFacts; exact (and_mk_fnExactFirstForm (and_mk_fnExactFirstForm (and_mk_fnExactFirstForm (and_mk_fnExactFirstForm (and_mk_fnExactFirstForm (and_mk_fnExactFirstForm (and_mk_fnExactFirstForm (and_mk_fnExactFirstForm (and_mk_fnExactFirstForm (and_mk_fnExactFirstForm (and_mk_fnExactFirstForm (and_mk_fnExactFirstForm (and_mk_fnExactFirstForm (and_mk_fnExactFirstForm (and_mk_fnExactFirstForm (and_mk_fnExactFirstForm (and_mk_fnExactFirstForm (and_mk_fnExactFirstForm (and_mk_fnExactFirstForm (and_mk_fnExactFirstForm (and_mk_fnExactFirstForm (and_mk_fnExactFirstForm (and_mk_fnExactFirstForm (and_mk_fnExactFirstForm (and_mk_fnExactFirstForm (and_mk_fnExactFirstForm (and_mk_fnExactFirstForm (and_mk_fnExactFirstForm (and_mk_fnExactFirstForm (and_mk_fnExactFirstForm (and_mk_fnExactFirstForm jf0_fnExactFirstForm jf1_fnExactFirstForm) jf2_fnExactFirstForm) jf3_fnExactFirstForm) jf4_fnExactFirstForm) jf5_fnExactFirstForm) jf6_fnExactFirstForm) jf7_fnExactFirstForm) jf8_fnExactFirstForm) jf9_fnExactFirstForm) jf10_fnExactFirstForm) jf11_fnExactFirstForm) jf12_fnExactFirstForm) jf13_fnExactFirstForm) jf14_fnExactFirstForm) jf15_fnExactFirstForm) jf16_fnExactFirstForm) jf17_fnExactFirstForm) jf18_fnExactFirstForm) jf19_fnExactFirstForm) jf20_fnExactFirstForm) jf21_fnExactFirstForm) jf22_fnExactFirstForm) jf23_fnExactFirstForm) jf24_fnExactFirstForm) jf25_fnExactFirstForm) jf26_fnExactFirstForm) jf27_fnExactFirstForm) jf28_fnExactFirstForm) jf29_fnExactFirstForm) jf30_fnExactFirstForm) jf31_fnExactFirstForm)
theorem op3 {H : Type} {enc : TypeId × Value → H} {W : World} : Opens enc Try.prog W 3 o3 (fun x => (Lit.int .i64 x).wf = true) := (opens_int (tiOf_und ty3)).map id (fun _ => rfl) (fun _ h => h)
instance : Inhabited GEvent := ⟨⟨0, 0, 0, 0, 0⟩⟩
theorem op52 {H : Type} {enc : TypeId × Value → H} {W : World} : Opens enc Try.prog W 52 o52 (fun x => wfGEvent x) := by
  have h := opens_struct (enc := enc) (w := W) (tiOf_und ty52) (m := 5) (by kernel_rfl) (L := [(0, 3), (1, 3), (2, 3), (3, 3), (4, 3)]) rfl (opensL_cons (sz := 1) (by kernel_rfl) rfl op3 (opensL_cons (sz := 1) (by kernel_rfl) rfl op3 (opensL_cons (sz := 1) (by kernel_rfl) rfl op3 (opensL_cons (sz := 1) (by kernel_rfl) rfl op3 (opensL_cons (sz := 1) (by kernel_rfl) rfl op3 opensL_nil)))))
  exact h.map (fun p => (⟨p.1, p.2.1, p.2.2.1, p.2.2.2.1, p.2.2.2.2.1⟩ : GEvent)) (fun _ => rfl) (fun p h => ⟨h.1, h.2.1, h.2.2.1, h.2.2.2.1, h.2.2.2.2.1⟩)
theorem op22 {H : Type} {enc : TypeId × Value → H} {W : World} : Opens enc Try.prog W 22 r22 (fun x => x.length ≤ 9223372036854775807 ∧ ∀ y0 ∈ x, wfGEvent y0) := (opens_slice (tiOf_und ty22) (sz := 5) (by kernel_rfl) (by decide) op52).map id (fun _ => rfl) (fun _ h => h)
set_option maxRecDepth 100000 in
theorem lifted (os : Os) (started : os.Started) (H : Type) (enc : TypeId × Value → H) :
    ReturnsInHanded {} Try.checked os 6 .any (Rows.fnExactFirstFormSpec.pre6 enc Try.prog Try.f6 Rows.fnExactFirstFormRow.domain false) (Rows.fnExactFirstFormSpec.post enc Try.prog Try.f6 false true false false) := by
  refine returnsInHanded_of_change (C := Try.checked) own_knob started (by kernel_rfl) Try.func6
    (ChangeSpec.witness6 (enc := enc) (C := Try.checked) false ⟨#[], #[.slice none 0 0], []⟩ 8 (by kernel_rfl) (by kernel_rfl) (by kernel_rfl) (by kernel_rfl)) ?_
  intro W base args ds gs before hval0 hW hcnd _
  have hval : ∀ (j : Nat) t v, Try.f6.params[j]? = some t → args[j]? = some v → Value.okWide Try.prog W .any base t v := hval0
  have hW' := hW
  obtain ⟨p, q, hA0, hV, rfl, hfz, hnd⟩ := hW
  have hA : DataW.TrodAll enc Try.prog W 0 (fun _ => true) true Try.f6.params.toList args.toList ds p := hA0
  rw [Try.params6] at hA hval
  obtain ⟨v0, vs0, d0, ds0, p0, q0, hargs, rfl, rfl, h0, r0⟩ := trodAll_cons hA
  obtain ⟨rfl, rfl, rfl⟩ := trodAll_nil r0
  obtain rfl : args = #[v0] := by cases args; simp_all
  obtain ⟨rfl, rfl⟩ := trodVars_none hV
  have k0 := h0
  have lt0 : ∀ x ∈ p0, x.block < W.heap.size := by obtain ⟨m, hm⟩ := k0; exact DataW.trod_lt m _ _ _ hm
  obtain ⟨x0, g0, rep0⟩ := open_slc (f := fun (x : (List GEvent)) => AV.ro 5 (x.map o52)) op22 h0 (okWide_slice (tiOf_und ty22) (hval 0 _ v0 rfl rfl))
  have hm := (laws_FnExactFirstForm_m (law_FirstForm x0 g0.1)).2 W (fun b => b < W.heap.size) [v0] (by simp only [repL]; exact ⟨_, [], [], [], rfl, rfl, rep0, rfl, rfl⟩) (fun _ h => h)
  clear hA0 hval0
  refine hm.mono fun e W' ⟨v, fp, he, bel, hr, _⟩ => ?_
  subst he
  obtain rfl : v = .bool true := by simp only [rep] at hr; exact hr.2
  exact ⟨_, rfl, _, _, _, [], _, [], hW', trodAll_mk1 (shut_bool (tiOf_und ty4) _), (trodAll_cons_mk (Below.trod laid_out (by kernel_rfl) (of_decide_eq_true (by kernel_rfl)) k0 bel lt0) trodAll_mk0), rfl, bel.frame _, fun h => by cases h⟩
theorem named : Try.prog.funcNamed Rows.fnExactFirstFormRow.func = some 6 := by kernel_rfl
theorem fnExactFirstForm_proved : Rows.FnExactFirstFormSaid :=
  OpenClaim.holds_of_wide 6 Try.f6 rfl rfl rfl rfl rfl rfl rfl ⟨rfl, rfl, rfl, rfl, rfl⟩ rfl rfl rfl rfl rfl named Try.func6 facts_fnExactFirstForm
    (of_decide_eq_true (by kernel_rfl)) (by unfold Func.isWrapper; first | (rw [if_pos (by decide +kernel)]; kernel_rfl) | (rw [if_neg (by decide +kernel)]; exact ⟨rfl, rfl⟩))
    (fun os started H enc _ => lifted os started H enc)
end Go.Proofs.Ytfanhncmpbncpaa
