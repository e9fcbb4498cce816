/- The program's ClocksOf returns what the reference's returns, for all arguments; no condition. -/

import Derived.Test.YtkmjbfmmcijojaaTX
import Derived.Test.YtkmjbfmmcijojaaK1
import Derived.Test.YtkmjbfmmcijojaaRows
import Derived.WalkKit
import Derived.ProofKit
import Derived.OpenShut
import Derived.ShutString
import Derived.ChangeOld
import Derived.Below
set_option linter.unusedVariables false
namespace Go.Proofs.Ytkmjbfmmcijojaa
open Go Go.T
open Go.ChangeShapes Go.WideShapes Go.ChangeAt Go.RowKit
open Go.ChangeMaps (open_string shut_string)

theorem own_knob : ownKnob Try.prog.godebug = none := by kernel_rfl
theorem laid_out : laidOutB Try.prog = true := by kernel_rfl
theorem and_mk_fnExactClocksOf {a b : Bool} (h : a = true) (k : b = true) : (a && b) = true := by rw [h, k]; rfl
theorem jf0_fnExactClocksOf : (Rows.fnExactClocksOfRow.wf (OpenSpec.ofChange Rows.fnExactClocksOfSpec) : Bool) = true := by kernel_rfl
theorem jf1_fnExactClocksOf : (laidOutB Try.prog : Bool) = true := by kernel_rfl
theorem jf2_fnExactClocksOf : (mapsRowed Try.prog : Bool) = true := by kernel_rfl
theorem jf3_fnExactClocksOf : (Try.f4.params.all (Try.prog.readableRec ·) : Bool) = true := by kernel_rfl
theorem jf4_fnExactClocksOf : (namedTie Try.prog Rows.fnExactClocksOfRow.named Rows.fnExactClocksOfSpec.vars : Bool) = true := by kernel_rfl
theorem jf5_fnExactClocksOf : ((Rows.fnExactClocksOfRow.stops == []) : Bool) = true := by kernel_rfl
theorem jf6_fnExactClocksOf : ((Try.prog.stops == []) : Bool) = true := by kernel_rfl
theorem jf7_fnExactClocksOf : ((Rows.fnExactClocksOfRow.knobs == []) : Bool) = true := by kernel_rfl
theorem jf8_fnExactClocksOf : ((Try.prog.stopKnobs == []) : Bool) = true := by kernel_rfl
theorem jf9_fnExactClocksOf : ((Rows.fnExactClocksOfRow.inPlace == Try.prog.inPlace 4) : Bool) = true := by kernel_rfl
theorem jf10_fnExactClocksOf : ((Rows.fnExactClocksOfRow.unfollowed == Try.prog.unfollowed 4) : Bool) = true := by kernel_rfl
theorem jf11_fnExactClocksOf : ((Rows.fnExactClocksOfRow.recurses == Try.prog.recurses 4) : Bool) = true := by kernel_rfl
theorem jf12_fnExactClocksOf : ((Rows.fnExactClocksOfRow.named == Try.prog.varsNamed 4) : Bool) = true := by kernel_rfl
theorem jf13_fnExactClocksOf : ((Rows.fnExactClocksOfRow.maps == (Try.f4.params.toList ++ Rows.fnExactClocksOfSpec.plain.varTypes Try.prog).any (Try.prog.mapsRec ·)) : Bool) = true := by kernel_rfl
theorem jf14_fnExactClocksOf : ((Rows.fnExactClocksOfRow.ifaces == (Try.f4.params.toList ++ Rows.fnExactClocksOfSpec.plain.varTypes Try.prog).any (Try.prog.ifacesRec ·)) : Bool) = true := by kernel_rfl
theorem jf15_fnExactClocksOf : ((Rows.fnExactClocksOfRow.mapsOut == Try.prog.mapsAmong Try.f4.resultTypes.toList) : Bool) = true := by kernel_rfl
theorem jf16_fnExactClocksOf : ((Rows.fnExactClocksOfRow.loops == (Try.f4.params.toList ++ Rows.fnExactClocksOfSpec.plain.varTypes Try.prog).any (Try.prog.loopsFrom ·)) : Bool) = true := by kernel_rfl
theorem jf17_fnExactClocksOf : ((Rows.fnExactClocksOfRow.wideKeys == (Try.f4.params.toList ++ Rows.fnExactClocksOfSpec.plain.varTypes Try.prog ++ Try.f4.resultTypes.toList).any (Try.prog.wideKeysFrom ·)) : Bool) = true := by kernel_rfl
theorem jf18_fnExactClocksOf : (Rows.fnExactClocksOfSpec.vars.all (Try.prog.varReadable ·) : Bool) = true := by kernel_rfl
theorem jf19_fnExactClocksOf : (Try.f4.resultTypes.all (fun t => Try.prog.readableRec t && decide (t < Try.prog.types.size)) : Bool) = true := by kernel_rfl
theorem jf20_fnExactClocksOf : ((Rows.fnExactClocksOfRow.ifacesOut == Try.f4.resultTypes.toList.any (Try.prog.ifacesRec ·)) : Bool) = true := by kernel_rfl
theorem jf21_fnExactClocksOf : ((Rows.fnExactClocksOfRow.loopsOut == Try.f4.resultTypes.toList.any (Try.prog.loopsFrom ·)) : Bool) = true := by kernel_rfl
theorem jf22_fnExactClocksOf : ((Rows.fnExactClocksOfRow.plainKeys == Try.prog.plainKeys) : Bool) = true := by kernel_rfl
theorem jf23_fnExactClocksOf : (Rows.fnExactClocksOfRow.shortTexts.isNone : Bool) = true := by kernel_rfl
theorem jf24_fnExactClocksOf : (Try.prog.stopsHeard : Bool) = true := by kernel_rfl
theorem jf25_fnExactClocksOf : (Try.prog.mayEnter : Bool) = true := by kernel_rfl
theorem jf26_fnExactClocksOf : ((Rows.fnExactClocksOfRow.lifted == Try.prog.liftsFinal) : Bool) = true := by kernel_rfl
theorem jf27_fnExactClocksOf : ((Try.prog.make == some Rows.fnExactClocksOfRow.make) : Bool) = true := by kernel_rfl
theorem jf28_fnExactClocksOf : ((Rows.fnExactClocksOfRow.kinds == (if Rows.fnExactClocksOfRow.domain.isEmpty then [] else Try.f4.params.toList.map fun t => match Try.prog.underlying t with | some (.int k) => some k | _ => none)) : Bool) = true := by kernel_rfl
theorem jf29_fnExactClocksOf : ((Rows.fnExactClocksOfRow.pinned == Rows.fnExactClocksOfRow.pinnedBy) : Bool) = true := by kernel_rfl
theorem jf30_fnExactClocksOf : ((Rows.fnExactClocksOfRow.veiled == (Try.f4.params.toList ++ Rows.fnExactClocksOfSpec.plain.varTypes Try.prog ++ Try.f4.resultTypes.toList).any (Try.prog.veiledRec ·)) : Bool) = true := by kernel_rfl
theorem jf31_fnExactClocksOf : (Rows.fnExactClocksOfRow.veiledFits Try.prog Try.f4.params.toList (Try.f4.params.toList ++ Rows.fnExactClocksOfSpec.plain.varTypes Try.prog ++ Try.f4.resultTypes.toList) : Bool) = true := by kernel_rfl
set_option maxRecDepth 100000 in
theorem facts_fnExactClocksOf : joinedFacts Try.prog 4 Try.f4 Rows.fnExactClocksOfSpec Rows.fnExactClocksOfRow = true := by unfold joinedFacts; exact (and_mk_fnExactClocksOf (and_mk_fnExactClocksOf (and_mk_fnExactClocksOf (and_mk_fnExactClocksOf (and_mk_fnExactClocksOf (and_mk_fnExactClocksOf (and_mk_fnExactClocksOf (and_mk_fnExactClocksOf (and_mk_fnExactClocksOf (and_mk_fnExactClocksOf (and_mk_fnExactClocksOf (and_mk_fnExactClocksOf (and_mk_fnExactClocksOf (and_mk_fnExactClocksOf (and_mk_fnExactClocksOf (and_mk_fnExactClocksOf (and_mk_fnExactClocksOf (and_mk_fnExactClocksOf (and_mk_fnExactClocksOf (and_mk_fnExactClocksOf (and_mk_fnExactClocksOf (and_mk_fnExactClocksOf (and_mk_fnExactClocksOf (and_mk_fnExactClocksOf (and_mk_fnExactClocksOf (and_mk_fnExactClocksOf (and_mk_fnExactClocksOf (and_mk_fnExactClocksOf (and_mk_fnExactClocksOf (and_mk_fnExactClocksOf (and_mk_fnExactClocksOf jf0_fnExactClocksOf jf1_fnExactClocksOf) jf2_fnExactClocksOf) jf3_fnExactClocksOf) jf4_fnExactClocksOf) jf5_fnExactClocksOf) jf6_fnExactClocksOf) jf7_fnExactClocksOf) jf8_fnExactClocksOf) jf9_fnExactClocksOf) jf10_fnExactClocksOf) jf11_fnExactClocksOf) jf12_fnExactClocksOf) jf13_fnExactClocksOf) jf14_fnExactClocksOf) jf15_fnExactClocksOf) jf16_fnExactClocksOf) jf17_fnExactClocksOf) jf18_fnExactClocksOf) jf19_fnExactClocksOf) jf20_fnExactClocksOf) jf21_fnExactClocksOf) jf22_fnExactClocksOf) jf23_fnExactClocksOf) jf24_fnExactClocksOf) jf25_fnExactClocksOf) jf26_fnExactClocksOf) jf27_fnExactClocksOf) jf28_fnExactClocksOf) jf29_fnExactClocksOf) jf30_fnExactClocksOf) jf31_fnExactClocksOf)
theorem op3 {H : Type} {enc : TypeId × Value → H} {W : World} : Opens enc Try.prog W 3 o3 (fun x => (Lit.int .i64 x).wf = true) := (opens_int (tiOf_und ty3)).map id (fun _ => rfl) (fun _ h => h)
instance : Inhabited GEvent := ⟨⟨0, 0, 0, 0, 0⟩⟩
theorem op49 {H : Type} {enc : TypeId × Value → H} {W : World} : Opens enc Try.prog W 49 o49 (fun x => wfGEvent x) := by
  have h := opens_struct (enc := enc) (w := W) (tiOf_und ty49) (m := 5) (by kernel_rfl) (L := [(0, 3), (1, 3), (2, 3), (3, 3), (4, 3)]) rfl (opensL_cons (sz := 1) (by kernel_rfl) rfl op3 (opensL_cons (sz := 1) (by kernel_rfl) rfl op3 (opensL_cons (sz := 1) (by kernel_rfl) rfl op3 (opensL_cons (sz := 1) (by kernel_rfl) rfl op3 (opensL_cons (sz := 1) (by kernel_rfl) rfl op3 opensL_nil)))))
  exact h.map (fun p => (⟨p.1, p.2.1, p.2.2.1, p.2.2.2.1, p.2.2.2.2.1⟩ : GEvent)) (fun _ => rfl) (fun p h => ⟨h.1, h.2.1, h.2.2.1, h.2.2.2.1, h.2.2.2.2.1⟩)
theorem op22 {H : Type} {enc : TypeId × Value → H} {W : World} : Opens enc Try.prog W 22 r22 (fun x => x.length ≤ 9223372036854775807 ∧ ∀ y0 ∈ x, wfGEvent y0) := (opens_slice (tiOf_und ty22) (sz := 5) (by kernel_rfl) (by decide) op49).map id (fun _ => rfl) (fun _ h => h)
set_option maxRecDepth 100000 in
theorem lifted (os : Os) (started : os.Started) (H : Type) (enc : TypeId × Value → H) :
    ReturnsInHanded {} Try.checked os 4 .any (Rows.fnExactClocksOfSpec.pre6 enc Try.prog Try.f4 Rows.fnExactClocksOfRow.domain false) (Rows.fnExactClocksOfSpec.post enc Try.prog Try.f4 false true false false) := by
  refine returnsInHanded_of_change (C := Try.checked) own_knob started (by kernel_rfl) Try.func4
    (ChangeSpec.witness6 (enc := enc) (C := Try.checked) false ⟨#[], #[.slice none 0 0], []⟩ 8 (by kernel_rfl) (by kernel_rfl) (by kernel_rfl) (by kernel_rfl)) ?_
  intro W base args ds gs before hval0 hW hcnd _
  have hval : ∀ (j : Nat) t v, Try.f4.params[j]? = some t → args[j]? = some v → Value.okWide Try.prog W .any base t v := hval0
  have hW' := hW
  obtain ⟨p, q, hA0, hV, rfl, hfz, hnd⟩ := hW
  have hA : DataW.TrodAll enc Try.prog W 0 (fun _ => true) true Try.f4.params.toList args.toList ds p := hA0
  rw [Try.params4] at hA hval
  obtain ⟨v0, vs0, d0, ds0, p0, q0, hargs, rfl, rfl, h0, r0⟩ := trodAll_cons hA
  obtain ⟨rfl, rfl, rfl⟩ := trodAll_nil r0
  obtain rfl : args = #[v0] := by cases args; simp_all
  obtain ⟨rfl, rfl⟩ := trodVars_none hV
  have k0 := h0
  have lt0 : ∀ x ∈ p0, x.block < W.heap.size := by obtain ⟨m, hm⟩ := k0; exact DataW.trod_lt m _ _ _ hm
  obtain ⟨x0, g0, rep0⟩ := open_slc (f := fun (x : (List GEvent)) => AV.ro 5 (x.map o49)) op22 h0 (okWide_slice (tiOf_und ty22) (hval 0 _ v0 rfl rfl))
  have hm := (laws_FnExactClocksOf_m (law_ClocksOf x0 g0.1)).2 W (fun b => b < W.heap.size) [v0] (by simp only [repL]; exact ⟨_, [], [], [], rfl, rfl, rep0, rfl, rfl⟩) (fun _ h => h)
  clear hA0 hval0
  refine hm.mono fun e W' ⟨v, fp, he, bel, hr, _⟩ => ?_
  subst he
  obtain rfl : v = .bool true := by simp only [rep] at hr; exact hr.2
  exact ⟨_, rfl, _, _, _, [], _, [], hW', trodAll_mk1 (shut_bool (tiOf_und ty4) _), (trodAll_cons_mk (Below.trod laid_out (by kernel_rfl) (of_decide_eq_true (by kernel_rfl)) k0 bel lt0) trodAll_mk0), rfl, bel.frame _, fun h => by cases h⟩
theorem named : Try.prog.funcNamed Rows.fnExactClocksOfRow.func = some 4 := by kernel_rfl
theorem fnExactClocksOf_proved : Rows.FnExactClocksOfSaid :=
  OpenClaim.holds_of_wide 4 Try.f4 rfl rfl rfl rfl rfl rfl rfl ⟨rfl, rfl, rfl, rfl, rfl⟩ rfl rfl rfl rfl rfl named Try.func4 facts_fnExactClocksOf
    (of_decide_eq_true (by kernel_rfl)) (by unfold Func.isWrapper; first | (rw [if_pos (by decide +kernel)]; kernel_rfl) | (rw [if_neg (by decide +kernel)]; exact ⟨rfl, rfl⟩))
    (fun os started H enc _ => lifted os started H enc)
end Go.Proofs.Ytkmjbfmmcijojaa
