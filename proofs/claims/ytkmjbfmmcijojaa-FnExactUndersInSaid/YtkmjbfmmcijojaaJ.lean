/- The program's UndersIn returns what the reference's returns, for all arguments; no condition. -/

import Derived.Test.YtkmjbfmmcijojaaTX
import Derived.Test.YtkmjbfmmcijojaaH3
import Derived.Test.YtkmjbfmmcijojaaRows
import Derived.WalkKit
import Derived.ProofKit
import Derived.OpenShut
import Derived.ShutString
import Derived.ChangeOld
import Derived.Below
set_option linter.unusedVariables false
namespace Go.Proofs.Ytkmjbfmmcijojaa
open Go Go.T
open Go.ChangeShapes Go.WideShapes Go.ChangeAt Go.RowKit
open Go.ChangeMaps (open_string shut_string)

theorem own_knob : ownKnob Try.prog.godebug = none := by kernel_rfl
theorem laid_out : laidOutB Try.prog = true := by kernel_rfl
theorem and_mk_fnExactUndersIn {a b : Bool} (h : a = true) (k : b = true) : (a && b) = true := by rw [h, k]; rfl
theorem jf0_fnExactUndersIn : (Rows.fnExactUndersInRow.wf (OpenSpec.ofChange Rows.fnExactUndersInSpec) : Bool) = true := by kernel_rfl
theorem jf1_fnExactUndersIn : (laidOutB Try.prog : Bool) = true := by kernel_rfl
theorem jf2_fnExactUndersIn : (mapsRowed Try.prog : Bool) = true := by kernel_rfl
theorem jf3_fnExactUndersIn : (Try.f6.params.all (Try.prog.readableRec ·) : Bool) = true := by kernel_rfl
theorem jf4_fnExactUndersIn : (namedTie Try.prog Rows.fnExactUndersInRow.named Rows.fnExactUndersInSpec.vars : Bool) = true := by kernel_rfl
theorem jf5_fnExactUndersIn : ((Rows.fnExactUndersInRow.stops == []) : Bool) = true := by kernel_rfl
theorem jf6_fnExactUndersIn : ((Try.prog.stops == []) : Bool) = true := by kernel_rfl
theorem jf7_fnExactUndersIn : ((Rows.fnExactUndersInRow.knobs == []) : Bool) = true := by kernel_rfl
theorem jf8_fnExactUndersIn : ((Try.prog.stopKnobs == []) : Bool) = true := by kernel_rfl
theorem jf9_fnExactUndersIn : ((Rows.fnExactUndersInRow.inPlace == Try.prog.inPlace 6) : Bool) = true := by kernel_rfl
theorem jf10_fnExactUndersIn : ((Rows.fnExactUndersInRow.unfollowed == Try.prog.unfollowed 6) : Bool) = true := by kernel_rfl
theorem jf11_fnExactUndersIn : ((Rows.fnExactUndersInRow.recurses == Try.prog.recurses 6) : Bool) = true := by kernel_rfl
theorem jf12_fnExactUndersIn : ((Rows.fnExactUndersInRow.named == Try.prog.varsNamed 6) : Bool) = true := by kernel_rfl
theorem jf13_fnExactUndersIn : ((Rows.fnExactUndersInRow.maps == (Try.f6.params.toList ++ Rows.fnExactUndersInSpec.plain.varTypes Try.prog).any (Try.prog.mapsRec ·)) : Bool) = true := by kernel_rfl
theorem jf14_fnExactUndersIn : ((Rows.fnExactUndersInRow.ifaces == (Try.f6.params.toList ++ Rows.fnExactUndersInSpec.plain.varTypes Try.prog).any (Try.prog.ifacesRec ·)) : Bool) = true := by kernel_rfl
theorem jf15_fnExactUndersIn : ((Rows.fnExactUndersInRow.mapsOut == Try.prog.mapsAmong Try.f6.resultTypes.toList) : Bool) = true := by kernel_rfl
theorem jf16_fnExactUndersIn : ((Rows.fnExactUndersInRow.loops == (Try.f6.params.toList ++ Rows.fnExactUndersInSpec.plain.varTypes Try.prog).any (Try.prog.loopsFrom ·)) : Bool) = true := by kernel_rfl
theorem jf17_fnExactUndersIn : ((Rows.fnExactUndersInRow.wideKeys == (Try.f6.params.toList ++ Rows.fnExactUndersInSpec.plain.varTypes Try.prog ++ Try.f6.resultTypes.toList).any (Try.prog.wideKeysFrom ·)) : Bool) = true := by kernel_rfl
theorem jf18_fnExactUndersIn : (Rows.fnExactUndersInSpec.vars.all (Try.prog.varReadable ·) : Bool) = true := by kernel_rfl
theorem jf19_fnExactUndersIn : (Try.f6.resultTypes.all (fun t => Try.prog.readableRec t && decide (t < Try.prog.types.size)) : Bool) = true := by kernel_rfl
theorem jf20_fnExactUndersIn : ((Rows.fnExactUndersInRow.ifacesOut == Try.f6.resultTypes.toList.any (Try.prog.ifacesRec ·)) : Bool) = true := by kernel_rfl
theorem jf21_fnExactUndersIn : ((Rows.fnExactUndersInRow.loopsOut == Try.f6.resultTypes.toList.any (Try.prog.loopsFrom ·)) : Bool) = true := by kernel_rfl
theorem jf22_fnExactUndersIn : ((Rows.fnExactUndersInRow.plainKeys == Try.prog.plainKeys) : Bool) = true := by kernel_rfl
theorem jf23_fnExactUndersIn : (Rows.fnExactUndersInRow.shortTexts.isNone : Bool) = true := by kernel_rfl
theorem jf24_fnExactUndersIn : (Try.prog.stopsHeard : Bool) = true := by kernel_rfl
theorem jf25_fnExactUndersIn : (Try.prog.mayEnter : Bool) = true := by kernel_rfl
theorem jf26_fnExactUndersIn : ((Rows.fnExactUndersInRow.lifted == Try.prog.liftsFinal) : Bool) = true := by kernel_rfl
theorem jf27_fnExactUndersIn : ((Try.prog.make == some Rows.fnExactUndersInRow.make) : Bool) = true := by kernel_rfl
theorem jf28_fnExactUndersIn : ((Rows.fnExactUndersInRow.kinds == (if Rows.fnExactUndersInRow.domain.isEmpty then [] else Try.f6.params.toList.map fun t => match Try.prog.underlying t with | some (.int k) => some k | _ => none)) : Bool) = true := by kernel_rfl
theorem jf29_fnExactUndersIn : ((Rows.fnExactUndersInRow.pinned == Rows.fnExactUndersInRow.pinnedBy) : Bool) = true := by kernel_rfl
theorem jf30_fnExactUndersIn : ((Rows.fnExactUndersInRow.veiled == (Try.f6.params.toList ++ Rows.fnExactUndersInSpec.plain.varTypes Try.prog ++ Try.f6.resultTypes.toList).any (Try.prog.veiledRec ·)) : Bool) = true := by kernel_rfl
theorem jf31_fnExactUndersIn : (Rows.fnExactUndersInRow.veiledFits Try.prog Try.f6.params.toList (Try.f6.params.toList ++ Rows.fnExactUndersInSpec.plain.varTypes Try.prog ++ Try.f6.resultTypes.toList) : Bool) = true := by kernel_rfl
set_option maxRecDepth 100000 in
theorem facts_fnExactUndersIn : joinedFacts Try.prog 6 Try.f6 Rows.fnExactUndersInSpec Rows.fnExactUndersInRow = true := by unfold joinedFacts; exact (and_mk_fnExactUndersIn (and_mk_fnExactUndersIn (and_mk_fnExactUndersIn (and_mk_fnExactUndersIn (and_mk_fnExactUndersIn (and_mk_fnExactUndersIn (and_mk_fnExactUndersIn (and_mk_fnExactUndersIn (and_mk_fnExactUndersIn (and_mk_fnExactUndersIn (and_mk_fnExactUndersIn (and_mk_fnExactUndersIn (and_mk_fnExactUndersIn (and_mk_fnExactUndersIn (and_mk_fnExactUndersIn (and_mk_fnExactUndersIn (and_mk_fnExactUndersIn (and_mk_fnExactUndersIn (and_mk_fnExactUndersIn (and_mk_fnExactUndersIn (and_mk_fnExactUndersIn (and_mk_fnExactUndersIn (and_mk_fnExactUndersIn (and_mk_fnExactUndersIn (and_mk_fnExactUndersIn (and_mk_fnExactUndersIn (and_mk_fnExactUndersIn (and_mk_fnExactUndersIn (and_mk_fnExactUndersIn (and_mk_fnExactUndersIn (and_mk_fnExactUndersIn jf0_fnExactUndersIn jf1_fnExactUndersIn) jf2_fnExactUndersIn) jf3_fnExactUndersIn) jf4_fnExactUndersIn) jf5_fnExactUndersIn) jf6_fnExactUndersIn) jf7_fnExactUndersIn) jf8_fnExactUndersIn) jf9_fnExactUndersIn) jf10_fnExactUndersIn) jf11_fnExactUndersIn) jf12_fnExactUndersIn) jf13_fnExactUndersIn) jf14_fnExactUndersIn) jf15_fnExactUndersIn) jf16_fnExactUndersIn) jf17_fnExactUndersIn) jf18_fnExactUndersIn) jf19_fnExactUndersIn) jf20_fnExactUndersIn) jf21_fnExactUndersIn) jf22_fnExactUndersIn) jf23_fnExactUndersIn) jf24_fnExactUndersIn) jf25_fnExactUndersIn) jf26_fnExactUndersIn) jf27_fnExactUndersIn) jf28_fnExactUndersIn) jf29_fnExactUndersIn) jf30_fnExactUndersIn) jf31_fnExactUndersIn)
theorem op3 {H : Type} {enc : TypeId × Value → H} {W : World} : Opens enc Try.prog W 3 o3 (fun x => (Lit.int .i64 x).wf = true) := (opens_int (tiOf_und ty3)).map id (fun _ => rfl) (fun _ h => h)
instance : Inhabited GEvent := ⟨⟨0, 0, 0, 0, 0⟩⟩
theorem op49 {H : Type} {enc : TypeId × Value → H} {W : World} : Opens enc Try.prog W 49 o49 (fun x => wfGEvent x) := by
  have h := opens_struct (enc := enc) (w := W) (tiOf_und ty49) (m := 5) (by kernel_rfl) (L := [(0, 3), (1, 3), (2, 3), (3, 3), (4, 3)]) rfl (opensL_cons (sz := 1) (by kernel_rfl) rfl op3 (opensL_cons (sz := 1) (by kernel_rfl) rfl op3 (opensL_cons (sz := 1) (by kernel_rfl) rfl op3 (opensL_cons (sz := 1) (by kernel_rfl) rfl op3 (opensL_cons (sz := 1) (by kernel_rfl) rfl op3 opensL_nil)))))
  exact h.map (fun p => (⟨p.1, p.2.1, p.2.2.1, p.2.2.2.1, p.2.2.2.2.1⟩ : GEvent)) (fun _ => rfl) (fun p h => ⟨h.1, h.2.1, h.2.2.1, h.2.2.2.1, h.2.2.2.2.1⟩)
theorem op22 {H : Type} {enc : TypeId × Value → H} {W : World} : Opens enc Try.prog W 22 r22 (fun x => x.length ≤ 9223372036854775807 ∧ ∀ y0 ∈ x, wfGEvent y0) := (opens_slice (tiOf_und ty22) (sz := 5) (by kernel_rfl) (by decide) op49).map id (fun _ => rfl) (fun _ h => h)
set_option maxRecDepth 100000 in
theorem lifted (os : Os) (started : os.Started) (H : Type) (enc : TypeId × Value → H) :
    ReturnsInHanded {} Try.checked os 6 .any (Rows.fnExactUndersInSpec.pre6 enc Try.prog Try.f6 Rows.fnExactUndersInRow.domain false) (Rows.fnExactUndersInSpec.post enc Try.prog Try.f6 false true false false) := by
  refine returnsInHanded_of_change (C := Try.checked) own_knob started (by kernel_rfl) Try.func6
    (ChangeSpec.witness6 (enc := enc) (C := Try.checked) false ⟨#[], #[.slice none 0 0], []⟩ 8 (by kernel_rfl) (by kernel_rfl) (by kernel_rfl) (by kernel_rfl)) ?_
  intro W base args ds gs before hval0 hW hcnd _
  have hval : ∀ (j : Nat) t v, Try.f6.params[j]? = some t → args[j]? = some v → Value.okWide Try.prog W .any base t v := hval0
  have hW' := hW
  obtain ⟨p, q, hA0, hV, rfl, hfz, hnd⟩ := hW
  have hA : DataW.TrodAll enc Try.prog W 0 (fun _ => true) true Try.f6.params.toList args.toList ds p := hA0
  rw [Try.params6] at hA hval
  obtain ⟨v0, vs0, d0, ds0, p0, q0, hargs, rfl, rfl, h0, r0⟩ := trodAll_cons hA
  obtain ⟨rfl, rfl, rfl⟩ := trodAll_nil r0
  obtain rfl : args = #[v0] := by cases args; simp_all
  obtain ⟨rfl, rfl⟩ := trodVars_none hV
  have k0 := h0
  have lt0 : ∀ x ∈ p0, x.block < W.heap.size := by obtain ⟨m, hm⟩ := k0; exact DataW.trod_lt m _ _ _ hm
  obtain ⟨x0, g0, rep0⟩ := open_slc (f := fun (x : (List GEvent)) => AV.ro 5 (x.map o49)) op22 h0 (okWide_slice (tiOf_und ty22) (hval 0 _ v0 rfl rfl))
  have hm := (laws_FnExactUndersIn_m (law_UndersIn x0 g0.1)).2 W (fun b => b < W.heap.size) [v0] (by simp only [repL]; exact ⟨_, [], [], [], rfl, rfl, rep0, rfl, rfl⟩) (fun _ h => h)
  clear hA0 hval0
  refine hm.mono fun e W' ⟨v, fp, he, bel, hr, _⟩ => ?_
  subst he
  obtain rfl : v = .bool true := by simp only [rep] at hr; exact hr.2
  exact ⟨_, rfl, _, _, _, [], _, [], hW', trodAll_mk1 (shut_bool (tiOf_und ty4) _), (trodAll_cons_mk (Below.trod laid_out (by kernel_rfl) (of_decide_eq_true (by kernel_rfl)) k0 bel lt0) trodAll_mk0), rfl, bel.frame _, fun h => by cases h⟩
theorem named : Try.prog.funcNamed Rows.fnExactUndersInRow.func = some 6 := by kernel_rfl
theorem fnExactUndersIn_proved : Rows.FnExactUndersInSaid :=
  OpenClaim.holds_of_wide 6 Try.f6 rfl rfl rfl rfl rfl rfl rfl ⟨rfl, rfl, rfl, rfl, rfl⟩ rfl rfl rfl rfl rfl named Try.func6 facts_fnExactUndersIn
    (of_decide_eq_true (by kernel_rfl)) (by unfold Func.isWrapper; first | (rw [if_pos (by decide +kernel)]; kernel_rfl) | (rw [if_neg (by decide +kernel)]; exact ⟨rfl, rfl⟩))
    (fun os started H enc _ => lifted os started H enc)
end Go.Proofs.Ytkmjbfmmcijojaa
