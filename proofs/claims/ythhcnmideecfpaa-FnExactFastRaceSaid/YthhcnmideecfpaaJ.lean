/- The program's FastRace returns what the reference's returns, for all arguments; no condition. -/

import Derived.Test.YthhcnmideecfpaaTW
import Derived.Test.YthhcnmideecfpaaFR
import Derived.Test.YthhcnmideecfpaaRows
import Derived.WalkKit
import Derived.ProofKit
import Derived.OpenShut
import Derived.ShutString
import Derived.ChangeOld
import Derived.Below
set_option linter.unusedVariables false
namespace Go.Proofs.Ythhcnmideecfpaa
open Go Go.T
open Go.ChangeShapes Go.WideShapes Go.ChangeAt Go.RowKit
open Go.ChangeMaps (open_string shut_string)

theorem own_knob : ownKnob Try.prog.godebug = none := by kernel_rfl
theorem laid_out : laidOutB Try.prog = true := by kernel_rfl
theorem and_mk_fnExactFastRace {a b : Bool} (h : a = true) (k : b = true) : (a && b) = true := by rw [h, k]; rfl
theorem jf0_fnExactFastRace : (Rows.fnExactFastRaceRow.wf (OpenSpec.ofChange Rows.fnExactFastRaceSpec) : Bool) = true := by kernel_rfl
theorem jf1_fnExactFastRace : (laidOutB Try.prog : Bool) = true := by kernel_rfl
theorem jf2_fnExactFastRace : (mapsRowed Try.prog : Bool) = true := by kernel_rfl
theorem jf3_fnExactFastRace : (Try.f3.params.all (Try.prog.readableRec ·) : Bool) = true := by kernel_rfl
theorem jf4_fnExactFastRace : (namedTie Try.prog Rows.fnExactFastRaceRow.named Rows.fnExactFastRaceSpec.vars : Bool) = true := by kernel_rfl
theorem jf5_fnExactFastRace : ((Rows.fnExactFastRaceRow.stops == []) : Bool) = true := by kernel_rfl
theorem jf6_fnExactFastRace : ((Try.prog.stops == []) : Bool) = true := by kernel_rfl
theorem jf7_fnExactFastRace : ((Rows.fnExactFastRaceRow.knobs == []) : Bool) = true := by kernel_rfl
theorem jf8_fnExactFastRace : ((Try.prog.stopKnobs == []) : Bool) = true := by kernel_rfl
theorem jf9_fnExactFastRace : ((Rows.fnExactFastRaceRow.inPlace == Try.prog.inPlace 3) : Bool) = true := by kernel_rfl
theorem jf10_fnExactFastRace : ((Rows.fnExactFastRaceRow.unfollowed == Try.prog.unfollowed 3) : Bool) = true := by kernel_rfl
theorem jf11_fnExactFastRace : ((Rows.fnExactFastRaceRow.recurses == Try.prog.recurses 3) : Bool) = true := by kernel_rfl
theorem jf12_fnExactFastRace : ((Rows.fnExactFastRaceRow.named == Try.prog.varsNamed 3) : Bool) = true := by kernel_rfl
theorem jf13_fnExactFastRace : ((Rows.fnExactFastRaceRow.maps == (Try.f3.params.toList ++ Rows.fnExactFastRaceSpec.plain.varTypes Try.prog).any (Try.prog.mapsRec ·)) : Bool) = true := by kernel_rfl
theorem jf14_fnExactFastRace : ((Rows.fnExactFastRaceRow.ifaces == (Try.f3.params.toList ++ Rows.fnExactFastRaceSpec.plain.varTypes Try.prog).any (Try.prog.ifacesRec ·)) : Bool) = true := by kernel_rfl
theorem jf15_fnExactFastRace : ((Rows.fnExactFastRaceRow.mapsOut == Try.prog.mapsAmong Try.f3.resultTypes.toList) : Bool) = true := by kernel_rfl
theorem jf16_fnExactFastRace : ((Rows.fnExactFastRaceRow.loops == (Try.f3.params.toList ++ Rows.fnExactFastRaceSpec.plain.varTypes Try.prog).any (Try.prog.loopsFrom ·)) : Bool) = true := by kernel_rfl
theorem jf17_fnExactFastRace : ((Rows.fnExactFastRaceRow.wideKeys == (Try.f3.params.toList ++ Rows.fnExactFastRaceSpec.plain.varTypes Try.prog ++ Try.f3.resultTypes.toList).any (Try.prog.wideKeysFrom ·)) : Bool) = true := by kernel_rfl
theorem jf18_fnExactFastRace : (Rows.fnExactFastRaceSpec.vars.all (Try.prog.varReadable ·) : Bool) = true := by kernel_rfl
theorem jf19_fnExactFastRace : (Try.f3.resultTypes.all (fun t => Try.prog.readableRec t && decide (t < Try.prog.types.size)) : Bool) = true := by kernel_rfl
theorem jf20_fnExactFastRace : ((Rows.fnExactFastRaceRow.ifacesOut == Try.f3.resultTypes.toList.any (Try.prog.ifacesRec ·)) : Bool) = true := by kernel_rfl
theorem jf21_fnExactFastRace : ((Rows.fnExactFastRaceRow.loopsOut == Try.f3.resultTypes.toList.any (Try.prog.loopsFrom ·)) : Bool) = true := by kernel_rfl
theorem jf22_fnExactFastRace : ((Rows.fnExactFastRaceRow.plainKeys == Try.prog.plainKeys) : Bool) = true := by kernel_rfl
theorem jf23_fnExactFastRace : (Rows.fnExactFastRaceRow.shortTexts.isNone : Bool) = true := by kernel_rfl
theorem jf24_fnExactFastRace : (Try.prog.stopsHeard : Bool) = true := by kernel_rfl
theorem jf25_fnExactFastRace : (Try.prog.mayEnter : Bool) = true := by kernel_rfl
theorem jf26_fnExactFastRace : ((Rows.fnExactFastRaceRow.lifted == Try.prog.liftsFinal) : Bool) = true := by kernel_rfl
theorem jf27_fnExactFastRace : ((Try.prog.make == some Rows.fnExactFastRaceRow.make) : Bool) = true := by kernel_rfl
theorem jf28_fnExactFastRace : ((Rows.fnExactFastRaceRow.kinds == (if Rows.fnExactFastRaceRow.domain.isEmpty then [] else Try.f3.params.toList.map fun t => match Try.prog.underlying t with | some (.int k) => some k | _ => none)) : Bool) = true := by kernel_rfl
theorem jf29_fnExactFastRace : ((Rows.fnExactFastRaceRow.pinned == Rows.fnExactFastRaceRow.pinnedBy) : Bool) = true := by kernel_rfl
theorem jf30_fnExactFastRace : ((Rows.fnExactFastRaceRow.veiled == (Try.f3.params.toList ++ Rows.fnExactFastRaceSpec.plain.varTypes Try.prog ++ Try.f3.resultTypes.toList).any (Try.prog.veiledRec ·)) : Bool) = true := by kernel_rfl
theorem jf31_fnExactFastRace : (Rows.fnExactFastRaceRow.veiledFits Try.prog Try.f3.params.toList (Try.f3.params.toList ++ Rows.fnExactFastRaceSpec.plain.varTypes Try.prog ++ Try.f3.resultTypes.toList) : Bool) = true := by kernel_rfl
set_option maxRecDepth 100000 in
theorem facts_fnExactFastRace : joinedFacts Try.prog 3 Try.f3 Rows.fnExactFastRaceSpec Rows.fnExactFastRaceRow = true := by unfold joinedFacts; exact (and_mk_fnExactFastRace (and_mk_fnExactFastRace (and_mk_fnExactFastRace (and_mk_fnExactFastRace (and_mk_fnExactFastRace (and_mk_fnExactFastRace (and_mk_fnExactFastRace (and_mk_fnExactFastRace (and_mk_fnExactFastRace (and_mk_fnExactFastRace (and_mk_fnExactFastRace (and_mk_fnExactFastRace (and_mk_fnExactFastRace (and_mk_fnExactFastRace (and_mk_fnExactFastRace (and_mk_fnExactFastRace (and_mk_fnExactFastRace (and_mk_fnExactFastRace (and_mk_fnExactFastRace (and_mk_fnExactFastRace (and_mk_fnExactFastRace (and_mk_fnExactFastRace (and_mk_fnExactFastRace (and_mk_fnExactFastRace (and_mk_fnExactFastRace (and_mk_fnExactFastRace (and_mk_fnExactFastRace (and_mk_fnExactFastRace (and_mk_fnExactFastRace (and_mk_fnExactFastRace (and_mk_fnExactFastRace jf0_fnExactFastRace jf1_fnExactFastRace) jf2_fnExactFastRace) jf3_fnExactFastRace) jf4_fnExactFastRace) jf5_fnExactFastRace) jf6_fnExactFastRace) jf7_fnExactFastRace) jf8_fnExactFastRace) jf9_fnExactFastRace) jf10_fnExactFastRace) jf11_fnExactFastRace) jf12_fnExactFastRace) jf13_fnExactFastRace) jf14_fnExactFastRace) jf15_fnExactFastRace) jf16_fnExactFastRace) jf17_fnExactFastRace) jf18_fnExactFastRace) jf19_fnExactFastRace) jf20_fnExactFastRace) jf21_fnExactFastRace) jf22_fnExactFastRace) jf23_fnExactFastRace) jf24_fnExactFastRace) jf25_fnExactFastRace) jf26_fnExactFastRace) jf27_fnExactFastRace) jf28_fnExactFastRace) jf29_fnExactFastRace) jf30_fnExactFastRace) jf31_fnExactFastRace)
theorem op3 {H : Type} {enc : TypeId × Value → H} {W : World} : Opens enc Try.prog W 3 o3 (fun x => (Lit.int .i64 x).wf = true) := (opens_int (tiOf_und ty3)).map id (fun _ => rfl) (fun _ h => h)
instance : Inhabited GEvent := ⟨⟨0, 0, 0, 0, 0⟩⟩
theorem op47 {H : Type} {enc : TypeId × Value → H} {W : World} : Opens enc Try.prog W 47 o47 (fun x => wfGEvent x) := by
  have h := opens_struct (enc := enc) (w := W) (tiOf_und ty47) (m := 5) (by kernel_rfl) (L := [(0, 3), (1, 3), (2, 3), (3, 3), (4, 3)]) rfl (opensL_cons (sz := 1) (by kernel_rfl) rfl op3 (opensL_cons (sz := 1) (by kernel_rfl) rfl op3 (opensL_cons (sz := 1) (by kernel_rfl) rfl op3 (opensL_cons (sz := 1) (by kernel_rfl) rfl op3 (opensL_cons (sz := 1) (by kernel_rfl) rfl op3 opensL_nil)))))
  exact h.map (fun p => (⟨p.1, p.2.1, p.2.2.1, p.2.2.2.1, p.2.2.2.2.1⟩ : GEvent)) (fun _ => rfl) (fun p h => ⟨h.1, h.2.1, h.2.2.1, h.2.2.2.1, h.2.2.2.2.1⟩)
theorem op22 {H : Type} {enc : TypeId × Value → H} {W : World} : Opens enc Try.prog W 22 r22 (fun x => x.length ≤ 9223372036854775807 ∧ ∀ y0 ∈ x, wfGEvent y0) := (opens_slice (tiOf_und ty22) (sz := 5) (by kernel_rfl) (by decide) op47).map id (fun _ => rfl) (fun _ h => h)
set_option maxRecDepth 100000 in
theorem lifted (os : Os) (started : os.Started) (H : Type) (enc : TypeId × Value → H) :
    ReturnsInHanded {} Try.checked os 3 .any (Rows.fnExactFastRaceSpec.pre6 enc Try.prog Try.f3 Rows.fnExactFastRaceRow.domain false) (Rows.fnExactFastRaceSpec.post enc Try.prog Try.f3 false true false false) := by
  refine returnsInHanded_of_change (C := Try.checked) own_knob started (by kernel_rfl) Try.func3
    (ChangeSpec.witness6 (enc := enc) (C := Try.checked) false ⟨#[], #[.slice none 0 0], []⟩ 8 (by kernel_rfl) (by kernel_rfl) (by kernel_rfl) (by kernel_rfl)) ?_
  intro W base args ds gs before hval0 hW hcnd _
  have hval : ∀ (j : Nat) t v, Try.f3.params[j]? = some t → args[j]? = some v → Value.okWide Try.prog W .any base t v := hval0
  have hW' := hW
  obtain ⟨p, q, hA0, hV, rfl, hfz, hnd⟩ := hW
  have hA : DataW.TrodAll enc Try.prog W 0 (fun _ => true) true Try.f3.params.toList args.toList ds p := hA0
  rw [Try.params3] at hA hval
  obtain ⟨v0, vs0, d0, ds0, p0, q0, hargs, rfl, rfl, h0, r0⟩ := trodAll_cons hA
  obtain ⟨rfl, rfl, rfl⟩ := trodAll_nil r0
  obtain rfl : args = #[v0] := by cases args; simp_all
  obtain ⟨rfl, rfl⟩ := trodVars_none hV
  have k0 := h0
  have lt0 : ∀ x ∈ p0, x.block < W.heap.size := by obtain ⟨m, hm⟩ := k0; exact DataW.trod_lt m _ _ _ hm
  obtain ⟨x0, g0, rep0⟩ := open_slc (f := fun (x : (List GEvent)) => AV.ro 5 (x.map o47)) op22 h0 (okWide_slice (tiOf_und ty22) (hval 0 _ v0 rfl rfl))
  have hm := (laws_FnExactFastRace_m (law_FastRace x0 g0.1)).2 W (fun b => b < W.heap.size) [v0] (by simp only [repL]; exact ⟨_, [], [], [], rfl, rfl, rep0, rfl, rfl⟩) (fun _ h => h)
  clear hA0 hval0
  refine hm.mono fun e W' ⟨v, fp, he, bel, _, hr, _⟩ => ?_
  subst he
  obtain rfl : v = .bool true := by simp only [rep] at hr; exact hr.2
  exact ⟨_, rfl, _, _, _, [], _, [], hW', trodAll_mk1 (shut_bool (tiOf_und ty4) _), (trodAll_cons_mk (Below.trod laid_out (by kernel_rfl) (of_decide_eq_true (by kernel_rfl)) k0 bel lt0) trodAll_mk0), rfl, bel.frame _, fun h => by cases h⟩
theorem named : Try.prog.funcNamed Rows.fnExactFastRaceRow.func = some 3 := by kernel_rfl
theorem fnExactFastRace_proved : Rows.FnExactFastRaceSaid :=
  OpenClaim.holds_of_wide 3 Try.f3 rfl rfl rfl rfl rfl rfl rfl ⟨rfl, rfl, rfl, rfl, rfl⟩ rfl rfl rfl rfl rfl named Try.func3 facts_fnExactFastRace
    (of_decide_eq_true (by kernel_rfl)) (by unfold Func.isWrapper; first | (rw [if_pos (by decide +kernel)]; kernel_rfl) | (rw [if_neg (by decide +kernel)]; exact ⟨rfl, rfl⟩))
    (fun os started H enc _ => lifted os started H enc)
end Go.Proofs.Ythhcnmideecfpaa
