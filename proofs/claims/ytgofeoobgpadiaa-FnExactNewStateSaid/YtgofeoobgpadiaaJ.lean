/- The program's NewState returns what the reference's returns, for all arguments; no condition. -/

import Derived.Test.YtgofeoobgpadiaaTX
import Derived.Test.YtgofeoobgpadiaaNX
import Derived.Test.YtgofeoobgpadiaaRows
import Derived.WalkKit
import Derived.ProofKit
import Derived.OpenShut
import Derived.ShutString
import Derived.ChangeOld
import Derived.Below
set_option linter.unusedVariables false
namespace Go.Proofs.Ytgofeoobgpadiaa
open Go Go.T
open Go.ChangeShapes Go.WideShapes Go.ChangeAt Go.RowKit
open Go.ChangeMaps (open_string shut_string)

theorem own_knob : ownKnob Try.prog.godebug = none := by kernel_rfl
theorem laid_out : laidOutB Try.prog = true := by kernel_rfl
theorem and_mk_fnExactNewState {a b : Bool} (h : a = true) (k : b = true) : (a && b) = true := by rw [h, k]; rfl
theorem jf0_fnExactNewState : (Rows.fnExactNewStateRow.wf (OpenSpec.ofChange Rows.fnExactNewStateSpec) : Bool) = true := by kernel_rfl
theorem jf1_fnExactNewState : (laidOutB Try.prog : Bool) = true := by kernel_rfl
theorem jf2_fnExactNewState : (mapsRowed Try.prog : Bool) = true := by kernel_rfl
theorem jf3_fnExactNewState : (Try.f4.params.all (Try.prog.readableRec ·) : Bool) = true := by kernel_rfl
theorem jf4_fnExactNewState : (namedTie Try.prog Rows.fnExactNewStateRow.named Rows.fnExactNewStateSpec.vars : Bool) = true := by kernel_rfl
theorem jf5_fnExactNewState : ((Rows.fnExactNewStateRow.stops == []) : Bool) = true := by kernel_rfl
theorem jf6_fnExactNewState : ((Try.prog.stops == []) : Bool) = true := by kernel_rfl
theorem jf7_fnExactNewState : ((Rows.fnExactNewStateRow.knobs == []) : Bool) = true := by kernel_rfl
theorem jf8_fnExactNewState : ((Try.prog.stopKnobs == []) : Bool) = true := by kernel_rfl
theorem jf9_fnExactNewState : ((Rows.fnExactNewStateRow.inPlace == Try.prog.inPlace 4) : Bool) = true := by kernel_rfl
theorem jf10_fnExactNewState : ((Rows.fnExactNewStateRow.unfollowed == Try.prog.unfollowed 4) : Bool) = true := by kernel_rfl
theorem jf11_fnExactNewState : ((Rows.fnExactNewStateRow.recurses == Try.prog.recurses 4) : Bool) = true := by kernel_rfl
theorem jf12_fnExactNewState : ((Rows.fnExactNewStateRow.named == Try.prog.varsNamed 4) : Bool) = true := by kernel_rfl
theorem jf13_fnExactNewState : ((Rows.fnExactNewStateRow.maps == (Try.f4.params.toList ++ Rows.fnExactNewStateSpec.plain.varTypes Try.prog).any (Try.prog.mapsRec ·)) : Bool) = true := by kernel_rfl
theorem jf14_fnExactNewState : ((Rows.fnExactNewStateRow.ifaces == (Try.f4.params.toList ++ Rows.fnExactNewStateSpec.plain.varTypes Try.prog).any (Try.prog.ifacesRec ·)) : Bool) = true := by kernel_rfl
theorem jf15_fnExactNewState : ((Rows.fnExactNewStateRow.mapsOut == Try.prog.mapsAmong Try.f4.resultTypes.toList) : Bool) = true := by kernel_rfl
theorem jf16_fnExactNewState : ((Rows.fnExactNewStateRow.loops == (Try.f4.params.toList ++ Rows.fnExactNewStateSpec.plain.varTypes Try.prog).any (Try.prog.loopsFrom ·)) : Bool) = true := by kernel_rfl
theorem jf17_fnExactNewState : ((Rows.fnExactNewStateRow.wideKeys == (Try.f4.params.toList ++ Rows.fnExactNewStateSpec.plain.varTypes Try.prog ++ Try.f4.resultTypes.toList).any (Try.prog.wideKeysFrom ·)) : Bool) = true := by kernel_rfl
theorem jf18_fnExactNewState : (Rows.fnExactNewStateSpec.vars.all (Try.prog.varReadable ·) : Bool) = true := by kernel_rfl
theorem jf19_fnExactNewState : (Try.f4.resultTypes.all (fun t => Try.prog.readableRec t && decide (t < Try.prog.types.size)) : Bool) = true := by kernel_rfl
theorem jf20_fnExactNewState : ((Rows.fnExactNewStateRow.ifacesOut == Try.f4.resultTypes.toList.any (Try.prog.ifacesRec ·)) : Bool) = true := by kernel_rfl
theorem jf21_fnExactNewState : ((Rows.fnExactNewStateRow.loopsOut == Try.f4.resultTypes.toList.any (Try.prog.loopsFrom ·)) : Bool) = true := by kernel_rfl
theorem jf22_fnExactNewState : ((Rows.fnExactNewStateRow.plainKeys == Try.prog.plainKeys) : Bool) = true := by kernel_rfl
theorem jf23_fnExactNewState : (Rows.fnExactNewStateRow.shortTexts.isNone : Bool) = true := by kernel_rfl
theorem jf24_fnExactNewState : (Try.prog.stopsHeard : Bool) = true := by kernel_rfl
theorem jf25_fnExactNewState : (Try.prog.mayEnter : Bool) = true := by kernel_rfl
theorem jf26_fnExactNewState : ((Rows.fnExactNewStateRow.lifted == Try.prog.liftsFinal) : Bool) = true := by kernel_rfl
theorem jf27_fnExactNewState : ((Try.prog.make == some Rows.fnExactNewStateRow.make) : Bool) = true := by kernel_rfl
theorem jf28_fnExactNewState : ((Rows.fnExactNewStateRow.kinds == (if Rows.fnExactNewStateRow.domain.isEmpty then [] else Try.f4.params.toList.map fun t => match Try.prog.underlying t with | some (.int k) => some k | _ => none)) : Bool) = true := by kernel_rfl
theorem jf29_fnExactNewState : ((Rows.fnExactNewStateRow.pinned == Rows.fnExactNewStateRow.pinnedBy) : Bool) = true := by kernel_rfl
theorem jf30_fnExactNewState : ((Rows.fnExactNewStateRow.veiled == (Try.f4.params.toList ++ Rows.fnExactNewStateSpec.plain.varTypes Try.prog ++ Try.f4.resultTypes.toList).any (Try.prog.veiledRec ·)) : Bool) = true := by kernel_rfl
theorem jf31_fnExactNewState : (Rows.fnExactNewStateRow.veiledFits Try.prog Try.f4.params.toList (Try.f4.params.toList ++ Rows.fnExactNewStateSpec.plain.varTypes Try.prog ++ Try.f4.resultTypes.toList) : Bool) = true := by kernel_rfl
set_option maxRecDepth 100000 in
theorem facts_fnExactNewState : joinedFacts Try.prog 4 Try.f4 Rows.fnExactNewStateSpec Rows.fnExactNewStateRow = true := by unfold joinedFacts; exact (and_mk_fnExactNewState (and_mk_fnExactNewState (and_mk_fnExactNewState (and_mk_fnExactNewState (and_mk_fnExactNewState (and_mk_fnExactNewState (and_mk_fnExactNewState (and_mk_fnExactNewState (and_mk_fnExactNewState (and_mk_fnExactNewState (and_mk_fnExactNewState (and_mk_fnExactNewState (and_mk_fnExactNewState (and_mk_fnExactNewState (and_mk_fnExactNewState (and_mk_fnExactNewState (and_mk_fnExactNewState (and_mk_fnExactNewState (and_mk_fnExactNewState (and_mk_fnExactNewState (and_mk_fnExactNewState (and_mk_fnExactNewState (and_mk_fnExactNewState (and_mk_fnExactNewState (and_mk_fnExactNewState (and_mk_fnExactNewState (and_mk_fnExactNewState (and_mk_fnExactNewState (and_mk_fnExactNewState (and_mk_fnExactNewState (and_mk_fnExactNewState jf0_fnExactNewState jf1_fnExactNewState) jf2_fnExactNewState) jf3_fnExactNewState) jf4_fnExactNewState) jf5_fnExactNewState) jf6_fnExactNewState) jf7_fnExactNewState) jf8_fnExactNewState) jf9_fnExactNewState) jf10_fnExactNewState) jf11_fnExactNewState) jf12_fnExactNewState) jf13_fnExactNewState) jf14_fnExactNewState) jf15_fnExactNewState) jf16_fnExactNewState) jf17_fnExactNewState) jf18_fnExactNewState) jf19_fnExactNewState) jf20_fnExactNewState) jf21_fnExactNewState) jf22_fnExactNewState) jf23_fnExactNewState) jf24_fnExactNewState) jf25_fnExactNewState) jf26_fnExactNewState) jf27_fnExactNewState) jf28_fnExactNewState) jf29_fnExactNewState) jf30_fnExactNewState) jf31_fnExactNewState)
theorem op3 {H : Type} {enc : TypeId × Value → H} {W : World} : Opens enc Try.prog W 3 o3 (fun x => (Lit.int .i64 x).wf = true) := (opens_int (tiOf_und ty3)).map id (fun _ => rfl) (fun _ h => h)
theorem op83 {H : Type} {enc : TypeId × Value → H} {W : World} : Opens enc Try.prog W 83 o83 (fun x => x < 18446744073709551616) := (opens_float (tiOf_und ty83)).map id (fun _ => rfl) (fun _ h => h)
instance : Inhabited GOp := ⟨⟨0, 0, 0, 0⟩⟩
theorem op116 {H : Type} {enc : TypeId × Value → H} {W : World} : Opens enc Try.prog W 116 o116 (fun x => wfGOp x) := by
  have h := opens_struct (enc := enc) (w := W) (tiOf_und ty116) (m := 4) (by kernel_rfl) (L := [(0, 3), (1, 3), (2, 3), (3, 83)]) rfl (opensL_cons (sz := 1) (by kernel_rfl) rfl op3 (opensL_cons (sz := 1) (by kernel_rfl) rfl op3 (opensL_cons (sz := 1) (by kernel_rfl) rfl op3 (opensL_cons (sz := 1) (by kernel_rfl) rfl op83 opensL_nil))))
  exact h.map (fun p => (⟨p.1, p.2.1, p.2.2.1, p.2.2.2.1⟩ : GOp)) (fun _ => rfl) (fun p h => ⟨h.1, h.2.1, h.2.2.1, h.2.2.2.1⟩)
theorem op90 {H : Type} {enc : TypeId × Value → H} {W : World} : Opens enc Try.prog W 90 r90 (fun x => x.length ≤ 9223372036854775807 ∧ ∀ y0 ∈ x, wfGOp y0) := (opens_slice (tiOf_und ty90) (sz := 4) (by kernel_rfl) (by decide) op116).map id (fun _ => rfl) (fun _ h => h)
theorem op22 {H : Type} {enc : TypeId × Value → H} {W : World} : Opens enc Try.prog W 22 r22 (fun x => x.length ≤ 9223372036854775807 ∧ ∀ y0 ∈ x, y0.length ≤ 9223372036854775807 ∧ ∀ y1 ∈ y0, wfGOp y1) := (opens_slice (tiOf_und ty22) (sz := 1) (by kernel_rfl) (by decide) op90).map id (fun _ => rfl) (fun _ h => h)
instance : Inhabited GProg := ⟨⟨0, 0, 0, []⟩⟩
theorem op24 {H : Type} {enc : TypeId × Value → H} {W : World} : Opens enc Try.prog W 24 r24 (fun x => wfGProg x) := by
  have h := opens_struct (enc := enc) (w := W) (tiOf_und ty24) (m := 4) (by kernel_rfl) (L := [(0, 3), (1, 3), (2, 3), (3, 22)]) rfl (opensL_cons (sz := 1) (by kernel_rfl) rfl op3 (opensL_cons (sz := 1) (by kernel_rfl) rfl op3 (opensL_cons (sz := 1) (by kernel_rfl) rfl op3 (opensL_cons (sz := 1) (by kernel_rfl) rfl op22 opensL_nil))))
  exact h.map (fun p => (⟨p.1, p.2.1, p.2.2.1, p.2.2.2.1⟩ : GProg)) (fun _ => rfl) (fun p h => ⟨h.1, h.2.1, h.2.2.1, h.2.2.2.1⟩)
set_option maxRecDepth 100000 in
theorem lifted (os : Os) (started : os.Started) (H : Type) (enc : TypeId × Value → H) :
    ReturnsInHanded {} Try.checked os 4 .any (Rows.fnExactNewStateSpec.pre6 enc Try.prog Try.f4 Rows.fnExactNewStateRow.domain false) (Rows.fnExactNewStateSpec.post enc Try.prog Try.f4 false true false false) := by
  refine returnsInHanded_of_change (C := Try.checked) own_knob started (by kernel_rfl) Try.func4
    (ChangeSpec.witness6 (enc := enc) (C := Try.checked) false ⟨#[], #[.agg #[.int .i64 0, .int .i64 0, .int .i64 0, .slice none 0 0]], []⟩ 8 (by kernel_rfl) (by kernel_rfl) (by kernel_rfl) (by kernel_rfl)) ?_
  intro W base args ds gs before hval0 hW hcnd _
  have hval : ∀ (j : Nat) t v, Try.f4.params[j]? = some t → args[j]? = some v → Value.okWide Try.prog W .any base t v := hval0
  have hW' := hW
  obtain ⟨p, q, hA0, hV, rfl, hfz, hnd⟩ := hW
  have hA : DataW.TrodAll enc Try.prog W 0 (fun _ => true) true Try.f4.params.toList args.toList ds p := hA0
  rw [Try.params4] at hA hval
  obtain ⟨v0, vs0, d0, ds0, p0, q0, hargs, rfl, rfl, h0, r0⟩ := trodAll_cons hA
  obtain ⟨rfl, rfl, rfl⟩ := trodAll_nil r0
  obtain rfl : args = #[v0] := by cases args; simp_all
  obtain ⟨rfl, rfl⟩ := trodVars_none hV
  have k0 := h0
  have lt0 : ∀ x ∈ p0, x.block < W.heap.size := by obtain ⟨m, hm⟩ := k0; exact DataW.trod_lt m _ _ _ hm
  obtain ⟨x0, g0, rep0⟩ := open_agg op24 h0 (okWide_struct (tiOf_und ty24) (hval 0 _ v0 rfl rfl))
  have hm := (laws_FnExactNewState_m (law_NewState x0 g0)).2 W (fun b => b < W.heap.size) [v0] (by simp only [repL]; exact ⟨_, [], [], [], rfl, rfl, rep0, rfl, rfl⟩) (fun _ h => h)
  clear hA0 hval0
  refine hm.mono fun e W' ⟨v, fp, he, bel, _, hr, _⟩ => ?_
  subst he
  obtain rfl : v = .bool true := by simp only [rep] at hr; exact hr.2
  exact ⟨_, rfl, _, _, _, [], _, [], hW', trodAll_mk1 (shut_bool (tiOf_und ty4) _), (trodAll_cons_mk (Below.trod laid_out (by kernel_rfl) (of_decide_eq_true (by kernel_rfl)) k0 bel lt0) trodAll_mk0), rfl, bel.frame _, fun h => by cases h⟩
theorem named : Try.prog.funcNamed Rows.fnExactNewStateRow.func = some 4 := by kernel_rfl
theorem fnExactNewState_proved : Rows.FnExactNewStateSaid :=
  OpenClaim.holds_of_wide 4 Try.f4 rfl rfl rfl rfl rfl rfl rfl ⟨rfl, rfl, rfl, rfl, rfl⟩ rfl rfl rfl rfl rfl named Try.func4 facts_fnExactNewState
    (of_decide_eq_true (by kernel_rfl)) (by unfold Func.isWrapper; first | (rw [if_pos (by decide +kernel)]; kernel_rfl) | (rw [if_neg (by decide +kernel)]; exact ⟨rfl, rfl⟩))
    (fun os started H enc _ => lifted os started H enc)
end Go.Proofs.Ytgofeoobgpadiaa
