/- The program's WaitsFor returns what the reference's returns, for all arguments; no condition. -/

import Derived.Test.YtgofeoobgpadiaaTX
import Derived.Test.YtgofeoobgpadiaaWF
import Derived.Test.YtgofeoobgpadiaaRows
import Derived.WalkKit
import Derived.ProofKit
import Derived.OpenShut
import Derived.ShutString
import Derived.ChangeOld
import Derived.Below
set_option linter.unusedVariables false
namespace Go.Proofs.Ytgofeoobgpadiaa
open Go Go.T
open Go.ChangeShapes Go.WideShapes Go.ChangeAt Go.RowKit
open Go.ChangeMaps (open_string shut_string)

theorem own_knob : ownKnob Try.prog.godebug = none := by kernel_rfl
theorem laid_out : laidOutB Try.prog = true := by kernel_rfl
theorem and_mk_fnExactWaitsFor {a b : Bool} (h : a = true) (k : b = true) : (a && b) = true := by rw [h, k]; rfl
theorem jf0_fnExactWaitsFor : (Rows.fnExactWaitsForRow.wf (OpenSpec.ofChange Rows.fnExactWaitsForSpec) : Bool) = true := by kernel_rfl
theorem jf1_fnExactWaitsFor : (laidOutB Try.prog : Bool) = true := by kernel_rfl
theorem jf2_fnExactWaitsFor : (mapsRowed Try.prog : Bool) = true := by kernel_rfl
theorem jf3_fnExactWaitsFor : (Try.f7.params.all (Try.prog.readableRec ·) : Bool) = true := by kernel_rfl
theorem jf4_fnExactWaitsFor : (namedTie Try.prog Rows.fnExactWaitsForRow.named Rows.fnExactWaitsForSpec.vars : Bool) = true := by kernel_rfl
theorem jf5_fnExactWaitsFor : ((Rows.fnExactWaitsForRow.stops == []) : Bool) = true := by kernel_rfl
theorem jf6_fnExactWaitsFor : ((Try.prog.stops == []) : Bool) = true := by kernel_rfl
theorem jf7_fnExactWaitsFor : ((Rows.fnExactWaitsForRow.knobs == []) : Bool) = true := by kernel_rfl
theorem jf8_fnExactWaitsFor : ((Try.prog.stopKnobs == []) : Bool) = true := by kernel_rfl
theorem jf9_fnExactWaitsFor : ((Rows.fnExactWaitsForRow.inPlace == Try.prog.inPlace 7) : Bool) = true := by kernel_rfl
theorem jf10_fnExactWaitsFor : ((Rows.fnExactWaitsForRow.unfollowed == Try.prog.unfollowed 7) : Bool) = true := by kernel_rfl
theorem jf11_fnExactWaitsFor : ((Rows.fnExactWaitsForRow.recurses == Try.prog.recurses 7) : Bool) = true := by kernel_rfl
theorem jf12_fnExactWaitsFor : ((Rows.fnExactWaitsForRow.named == Try.prog.varsNamed 7) : Bool) = true := by kernel_rfl
theorem jf13_fnExactWaitsFor : ((Rows.fnExactWaitsForRow.maps == (Try.f7.params.toList ++ Rows.fnExactWaitsForSpec.plain.varTypes Try.prog).any (Try.prog.mapsRec ·)) : Bool) = true := by kernel_rfl
theorem jf14_fnExactWaitsFor : ((Rows.fnExactWaitsForRow.ifaces == (Try.f7.params.toList ++ Rows.fnExactWaitsForSpec.plain.varTypes Try.prog).any (Try.prog.ifacesRec ·)) : Bool) = true := by kernel_rfl
theorem jf15_fnExactWaitsFor : ((Rows.fnExactWaitsForRow.mapsOut == Try.prog.mapsAmong Try.f7.resultTypes.toList) : Bool) = true := by kernel_rfl
theorem jf16_fnExactWaitsFor : ((Rows.fnExactWaitsForRow.loops == (Try.f7.params.toList ++ Rows.fnExactWaitsForSpec.plain.varTypes Try.prog).any (Try.prog.loopsFrom ·)) : Bool) = true := by kernel_rfl
theorem jf17_fnExactWaitsFor : ((Rows.fnExactWaitsForRow.wideKeys == (Try.f7.params.toList ++ Rows.fnExactWaitsForSpec.plain.varTypes Try.prog ++ Try.f7.resultTypes.toList).any (Try.prog.wideKeysFrom ·)) : Bool) = true := by kernel_rfl
theorem jf18_fnExactWaitsFor : (Rows.fnExactWaitsForSpec.vars.all (Try.prog.varReadable ·) : Bool) = true := by kernel_rfl
theorem jf19_fnExactWaitsFor : (Try.f7.resultTypes.all (fun t => Try.prog.readableRec t && decide (t < Try.prog.types.size)) : Bool) = true := by kernel_rfl
theorem jf20_fnExactWaitsFor : ((Rows.fnExactWaitsForRow.ifacesOut == Try.f7.resultTypes.toList.any (Try.prog.ifacesRec ·)) : Bool) = true := by kernel_rfl
theorem jf21_fnExactWaitsFor : ((Rows.fnExactWaitsForRow.loopsOut == Try.f7.resultTypes.toList.any (Try.prog.loopsFrom ·)) : Bool) = true := by kernel_rfl
theorem jf22_fnExactWaitsFor : ((Rows.fnExactWaitsForRow.plainKeys == Try.prog.plainKeys) : Bool) = true := by kernel_rfl
theorem jf23_fnExactWaitsFor : (Rows.fnExactWaitsForRow.shortTexts.isNone : Bool) = true := by kernel_rfl
theorem jf24_fnExactWaitsFor : (Try.prog.stopsHeard : Bool) = true := by kernel_rfl
theorem jf25_fnExactWaitsFor : (Try.prog.mayEnter : Bool) = true := by kernel_rfl
theorem jf26_fnExactWaitsFor : ((Rows.fnExactWaitsForRow.lifted == Try.prog.liftsFinal) : Bool) = true := by kernel_rfl
theorem jf27_fnExactWaitsFor : ((Try.prog.make == some Rows.fnExactWaitsForRow.make) : Bool) = true := by kernel_rfl
theorem jf28_fnExactWaitsFor : ((Rows.fnExactWaitsForRow.kinds == (if Rows.fnExactWaitsForRow.domain.isEmpty then [] else Try.f7.params.toList.map fun t => match Try.prog.underlying t with | some (.int k) => some k | _ => none)) : Bool) = true := by kernel_rfl
theorem jf29_fnExactWaitsFor : ((Rows.fnExactWaitsForRow.pinned == Rows.fnExactWaitsForRow.pinnedBy) : Bool) = true := by kernel_rfl
theorem jf30_fnExactWaitsFor : ((Rows.fnExactWaitsForRow.veiled == (Try.f7.params.toList ++ Rows.fnExactWaitsForSpec.plain.varTypes Try.prog ++ Try.f7.resultTypes.toList).any (Try.prog.veiledRec ·)) : Bool) = true := by kernel_rfl
theorem jf31_fnExactWaitsFor : (Rows.fnExactWaitsForRow.veiledFits Try.prog Try.f7.params.toList (Try.f7.params.toList ++ Rows.fnExactWaitsForSpec.plain.varTypes Try.prog ++ Try.f7.resultTypes.toList) : Bool) = true := by kernel_rfl
set_option maxRecDepth 100000 in
theorem facts_fnExactWaitsFor : joinedFacts Try.prog 7 Try.f7 Rows.fnExactWaitsForSpec Rows.fnExactWaitsForRow = true := by unfold joinedFacts; exact (and_mk_fnExactWaitsFor (and_mk_fnExactWaitsFor (and_mk_fnExactWaitsFor (and_mk_fnExactWaitsFor (and_mk_fnExactWaitsFor (and_mk_fnExactWaitsFor (and_mk_fnExactWaitsFor (and_mk_fnExactWaitsFor (and_mk_fnExactWaitsFor (and_mk_fnExactWaitsFor (and_mk_fnExactWaitsFor (and_mk_fnExactWaitsFor (and_mk_fnExactWaitsFor (and_mk_fnExactWaitsFor (and_mk_fnExactWaitsFor (and_mk_fnExactWaitsFor (and_mk_fnExactWaitsFor (and_mk_fnExactWaitsFor (and_mk_fnExactWaitsFor (and_mk_fnExactWaitsFor (and_mk_fnExactWaitsFor (and_mk_fnExactWaitsFor (and_mk_fnExactWaitsFor (and_mk_fnExactWaitsFor (and_mk_fnExactWaitsFor (and_mk_fnExactWaitsFor (and_mk_fnExactWaitsFor (and_mk_fnExactWaitsFor (and_mk_fnExactWaitsFor (and_mk_fnExactWaitsFor (and_mk_fnExactWaitsFor jf0_fnExactWaitsFor jf1_fnExactWaitsFor) jf2_fnExactWaitsFor) jf3_fnExactWaitsFor) jf4_fnExactWaitsFor) jf5_fnExactWaitsFor) jf6_fnExactWaitsFor) jf7_fnExactWaitsFor) jf8_fnExactWaitsFor) jf9_fnExactWaitsFor) jf10_fnExactWaitsFor) jf11_fnExactWaitsFor) jf12_fnExactWaitsFor) jf13_fnExactWaitsFor) jf14_fnExactWaitsFor) jf15_fnExactWaitsFor) jf16_fnExactWaitsFor) jf17_fnExactWaitsFor) jf18_fnExactWaitsFor) jf19_fnExactWaitsFor) jf20_fnExactWaitsFor) jf21_fnExactWaitsFor) jf22_fnExactWaitsFor) jf23_fnExactWaitsFor) jf24_fnExactWaitsFor) jf25_fnExactWaitsFor) jf26_fnExactWaitsFor) jf27_fnExactWaitsFor) jf28_fnExactWaitsFor) jf29_fnExactWaitsFor) jf30_fnExactWaitsFor) jf31_fnExactWaitsFor)
theorem op3 {H : Type} {enc : TypeId × Value → H} {W : World} : Opens enc Try.prog W 3 o3 (fun x => (Lit.int .i64 x).wf = true) := (opens_int (tiOf_und ty3)).map id (fun _ => rfl) (fun _ h => h)
theorem op83 {H : Type} {enc : TypeId × Value → H} {W : World} : Opens enc Try.prog W 83 o83 (fun x => x < 18446744073709551616) := (opens_float (tiOf_und ty83)).map id (fun _ => rfl) (fun _ h => h)
instance : Inhabited GOp := ⟨⟨0, 0, 0, 0⟩⟩
theorem op116 {H : Type} {enc : TypeId × Value → H} {W : World} : Opens enc Try.prog W 116 o116 (fun x => wfGOp x) := by
  have h := opens_struct (enc := enc) (w := W) (tiOf_und ty116) (m := 4) (by kernel_rfl) (L := [(0, 3), (1, 3), (2, 3), (3, 83)]) rfl (opensL_cons (sz := 1) (by kernel_rfl) rfl op3 (opensL_cons (sz := 1) (by kernel_rfl) rfl op3 (opensL_cons (sz := 1) (by kernel_rfl) rfl op3 (opensL_cons (sz := 1) (by kernel_rfl) rfl op83 opensL_nil))))
  exact h.map (fun p => (⟨p.1, p.2.1, p.2.2.1, p.2.2.2.1⟩ : GOp)) (fun _ => rfl) (fun p h => ⟨h.1, h.2.1, h.2.2.1, h.2.2.2.1⟩)
theorem op90 {H : Type} {enc : TypeId × Value → H} {W : World} : Opens enc Try.prog W 90 r90 (fun x => x.length ≤ 9223372036854775807 ∧ ∀ y0 ∈ x, wfGOp y0) := (opens_slice (tiOf_und ty90) (sz := 4) (by kernel_rfl) (by decide) op116).map id (fun _ => rfl) (fun _ h => h)
theorem op22 {H : Type} {enc : TypeId × Value → H} {W : World} : Opens enc Try.prog W 22 r22 (fun x => x.length ≤ 9223372036854775807 ∧ ∀ y0 ∈ x, y0.length ≤ 9223372036854775807 ∧ ∀ y1 ∈ y0, wfGOp y1) := (opens_slice (tiOf_und ty22) (sz := 1) (by kernel_rfl) (by decide) op90).map id (fun _ => rfl) (fun _ h => h)
instance : Inhabited GProg := ⟨⟨0, 0, 0, []⟩⟩
theorem op24 {H : Type} {enc : TypeId × Value → H} {W : World} : Opens enc Try.prog W 24 r24 (fun x => wfGProg x) := by
  have h := opens_struct (enc := enc) (w := W) (tiOf_und ty24) (m := 4) (by kernel_rfl) (L := [(0, 3), (1, 3), (2, 3), (3, 22)]) rfl (opensL_cons (sz := 1) (by kernel_rfl) rfl op3 (opensL_cons (sz := 1) (by kernel_rfl) rfl op3 (opensL_cons (sz := 1) (by kernel_rfl) rfl op3 (opensL_cons (sz := 1) (by kernel_rfl) rfl op22 opensL_nil))))
  exact h.map (fun p => (⟨p.1, p.2.1, p.2.2.1, p.2.2.2.1⟩ : GProg)) (fun _ => rfl) (fun p h => ⟨h.1, h.2.1, h.2.2.1, h.2.2.2.1⟩)
theorem op26 {H : Type} {enc : TypeId × Value → H} {W : World} : Opens enc Try.prog W 26 r26 (fun x => x.length ≤ 9223372036854775807 ∧ ∀ y0 ∈ x, y0 < 18446744073709551616) := (opens_slice (tiOf_und ty26) (sz := 1) (by kernel_rfl) (by decide) op83).map id (fun _ => rfl) (fun _ h => h)
instance : Inhabited GThread := ⟨⟨0, 0, 0, 0, 0, []⟩⟩
theorem op92 {H : Type} {enc : TypeId × Value → H} {W : World} : Opens enc Try.prog W 92 r92 (fun x => wfGThread x) := by
  have h := opens_struct (enc := enc) (w := W) (tiOf_und ty92) (m := 6) (by kernel_rfl) (L := [(0, 3), (1, 3), (2, 3), (3, 3), (4, 3), (5, 26)]) rfl (opensL_cons (sz := 1) (by kernel_rfl) rfl op3 (opensL_cons (sz := 1) (by kernel_rfl) rfl op3 (opensL_cons (sz := 1) (by kernel_rfl) rfl op3 (opensL_cons (sz := 1) (by kernel_rfl) rfl op3 (opensL_cons (sz := 1) (by kernel_rfl) rfl op3 (opensL_cons (sz := 1) (by kernel_rfl) rfl op26 opensL_nil))))))
  exact h.map (fun p => (⟨p.1, p.2.1, p.2.2.1, p.2.2.2.1, p.2.2.2.2.1, p.2.2.2.2.2.1⟩ : GThread)) (fun _ => rfl) (fun p h => ⟨h.1, h.2.1, h.2.2.1, h.2.2.2.1, h.2.2.2.2.1, h.2.2.2.2.2.1⟩)
theorem op25 {H : Type} {enc : TypeId × Value → H} {W : World} : Opens enc Try.prog W 25 r25 (fun x => x.length ≤ 9223372036854775807 ∧ ∀ y0 ∈ x, wfGThread y0) := (opens_slice (tiOf_und ty25) (sz := 6) (by kernel_rfl) (by decide) op92).map id (fun _ => rfl) (fun _ h => h)
theorem op27 {H : Type} {enc : TypeId × Value → H} {W : World} : Opens enc Try.prog W 27 r27 (fun x => x.length ≤ 9223372036854775807 ∧ ∀ y0 ∈ x, (Lit.int .i64 y0).wf = true) := (opens_slice (tiOf_und ty27) (sz := 1) (by kernel_rfl) (by decide) op3).map id (fun _ => rfl) (fun _ h => h)
instance : Inhabited GState := ⟨⟨[], [], [], 0⟩⟩
theorem op29 {H : Type} {enc : TypeId × Value → H} {W : World} : Opens enc Try.prog W 29 r29 (fun x => wfGState x) := by
  have h := opens_struct (enc := enc) (w := W) (tiOf_und ty29) (m := 4) (by kernel_rfl) (L := [(0, 25), (1, 26), (2, 27), (3, 3)]) rfl (opensL_cons (sz := 1) (by kernel_rfl) rfl op25 (opensL_cons (sz := 1) (by kernel_rfl) rfl op26 (opensL_cons (sz := 1) (by kernel_rfl) rfl op27 (opensL_cons (sz := 1) (by kernel_rfl) rfl op3 opensL_nil))))
  exact h.map (fun p => (⟨p.1, p.2.1, p.2.2.1, p.2.2.2.1⟩ : GState)) (fun _ => rfl) (fun p h => ⟨h.1, h.2.1, h.2.2.1, h.2.2.2.1⟩)
set_option maxRecDepth 100000 in
theorem lifted (os : Os) (started : os.Started) (H : Type) (enc : TypeId × Value → H) :
    ReturnsInHanded {} Try.checked os 7 .any (Rows.fnExactWaitsForSpec.pre6 enc Try.prog Try.f7 Rows.fnExactWaitsForRow.domain false) (Rows.fnExactWaitsForSpec.post enc Try.prog Try.f7 false true false false) := by
  refine returnsInHanded_of_change (C := Try.checked) own_knob started (by kernel_rfl) Try.func7
    (ChangeSpec.witness6 (enc := enc) (C := Try.checked) false ⟨#[], #[.agg #[.int .i64 0, .int .i64 0, .int .i64 0, .slice none 0 0], .agg #[.slice none 0 0, .slice none 0 0, .slice none 0 0, .int .i64 0]], []⟩ 8 (by kernel_rfl) (by kernel_rfl) (by kernel_rfl) (by kernel_rfl)) ?_
  intro W base args ds gs before hval0 hW hcnd _
  have hval : ∀ (j : Nat) t v, Try.f7.params[j]? = some t → args[j]? = some v → Value.okWide Try.prog W .any base t v := hval0
  have hW' := hW
  obtain ⟨p, q, hA0, hV, rfl, hfz, hnd⟩ := hW
  have hA : DataW.TrodAll enc Try.prog W 0 (fun _ => true) true Try.f7.params.toList args.toList ds p := hA0
  rw [Try.params7] at hA hval
  obtain ⟨v0, vs0, d0, ds0, p0, q0, hargs, rfl, rfl, h0, r0⟩ := trodAll_cons hA
  obtain ⟨v1, vs1, d1, ds1, p1, q1, rfl, rfl, rfl, h1, r1⟩ := trodAll_cons r0
  obtain ⟨rfl, rfl, rfl⟩ := trodAll_nil r1
  obtain rfl : args = #[v0, v1] := by cases args; simp_all
  obtain ⟨rfl, rfl⟩ := trodVars_none hV
  have k0 := h0
  have lt0 : ∀ x ∈ p0, x.block < W.heap.size := by obtain ⟨m, hm⟩ := k0; exact DataW.trod_lt m _ _ _ hm
  have k1 := h1
  have lt1 : ∀ x ∈ p1, x.block < W.heap.size := by obtain ⟨m, hm⟩ := k1; exact DataW.trod_lt m _ _ _ hm
  obtain ⟨x0, g0, rep0⟩ := open_agg op24 h0 (okWide_struct (tiOf_und ty24) (hval 0 _ v0 rfl rfl))
  obtain ⟨x1, g1, rep1⟩ := open_agg op29 h1 (okWide_struct (tiOf_und ty29) (hval 1 _ v1 rfl rfl))
  have hm := (laws_FnExactWaitsFor_m (law_WaitsFor x0 x1 g0 g1)).2 W (fun b => b < W.heap.size) [v0, v1] (by simp only [repL]; exact ⟨_, _, [], [], rfl, rfl, rep0, ⟨_, [], [], [], rfl, rfl, rep1, rfl, rfl⟩⟩) (fun _ h => h)
  clear hA0 hval0
  refine hm.mono fun e W' ⟨v, fp, he, bel, _, hr, _⟩ => ?_
  subst he
  obtain rfl : v = .bool true := by simp only [rep] at hr; exact hr.2
  exact ⟨_, rfl, _, _, _, [], _, [], hW', trodAll_mk1 (shut_bool (tiOf_und ty4) _), (trodAll_cons_mk (Below.trod laid_out (by kernel_rfl) (of_decide_eq_true (by kernel_rfl)) k0 bel lt0) (trodAll_cons_mk (Below.trod laid_out (by kernel_rfl) (of_decide_eq_true (by kernel_rfl)) k1 bel lt1) trodAll_mk0)), rfl, bel.frame _, fun h => by cases h⟩
theorem named : Try.prog.funcNamed Rows.fnExactWaitsForRow.func = some 7 := by kernel_rfl
theorem fnExactWaitsFor_proved : Rows.FnExactWaitsForSaid :=
  OpenClaim.holds_of_wide 7 Try.f7 rfl rfl rfl rfl rfl rfl rfl ⟨rfl, rfl, rfl, rfl, rfl⟩ rfl rfl rfl rfl rfl named Try.func7 facts_fnExactWaitsFor
    (of_decide_eq_true (by kernel_rfl)) (by unfold Func.isWrapper; first | (rw [if_pos (by decide +kernel)]; kernel_rfl) | (rw [if_neg (by decide +kernel)]; exact ⟨rfl, rfl⟩))
    (fun os started H enc _ => lifted os started H enc)
end Go.Proofs.Ytgofeoobgpadiaa
