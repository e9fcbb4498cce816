/- The program's StepState returns what the reference's returns, for all arguments; no condition. -/

import Derived.Test.YtjcaompblpglcaaGreatTW
import Derived.Test.YtjcaompblpglcaaGreatSTb
import Derived.Test.YtjcaompblpglcaaGreatRows
import Derived.WalkKit
import Derived.ProofKit
import Derived.OpenShut
import Derived.ShutString
import Derived.ChangeOld
import Derived.Below
set_option linter.unusedVariables false
namespace Go.Proofs.YtjcaompblpglcaaGreat
open Go Go.T
open Go.ChangeShapes Go.WideShapes Go.ChangeAt Go.RowKit
open Go.ChangeMaps (open_string shut_string)
theorem own_knob : ownKnob Tryz.prog.godebug = none := by kernel_rfl
theorem laid_out : laidOutB Tryz.prog = true := by kernel_rfl
theorem and_mk_fnExactStepState {a b : Bool} (h : a = true) (k : b = true) : (a && b) = true := by rw [h, k]; rfl
theorem jf0_fnExactStepState : (Rows.fnExactStepStateRow.wf (OpenSpec.ofChange Rows.fnExactStepStateSpec) : Bool) = true := by kernel_rfl
theorem jf1_fnExactStepState : (laidOutB Tryz.prog : Bool) = true := by kernel_rfl
theorem jf2_fnExactStepState : (mapsRowed Tryz.prog : Bool) = true := by kernel_rfl
theorem jf3_fnExactStepState : (Tryz.f5.params.all (Tryz.prog.readableRec ·) : Bool) = true := by kernel_rfl
theorem jf4_fnExactStepState : (namedTie Tryz.prog Rows.fnExactStepStateRow.named Rows.fnExactStepStateSpec.vars : Bool) = true := by kernel_rfl
theorem jf5_fnExactStepState : ((Rows.fnExactStepStateRow.stops == []) : Bool) = true := by kernel_rfl
theorem jf6_fnExactStepState : ((Tryz.prog.stops == []) : Bool) = true := by kernel_rfl
theorem jf7_fnExactStepState : ((Rows.fnExactStepStateRow.knobs == []) : Bool) = true := by kernel_rfl
theorem jf8_fnExactStepState : ((Tryz.prog.stopKnobs == []) : Bool) = true := by kernel_rfl
theorem jf9_fnExactStepState : ((Rows.fnExactStepStateRow.inPlace == Tryz.prog.inPlace 5) : Bool) = true := by kernel_rfl
theorem jf10_fnExactStepState : ((Rows.fnExactStepStateRow.unfollowed == Tryz.prog.unfollowed 5) : Bool) = true := by kernel_rfl
theorem jf11_fnExactStepState : ((Rows.fnExactStepStateRow.recurses == Tryz.prog.recurses 5) : Bool) = true := by kernel_rfl
theorem jf12_fnExactStepState : ((Rows.fnExactStepStateRow.named == Tryz.prog.varsNamed 5) : Bool) = true := by kernel_rfl
theorem jf13_fnExactStepState : ((Rows.fnExactStepStateRow.maps == (Tryz.f5.params.toList ++ Rows.fnExactStepStateSpec.plain.varTypes Tryz.prog).any (Tryz.prog.mapsRec ·)) : Bool) = true := by kernel_rfl
theorem jf14_fnExactStepState : ((Rows.fnExactStepStateRow.ifaces == (Tryz.f5.params.toList ++ Rows.fnExactStepStateSpec.plain.varTypes Tryz.prog).any (Tryz.prog.ifacesRec ·)) : Bool) = true := by kernel_rfl
theorem jf15_fnExactStepState : ((Rows.fnExactStepStateRow.mapsOut == Tryz.prog.mapsAmong Tryz.f5.resultTypes.toList) : Bool) = true := by kernel_rfl
theorem jf16_fnExactStepState : ((Rows.fnExactStepStateRow.loops == (Tryz.f5.params.toList ++ Rows.fnExactStepStateSpec.plain.varTypes Tryz.prog).any (Tryz.prog.loopsFrom ·)) : Bool) = true := by kernel_rfl
theorem jf17_fnExactStepState : ((Rows.fnExactStepStateRow.wideKeys == (Tryz.f5.params.toList ++ Rows.fnExactStepStateSpec.plain.varTypes Tryz.prog ++ Tryz.f5.resultTypes.toList).any (Tryz.prog.wideKeysFrom ·)) : Bool) = true := by kernel_rfl
theorem jf18_fnExactStepState : (Rows.fnExactStepStateSpec.vars.all (Tryz.prog.varReadable ·) : Bool) = true := by kernel_rfl
theorem jf19_fnExactStepState : (Tryz.f5.resultTypes.all (fun t => Tryz.prog.readableRec t && decide (t < Tryz.prog.types.size)) : Bool) = true := by kernel_rfl
theorem jf20_fnExactStepState : ((Rows.fnExactStepStateRow.ifacesOut == Tryz.f5.resultTypes.toList.any (Tryz.prog.ifacesRec ·)) : Bool) = true := by kernel_rfl
theorem jf21_fnExactStepState : ((Rows.fnExactStepStateRow.loopsOut == Tryz.f5.resultTypes.toList.any (Tryz.prog.loopsFrom ·)) : Bool) = true := by kernel_rfl
theorem jf22_fnExactStepState : ((Rows.fnExactStepStateRow.plainKeys == Tryz.prog.plainKeys) : Bool) = true := by kernel_rfl
theorem jf23_fnExactStepState : (Rows.fnExactStepStateRow.shortTexts.isNone : Bool) = true := by kernel_rfl
theorem jf24_fnExactStepState : (Tryz.prog.stopsHeard : Bool) = true := by kernel_rfl
theorem jf25_fnExactStepState : (Tryz.prog.mayEnter : Bool) = true := by kernel_rfl
theorem jf26_fnExactStepState : ((Rows.fnExactStepStateRow.lifted == Tryz.prog.liftsFinal) : Bool) = true := by kernel_rfl
theorem jf27_fnExactStepState : ((Tryz.prog.make == some Rows.fnExactStepStateRow.make) : Bool) = true := by kernel_rfl
theorem jf28_fnExactStepState : ((Rows.fnExactStepStateRow.kinds == (if Rows.fnExactStepStateRow.domain.isEmpty then [] else Tryz.f5.params.toList.map fun t => match Tryz.prog.underlying t with | some (.int k) => some k | _ => none)) : Bool) = true := by kernel_rfl
theorem jf29_fnExactStepState : ((Rows.fnExactStepStateRow.pinned == Rows.fnExactStepStateRow.pinnedBy) : Bool) = true := by kernel_rfl
theorem jf30_fnExactStepState : ((Rows.fnExactStepStateRow.veiled == (Tryz.f5.params.toList ++ Rows.fnExactStepStateSpec.plain.varTypes Tryz.prog ++ Tryz.f5.resultTypes.toList).any (Tryz.prog.veiledRec ·)) : Bool) = true := by kernel_rfl
theorem jf31_fnExactStepState : (Rows.fnExactStepStateRow.veiledFits Tryz.prog Tryz.f5.params.toList (Tryz.f5.params.toList ++ Rows.fnExactStepStateSpec.plain.varTypes Tryz.prog ++ Tryz.f5.resultTypes.toList) : Bool) = true := by kernel_rfl
set_option maxRecDepth 100000 in
theorem facts_fnExactStepState : joinedFacts Tryz.prog 5 Tryz.f5 Rows.fnExactStepStateSpec Rows.fnExactStepStateRow = true := by unfold joinedFacts; exact (and_mk_fnExactStepState (and_mk_fnExactStepState (and_mk_fnExactStepState (and_mk_fnExactStepState (and_mk_fnExactStepState (and_mk_fnExactStepState (and_mk_fnExactStepState (and_mk_fnExactStepState (and_mk_fnExactStepState (and_mk_fnExactStepState (and_mk_fnExactStepState (and_mk_fnExactStepState (and_mk_fnExactStepState (and_mk_fnExactStepState (and_mk_fnExactStepState (and_mk_fnExactStepState (and_mk_fnExactStepState (and_mk_fnExactStepState (and_mk_fnExactStepState (and_mk_fnExactStepState (and_mk_fnExactStepState (and_mk_fnExactStepState (and_mk_fnExactStepState (and_mk_fnExactStepState (and_mk_fnExactStepState (and_mk_fnExactStepState (and_mk_fnExactStepState (and_mk_fnExactStepState (and_mk_fnExactStepState (and_mk_fnExactStepState (and_mk_fnExactStepState jf0_fnExactStepState jf1_fnExactStepState) jf2_fnExactStepState) jf3_fnExactStepState) jf4_fnExactStepState) jf5_fnExactStepState) jf6_fnExactStepState) jf7_fnExactStepState) jf8_fnExactStepState) jf9_fnExactStepState) jf10_fnExactStepState) jf11_fnExactStepState) jf12_fnExactStepState) jf13_fnExactStepState) jf14_fnExactStepState) jf15_fnExactStepState) jf16_fnExactStepState) jf17_fnExactStepState) jf18_fnExactStepState) jf19_fnExactStepState) jf20_fnExactStepState) jf21_fnExactStepState) jf22_fnExactStepState) jf23_fnExactStepState) jf24_fnExactStepState) jf25_fnExactStepState) jf26_fnExactStepState) jf27_fnExactStepState) jf28_fnExactStepState) jf29_fnExactStepState) jf30_fnExactStepState) jf31_fnExactStepState)
theorem op3 {H : Type} {enc : TypeId × Value → H} {W : World} : Opens enc Tryz.prog W 3 o3 (fun x => (Lit.int .i64 x).wf = true) := (opens_int (tiOf_und ty3)).map id (fun _ => rfl) (fun _ h => h)
theorem op142 {H : Type} {enc : TypeId × Value → H} {W : World} : Opens enc Tryz.prog W 142 o142 (fun x => x < 18446744073709551616) := (opens_float (tiOf_und ty142)).map id (fun _ => rfl) (fun _ h => h)
instance : Inhabited GOp := ⟨⟨0, 0, 0, 0⟩⟩
theorem op213 {H : Type} {enc : TypeId × Value → H} {W : World} : Opens enc Tryz.prog W 213 o213 (fun x => wfGOp x) := by
 have h := opens_struct (enc := enc) (w := W) (tiOf_und ty213) (m := 4) (by kernel_rfl) (L := [(0, 3), (1, 3), (2, 3), (3, 142)]) rfl (opensL_cons (sz := 1) (by kernel_rfl) rfl op3 (opensL_cons (sz := 1) (by kernel_rfl) rfl op3 (opensL_cons (sz := 1) (by kernel_rfl) rfl op3 (opensL_cons (sz := 1) (by kernel_rfl) rfl op142 opensL_nil))))
 exact h.map (fun p => (⟨p.1, p.2.1, p.2.2.1, p.2.2.2.1⟩ : GOp)) (fun _ => rfl) (fun p h => ⟨h.1, h.2.1, h.2.2.1, h.2.2.2.1⟩)
theorem op167 {H : Type} {enc : TypeId × Value → H} {W : World} : Opens enc Tryz.prog W 167 r167 (fun x => x.length ≤ 9223372036854775807 ∧ ∀ y0 ∈ x, wfGOp y0) := (opens_slice (tiOf_und ty167) (sz := 4) (by kernel_rfl) (by decide) op213).map id (fun _ => rfl) (fun _ h => h)
theorem op22 {H : Type} {enc : TypeId × Value → H} {W : World} : Opens enc Tryz.prog W 22 r22 (fun x => x.length ≤ 9223372036854775807 ∧ ∀ y0 ∈ x, y0.length ≤ 9223372036854775807 ∧ ∀ y1 ∈ y0, wfGOp y1) := (opens_slice (tiOf_und ty22) (sz := 1) (by kernel_rfl) (by decide) op167).map id (fun _ => rfl) (fun _ h => h)
instance : Inhabited GProg := ⟨⟨0, 0, 0, []⟩⟩
theorem op24 {H : Type} {enc : TypeId × Value → H} {W : World} : Opens enc Tryz.prog W 24 r24 (fun x => wfGProg x) := by
 have h := opens_struct (enc := enc) (w := W) (tiOf_und ty24) (m := 4) (by kernel_rfl) (L := [(0, 3), (1, 3), (2, 3), (3, 22)]) rfl (opensL_cons (sz := 1) (by kernel_rfl) rfl op3 (opensL_cons (sz := 1) (by kernel_rfl) rfl op3 (opensL_cons (sz := 1) (by kernel_rfl) rfl op3 (opensL_cons (sz := 1) (by kernel_rfl) rfl op22 opensL_nil))))
 exact h.map (fun p => (⟨p.1, p.2.1, p.2.2.1, p.2.2.2.1⟩ : GProg)) (fun _ => rfl) (fun p h => ⟨h.1, h.2.1, h.2.2.1, h.2.2.2.1⟩)
theorem op50 {H : Type} {enc : TypeId × Value → H} {W : World} : Opens enc Tryz.prog W 50 r50 (fun x => x.length ≤ 9223372036854775807 ∧ ∀ y0 ∈ x, y0 < 18446744073709551616) := (opens_slice (tiOf_und ty50) (sz := 1) (by kernel_rfl) (by decide) op142).map id (fun _ => rfl) (fun _ h => h)
instance : Inhabited GThread := ⟨⟨0, 0, 0, 0, 0, []⟩⟩
theorem op178 {H : Type} {enc : TypeId × Value → H} {W : World} : Opens enc Tryz.prog W 178 r178 (fun x => wfGThread x) := by
 have h := opens_struct (enc := enc) (w := W) (tiOf_und ty178) (m := 6) (by kernel_rfl) (L := [(0, 3), (1, 3), (2, 3), (3, 3), (4, 3), (5, 50)]) rfl (opensL_cons (sz := 1) (by kernel_rfl) rfl op3 (opensL_cons (sz := 1) (by kernel_rfl) rfl op3 (opensL_cons (sz := 1) (by kernel_rfl) rfl op3 (opensL_cons (sz := 1) (by kernel_rfl) rfl op3 (opensL_cons (sz := 1) (by kernel_rfl) rfl op3 (opensL_cons (sz := 1) (by kernel_rfl) rfl op50 opensL_nil))))))
 exact h.map (fun p => (⟨p.1, p.2.1, p.2.2.1, p.2.2.2.1, p.2.2.2.2.1, p.2.2.2.2.2.1⟩ : GThread)) (fun _ => rfl) (fun p h => ⟨h.1, h.2.1, h.2.2.1, h.2.2.2.1, h.2.2.2.2.1, h.2.2.2.2.2.1⟩)
theorem op49 {H : Type} {enc : TypeId × Value → H} {W : World} : Opens enc Tryz.prog W 49 r49 (fun x => x.length ≤ 9223372036854775807 ∧ ∀ y0 ∈ x, wfGThread y0) := (opens_slice (tiOf_und ty49) (sz := 6) (by kernel_rfl) (by decide) op178).map id (fun _ => rfl) (fun _ h => h)
theorem op51 {H : Type} {enc : TypeId × Value → H} {W : World} : Opens enc Tryz.prog W 51 r51 (fun x => x.length ≤ 9223372036854775807 ∧ ∀ y0 ∈ x, (Lit.int .i64 y0).wf = true) := (opens_slice (tiOf_und ty51) (sz := 1) (by kernel_rfl) (by decide) op3).map id (fun _ => rfl) (fun _ h => h)
instance : Inhabited GState := ⟨⟨[], [], [], 0⟩⟩
theorem op53 {H : Type} {enc : TypeId × Value → H} {W : World} : Opens enc Tryz.prog W 53 r53 (fun x => wfGState x) := by
 have h := opens_struct (enc := enc) (w := W) (tiOf_und ty53) (m := 4) (by kernel_rfl) (L := [(0, 49), (1, 50), (2, 51), (3, 3)]) rfl (opensL_cons (sz := 1) (by kernel_rfl) rfl op49 (opensL_cons (sz := 1) (by kernel_rfl) rfl op50 (opensL_cons (sz := 1) (by kernel_rfl) rfl op51 (opensL_cons (sz := 1) (by kernel_rfl) rfl op3 opensL_nil))))
 exact h.map (fun p => (⟨p.1, p.2.1, p.2.2.1, p.2.2.2.1⟩ : GState)) (fun _ => rfl) (fun p h => ⟨h.1, h.2.1, h.2.2.1, h.2.2.2.1⟩)
set_option maxRecDepth 100000 in
theorem lifted (os : Os) (started : os.Started) (H : Type) (enc : TypeId × Value → H) :
  ReturnsInHanded {} Tryz.checked os 5 .any (Rows.fnExactStepStateSpec.pre6 enc Tryz.prog Tryz.f5 Rows.fnExactStepStateRow.domain false) (Rows.fnExactStepStateSpec.post enc Tryz.prog Tryz.f5 false true false false) := by
 refine returnsInHanded_of_change (C := Tryz.checked) own_knob started (by kernel_rfl) Tryz.func5
  (ChangeSpec.witness6 (enc := enc) (C := Tryz.checked) false ⟨#[], #[.agg #[.int .i64 0, .int .i64 0, .int .i64 0, .slice none 0 0], .agg #[.slice none 0 0, .slice none 0 0, .slice none 0 0, .int .i64 0], .int .i64 0], []⟩ 8 (by kernel_rfl) (by kernel_rfl) (by kernel_rfl) (by kernel_rfl)) ?_
 intro W base args ds gs before hval0 hW hcnd _
 have hval : ∀ (j : Nat) t v, Tryz.f5.params[j]? = some t → args[j]? = some v → Value.okWide Tryz.prog W .any base t v := hval0
 have hW' := hW
 obtain ⟨p, q, hA0, hV, rfl, hfz, hnd⟩ := hW
 have hA : DataW.TrodAll enc Tryz.prog W 0 (fun _ => true) true Tryz.f5.params.toList args.toList ds p := hA0
 rw [Tryz.params5] at hA hval
 obtain ⟨v0, vs0, d0, ds0, p0, q0, hargs, rfl, rfl, h0, r0⟩ := trodAll_cons hA
 obtain ⟨v1, vs1, d1, ds1, p1, q1, rfl, rfl, rfl, h1, r1⟩ := trodAll_cons r0
 obtain ⟨v2, vs2, d2, ds2, p2, q2, rfl, rfl, rfl, h2, r2⟩ := trodAll_cons r1
 obtain ⟨rfl, rfl, rfl⟩ := trodAll_nil r2
 obtain rfl : args = #[v0, v1, v2] := by cases args; simp_all
 obtain ⟨rfl, rfl⟩ := trodVars_none hV
 have k0 := h0
 have lt0 : ∀ x ∈ p0, x.block < W.heap.size := by obtain ⟨m, hm⟩ := k0; exact DataW.trod_lt m _ _ _ hm
 have k1 := h1
 have lt1 : ∀ x ∈ p1, x.block < W.heap.size := by obtain ⟨m, hm⟩ := k1; exact DataW.trod_lt m _ _ _ hm
 have k2 := h2
 have lt2 : ∀ x ∈ p2, x.block < W.heap.size := by obtain ⟨m, hm⟩ := k2; exact DataW.trod_lt m _ _ _ hm
 obtain ⟨x0, g0, rep0⟩ := open_agg op24 h0 (okWide_struct (tiOf_und ty24) (hval 0 _ v0 rfl rfl))
 obtain ⟨x1, g1, rep1⟩ := open_agg op53 h1 (okWide_struct (tiOf_und ty53) (hval 1 _ v1 rfl rfl))
 obtain ⟨x2, e2, _, _, wf2⟩ := open_int (tiOf_und ty3) (hval 2 _ v2 rfl rfl) k2
 subst e2
 have rep2 : rep W (fun b => b < W.heap.size) (.lit (.int .i64 x2)) (.int .i64 x2) [] := by simp [rep]
 have hm := (laws_FnExactStepState_m (law_StepState x0 x1 x2 g0 g1 wf2)).2 W (fun b => b < W.heap.size) [v0, v1, (.int .i64 x2)] (by simp only [repL]; exact ⟨_, _, [], [], rfl, rfl, rep0, ⟨_, _, [], [], rfl, rfl, rep1, ⟨_, [], [], [], rfl, rfl, rep2, rfl, rfl⟩⟩⟩) (fun _ h => h)
 clear hA0 hval0
 refine hm.mono fun e W' ⟨v, fp, he, bel, _, hr, _⟩ => ?_
 subst he
 obtain rfl : v = .bool true := by simp only [rep] at hr; exact hr.2
 exact ⟨_, rfl, _, _, _, [], _, [], hW', trodAll_mk1 (shut_bool (tiOf_und ty4) _), (trodAll_cons_mk (Below.trod laid_out (by kernel_rfl) (of_decide_eq_true (by kernel_rfl)) k0 bel lt0) (trodAll_cons_mk (Below.trod laid_out (by kernel_rfl) (of_decide_eq_true (by kernel_rfl)) k1 bel lt1) (trodAll_cons_mk (Below.trod laid_out (by kernel_rfl) (of_decide_eq_true (by kernel_rfl)) k2 bel lt2) trodAll_mk0))), rfl, bel.frame _, fun h => by cases h⟩
theorem named : Tryz.prog.funcNamed Rows.fnExactStepStateRow.func = some 5 := by kernel_rfl
theorem fnExactStepState_proved : Rows.FnExactStepStateSaid :=
 OpenClaim.holds_of_wide 5 Tryz.f5 rfl rfl rfl rfl rfl rfl rfl ⟨rfl, rfl, rfl, rfl, rfl⟩ rfl rfl rfl rfl rfl named Tryz.func5 facts_fnExactStepState
  (of_decide_eq_true (by kernel_rfl)) (by unfold Func.isWrapper; first | (rw [if_pos (by decide +kernel)]; kernel_rfl) | (rw [if_neg (by decide +kernel)]; exact ⟨rfl, rfl⟩))
  (fun os started H enc _ => lifted os started H enc)
end Go.Proofs.YtjcaompblpglcaaGreat
