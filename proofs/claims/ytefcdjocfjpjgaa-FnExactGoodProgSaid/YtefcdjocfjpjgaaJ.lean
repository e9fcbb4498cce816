/- The program's GoodProg returns what the reference's returns, for all arguments; no condition. -/

import Derived.Test.YtefcdjocfjpjgaaTX
import Derived.Test.YtefcdjocfjpjgaaO2
import Derived.Test.YtefcdjocfjpjgaaRows
import Derived.WalkKit
import Derived.ProofKit
import Derived.OpenShut
import Derived.ShutString
import Derived.ChangeOld
import Derived.Below
set_option linter.unusedVariables false
namespace Go.Proofs.Ytefcdjocfjpjgaa
open Go Go.T
open Go.ChangeShapes Go.WideShapes Go.ChangeAt Go.RowKit
open Go.ChangeMaps (open_string shut_string)

theorem own_knob : ownKnob Try.prog.godebug = none := by kernel_rfl
theorem laid_out : laidOutB Try.prog = true := by kernel_rfl
theorem and_mk_fnExactGoodProg {a b : Bool} (h : a = true) (k : b = true) : (a && b) = true := by rw [h, k]; rfl
theorem jf0_fnExactGoodProg : (Rows.fnExactGoodProgRow.wf (OpenSpec.ofChange Rows.fnExactGoodProgSpec) : Bool) = true := by kernel_rfl
theorem jf1_fnExactGoodProg : (laidOutB Try.prog : Bool) = true := by kernel_rfl
theorem jf2_fnExactGoodProg : (mapsRowed Try.prog : Bool) = true := by kernel_rfl
theorem jf3_fnExactGoodProg : (Try.f8.params.all (Try.prog.readableRec ·) : Bool) = true := by kernel_rfl
theorem jf4_fnExactGoodProg : (namedTie Try.prog Rows.fnExactGoodProgRow.named Rows.fnExactGoodProgSpec.vars : Bool) = true := by kernel_rfl
theorem jf5_fnExactGoodProg : ((Rows.fnExactGoodProgRow.stops == []) : Bool) = true := by kernel_rfl
theorem jf6_fnExactGoodProg : ((Try.prog.stops == []) : Bool) = true := by kernel_rfl
theorem jf7_fnExactGoodProg : ((Rows.fnExactGoodProgRow.knobs == []) : Bool) = true := by kernel_rfl
theorem jf8_fnExactGoodProg : ((Try.prog.stopKnobs == []) : Bool) = true := by kernel_rfl
theorem jf9_fnExactGoodProg : ((Rows.fnExactGoodProgRow.inPlace == Try.prog.inPlace 8) : Bool) = true := by kernel_rfl
theorem jf10_fnExactGoodProg : ((Rows.fnExactGoodProgRow.unfollowed == Try.prog.unfollowed 8) : Bool) = true := by kernel_rfl
theorem jf11_fnExactGoodProg : ((Rows.fnExactGoodProgRow.recurses == Try.prog.recurses 8) : Bool) = true := by kernel_rfl
theorem jf12_fnExactGoodProg : ((Rows.fnExactGoodProgRow.named == Try.prog.varsNamed 8) : Bool) = true := by kernel_rfl
theorem jf13_fnExactGoodProg : ((Rows.fnExactGoodProgRow.maps == (Try.f8.params.toList ++ Rows.fnExactGoodProgSpec.plain.varTypes Try.prog).any (Try.prog.mapsRec ·)) : Bool) = true := by kernel_rfl
theorem jf14_fnExactGoodProg : ((Rows.fnExactGoodProgRow.ifaces == (Try.f8.params.toList ++ Rows.fnExactGoodProgSpec.plain.varTypes Try.prog).any (Try.prog.ifacesRec ·)) : Bool) = true := by kernel_rfl
theorem jf15_fnExactGoodProg : ((Rows.fnExactGoodProgRow.mapsOut == Try.prog.mapsAmong Try.f8.resultTypes.toList) : Bool) = true := by kernel_rfl
theorem jf16_fnExactGoodProg : ((Rows.fnExactGoodProgRow.loops == (Try.f8.params.toList ++ Rows.fnExactGoodProgSpec.plain.varTypes Try.prog).any (Try.prog.loopsFrom ·)) : Bool) = true := by kernel_rfl
theorem jf17_fnExactGoodProg : ((Rows.fnExactGoodProgRow.wideKeys == (Try.f8.params.toList ++ Rows.fnExactGoodProgSpec.plain.varTypes Try.prog ++ Try.f8.resultTypes.toList).any (Try.prog.wideKeysFrom ·)) : Bool) = true := by kernel_rfl
theorem jf18_fnExactGoodProg : (Rows.fnExactGoodProgSpec.vars.all (Try.prog.varReadable ·) : Bool) = true := by kernel_rfl
theorem jf19_fnExactGoodProg : (Try.f8.resultTypes.all (fun t => Try.prog.readableRec t && decide (t < Try.prog.types.size)) : Bool) = true := by kernel_rfl
theorem jf20_fnExactGoodProg : ((Rows.fnExactGoodProgRow.ifacesOut == Try.f8.resultTypes.toList.any (Try.prog.ifacesRec ·)) : Bool) = true := by kernel_rfl
theorem jf21_fnExactGoodProg : ((Rows.fnExactGoodProgRow.loopsOut == Try.f8.resultTypes.toList.any (Try.prog.loopsFrom ·)) : Bool) = true := by kernel_rfl
theorem jf22_fnExactGoodProg : ((Rows.fnExactGoodProgRow.plainKeys == Try.prog.plainKeys) : Bool) = true := by kernel_rfl
theorem jf23_fnExactGoodProg : (Rows.fnExactGoodProgRow.shortTexts.isNone : Bool) = true := by kernel_rfl
theorem jf24_fnExactGoodProg : (Try.prog.stopsHeard : Bool) = true := by kernel_rfl
theorem jf25_fnExactGoodProg : (Try.prog.mayEnter : Bool) = true := by kernel_rfl
theorem jf26_fnExactGoodProg : ((Rows.fnExactGoodProgRow.lifted == Try.prog.liftsFinal) : Bool) = true := by kernel_rfl
theorem jf27_fnExactGoodProg : ((Try.prog.make == some Rows.fnExactGoodProgRow.make) : Bool) = true := by kernel_rfl
theorem jf28_fnExactGoodProg : ((Rows.fnExactGoodProgRow.kinds == (if Rows.fnExactGoodProgRow.domain.isEmpty then [] else Try.f8.params.toList.map fun t => match Try.prog.underlying t with | some (.int k) => some k | _ => none)) : Bool) = true := by kernel_rfl
theorem jf29_fnExactGoodProg : ((Rows.fnExactGoodProgRow.pinned == Rows.fnExactGoodProgRow.pinnedBy) : Bool) = true := by kernel_rfl
theorem jf30_fnExactGoodProg : ((Rows.fnExactGoodProgRow.veiled == (Try.f8.params.toList ++ Rows.fnExactGoodProgSpec.plain.varTypes Try.prog ++ Try.f8.resultTypes.toList).any (Try.prog.veiledRec ·)) : Bool) = true := by kernel_rfl
theorem jf31_fnExactGoodProg : (Rows.fnExactGoodProgRow.veiledFits Try.prog Try.f8.params.toList (Try.f8.params.toList ++ Rows.fnExactGoodProgSpec.plain.varTypes Try.prog ++ Try.f8.resultTypes.toList) : Bool) = true := by kernel_rfl
set_option maxRecDepth 100000 in
theorem facts_fnExactGoodProg : joinedFacts Try.prog 8 Try.f8 Rows.fnExactGoodProgSpec Rows.fnExactGoodProgRow = true := by unfold joinedFacts; exact (and_mk_fnExactGoodProg (and_mk_fnExactGoodProg (and_mk_fnExactGoodProg (and_mk_fnExactGoodProg (and_mk_fnExactGoodProg (and_mk_fnExactGoodProg (and_mk_fnExactGoodProg (and_mk_fnExactGoodProg (and_mk_fnExactGoodProg (and_mk_fnExactGoodProg (and_mk_fnExactGoodProg (and_mk_fnExactGoodProg (and_mk_fnExactGoodProg (and_mk_fnExactGoodProg (and_mk_fnExactGoodProg (and_mk_fnExactGoodProg (and_mk_fnExactGoodProg (and_mk_fnExactGoodProg (and_mk_fnExactGoodProg (and_mk_fnExactGoodProg (and_mk_fnExactGoodProg (and_mk_fnExactGoodProg (and_mk_fnExactGoodProg (and_mk_fnExactGoodProg (and_mk_fnExactGoodProg (and_mk_fnExactGoodProg (and_mk_fnExactGoodProg (and_mk_fnExactGoodProg (and_mk_fnExactGoodProg (and_mk_fnExactGoodProg (and_mk_fnExactGoodProg jf0_fnExactGoodProg jf1_fnExactGoodProg) jf2_fnExactGoodProg) jf3_fnExactGoodProg) jf4_fnExactGoodProg) jf5_fnExactGoodProg) jf6_fnExactGoodProg) jf7_fnExactGoodProg) jf8_fnExactGoodProg) jf9_fnExactGoodProg) jf10_fnExactGoodProg) jf11_fnExactGoodProg) jf12_fnExactGoodProg) jf13_fnExactGoodProg) jf14_fnExactGoodProg) jf15_fnExactGoodProg) jf16_fnExactGoodProg) jf17_fnExactGoodProg) jf18_fnExactGoodProg) jf19_fnExactGoodProg) jf20_fnExactGoodProg) jf21_fnExactGoodProg) jf22_fnExactGoodProg) jf23_fnExactGoodProg) jf24_fnExactGoodProg) jf25_fnExactGoodProg) jf26_fnExactGoodProg) jf27_fnExactGoodProg) jf28_fnExactGoodProg) jf29_fnExactGoodProg) jf30_fnExactGoodProg) jf31_fnExactGoodProg)
theorem op3 {H : Type} {enc : TypeId × Value → H} {W : World} : Opens enc Try.prog W 3 o3 (fun x => (Lit.int .i64 x).wf = true) := (opens_int (tiOf_und ty3)).map id (fun _ => rfl) (fun _ h => h)
theorem op69 {H : Type} {enc : TypeId × Value → H} {W : World} : Opens enc Try.prog W 69 o69 (fun x => x < 18446744073709551616) := (opens_float (tiOf_und ty69)).map id (fun _ => rfl) (fun _ h => h)
instance : Inhabited GOp := ⟨⟨0, 0, 0, 0⟩⟩
theorem op133 {H : Type} {enc : TypeId × Value → H} {W : World} : Opens enc Try.prog W 133 o133 (fun x => wfGOp x) := by
  have h := opens_struct (enc := enc) (w := W) (tiOf_und ty133) (m := 4) (by kernel_rfl) (L := [(0, 3), (1, 3), (2, 3), (3, 69)]) rfl (opensL_cons (sz := 1) (by kernel_rfl) rfl op3 (opensL_cons (sz := 1) (by kernel_rfl) rfl op3 (opensL_cons (sz := 1) (by kernel_rfl) rfl op3 (opensL_cons (sz := 1) (by kernel_rfl) rfl op69 opensL_nil))))
  exact h.map (fun p => (⟨p.1, p.2.1, p.2.2.1, p.2.2.2.1⟩ : GOp)) (fun _ => rfl) (fun p h => ⟨h.1, h.2.1, h.2.2.1, h.2.2.2.1⟩)
theorem op122 {H : Type} {enc : TypeId × Value → H} {W : World} : Opens enc Try.prog W 122 r122 (fun x => x.length ≤ 9223372036854775807 ∧ ∀ y0 ∈ x, wfGOp y0) := (opens_slice (tiOf_und ty122) (sz := 4) (by kernel_rfl) (by decide) op133).map id (fun _ => rfl) (fun _ h => h)
theorem op54 {H : Type} {enc : TypeId × Value → H} {W : World} : Opens enc Try.prog W 54 r54 (fun x => x.length ≤ 9223372036854775807 ∧ ∀ y0 ∈ x, y0.length ≤ 9223372036854775807 ∧ ∀ y1 ∈ y0, wfGOp y1) := (opens_slice (tiOf_und ty54) (sz := 1) (by kernel_rfl) (by decide) op122).map id (fun _ => rfl) (fun _ h => h)
instance : Inhabited GProg := ⟨⟨0, 0, 0, []⟩⟩
theorem op56 {H : Type} {enc : TypeId × Value → H} {W : World} : Opens enc Try.prog W 56 r56 (fun x => wfGProg x) := by
  have h := opens_struct (enc := enc) (w := W) (tiOf_und ty56) (m := 4) (by kernel_rfl) (L := [(0, 3), (1, 3), (2, 3), (3, 54)]) rfl (opensL_cons (sz := 1) (by kernel_rfl) rfl op3 (opensL_cons (sz := 1) (by kernel_rfl) rfl op3 (opensL_cons (sz := 1) (by kernel_rfl) rfl op3 (opensL_cons (sz := 1) (by kernel_rfl) rfl op54 opensL_nil))))
  exact h.map (fun p => (⟨p.1, p.2.1, p.2.2.1, p.2.2.2.1⟩ : GProg)) (fun _ => rfl) (fun p h => ⟨h.1, h.2.1, h.2.2.1, h.2.2.2.1⟩)
set_option maxRecDepth 100000 in
theorem lifted (os : Os) (started : os.Started) (H : Type) (enc : TypeId × Value → H) :
    ReturnsInHanded {} Try.checked os 8 .any (Rows.fnExactGoodProgSpec.pre6 enc Try.prog Try.f8 Rows.fnExactGoodProgRow.domain false) (Rows.fnExactGoodProgSpec.post enc Try.prog Try.f8 false true false false) := by
  refine returnsInHanded_of_change (C := Try.checked) own_knob started (by kernel_rfl) Try.func8
    (ChangeSpec.witness6 (enc := enc) (C := Try.checked) false ⟨#[], #[.agg #[.int .i64 0, .int .i64 0, .int .i64 0, .slice none 0 0]], []⟩ 8 (by kernel_rfl) (by kernel_rfl) (by kernel_rfl) (by kernel_rfl)) ?_
  intro W base args ds gs before hval0 hW hcnd _
  have hval : ∀ (j : Nat) t v, Try.f8.params[j]? = some t → args[j]? = some v → Value.okWide Try.prog W .any base t v := hval0
  have hW' := hW
  obtain ⟨p, q, hA0, hV, rfl, hfz, hnd⟩ := hW
  have hA : DataW.TrodAll enc Try.prog W 0 (fun _ => true) true Try.f8.params.toList args.toList ds p := hA0
  rw [Try.params8] at hA hval
  obtain ⟨v0, vs0, d0, ds0, p0, q0, hargs, rfl, rfl, h0, r0⟩ := trodAll_cons hA
  obtain ⟨rfl, rfl, rfl⟩ := trodAll_nil r0
  obtain rfl : args = #[v0] := by cases args; simp_all
  obtain ⟨rfl, rfl⟩ := trodVars_none hV
  have k0 := h0
  have lt0 : ∀ x ∈ p0, x.block < W.heap.size := by obtain ⟨m, hm⟩ := k0; exact DataW.trod_lt m _ _ _ hm
  obtain ⟨x0, g0, rep0⟩ := open_agg op56 h0 (okWide_struct (tiOf_und ty56) (hval 0 _ v0 rfl rfl))
  have hm := (laws_FnExactGoodProg_m (law_GoodProg x0 g0)).2 W (fun b => b < W.heap.size) [v0] (by simp only [repL]; exact ⟨_, [], [], [], rfl, rfl, rep0, rfl, rfl⟩) (fun _ h => h)
  clear hA0 hval0
  refine hm.mono fun e W' ⟨v, fp, he, bel, hr, _⟩ => ?_
  subst he
  obtain rfl : v = .bool true := by simp only [rep] at hr; exact hr.2
  exact ⟨_, rfl, _, _, _, [], _, [], hW', trodAll_mk1 (shut_bool (tiOf_und ty4) _), (trodAll_cons_mk (Below.trod laid_out (by kernel_rfl) (of_decide_eq_true (by kernel_rfl)) k0 bel lt0) trodAll_mk0), rfl, bel.frame _, fun h => by cases h⟩
theorem named : Try.prog.funcNamed Rows.fnExactGoodProgRow.func = some 8 := by kernel_rfl
theorem fnExactGoodProg_proved : Rows.FnExactGoodProgSaid :=
  OpenClaim.holds_of_wide 8 Try.f8 rfl rfl rfl rfl rfl rfl rfl ⟨rfl, rfl, rfl, rfl, rfl⟩ rfl rfl rfl rfl rfl named Try.func8 facts_fnExactGoodProg
    (of_decide_eq_true (by kernel_rfl)) (by unfold Func.isWrapper; first | (rw [if_pos (by decide +kernel)]; kernel_rfl) | (rw [if_neg (by decide +kernel)]; exact ⟨rfl, rfl⟩))
    (fun os started H enc _ => lifted os started H enc)
end Go.Proofs.Ytefcdjocfjpjgaa
