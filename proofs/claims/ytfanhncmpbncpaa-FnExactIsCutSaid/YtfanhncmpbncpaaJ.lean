/- The program's IsCut returns what the reference's returns, for all arguments; no condition. -/

import Derived.Test.YtfanhncmpbncpaaTX
import Derived.Test.YtfanhncmpbncpaaIC
import Derived.Test.YtfanhncmpbncpaaRows
import Derived.WalkKit
import Derived.ProofKit
import Derived.OpenShut
import Derived.ShutString
import Derived.ChangeOld
import Derived.Below
set_option linter.unusedVariables false
namespace Go.Proofs.Ytfanhncmpbncpaa
open Go Go.T
open Go.ChangeShapes Go.WideShapes Go.ChangeAt Go.RowKit
open Go.ChangeMaps (open_string shut_string)

theorem own_knob : ownKnob Try.prog.godebug = none := by kernel_rfl
theorem laid_out : laidOutB Try.prog = true := by kernel_rfl
theorem and_mk_fnExactIsCut {a b : Bool} (h : a = true) (k : b = true) : (a && b) = true := by rw [h, k]; rfl
theorem jf0_fnExactIsCut : (Rows.fnExactIsCutRow.wf (OpenSpec.ofChange Rows.fnExactIsCutSpec) : Bool) = true := by kernel_rfl
theorem jf1_fnExactIsCut : (laidOutB Try.prog : Bool) = true := by kernel_rfl
theorem jf2_fnExactIsCut : (mapsRowed Try.prog : Bool) = true := by kernel_rfl
theorem jf3_fnExactIsCut : (Try.f5.params.all (Try.prog.readableRec ·) : Bool) = true := by kernel_rfl
theorem jf4_fnExactIsCut : (namedTie Try.prog Rows.fnExactIsCutRow.named Rows.fnExactIsCutSpec.vars : Bool) = true := by kernel_rfl
theorem jf5_fnExactIsCut : ((Rows.fnExactIsCutRow.stops == []) : Bool) = true := by kernel_rfl
theorem jf6_fnExactIsCut : ((Try.prog.stops == []) : Bool) = true := by kernel_rfl
theorem jf7_fnExactIsCut : ((Rows.fnExactIsCutRow.knobs == []) : Bool) = true := by kernel_rfl
theorem jf8_fnExactIsCut : ((Try.prog.stopKnobs == []) : Bool) = true := by kernel_rfl
theorem jf9_fnExactIsCut : ((Rows.fnExactIsCutRow.inPlace == Try.prog.inPlace 5) : Bool) = true := by kernel_rfl
theorem jf10_fnExactIsCut : ((Rows.fnExactIsCutRow.unfollowed == Try.prog.unfollowed 5) : Bool) = true := by kernel_rfl
theorem jf11_fnExactIsCut : ((Rows.fnExactIsCutRow.recurses == Try.prog.recurses 5) : Bool) = true := by kernel_rfl
theorem jf12_fnExactIsCut : ((Rows.fnExactIsCutRow.named == Try.prog.varsNamed 5) : Bool) = true := by kernel_rfl
theorem jf13_fnExactIsCut : ((Rows.fnExactIsCutRow.maps == (Try.f5.params.toList ++ Rows.fnExactIsCutSpec.plain.varTypes Try.prog).any (Try.prog.mapsRec ·)) : Bool) = true := by kernel_rfl
theorem jf14_fnExactIsCut : ((Rows.fnExactIsCutRow.ifaces == (Try.f5.params.toList ++ Rows.fnExactIsCutSpec.plain.varTypes Try.prog).any (Try.prog.ifacesRec ·)) : Bool) = true := by kernel_rfl
theorem jf15_fnExactIsCut : ((Rows.fnExactIsCutRow.mapsOut == Try.prog.mapsAmong Try.f5.resultTypes.toList) : Bool) = true := by kernel_rfl
theorem jf16_fnExactIsCut : ((Rows.fnExactIsCutRow.loops == (Try.f5.params.toList ++ Rows.fnExactIsCutSpec.plain.varTypes Try.prog).any (Try.prog.loopsFrom ·)) : Bool) = true := by kernel_rfl
theorem jf17_fnExactIsCut : ((Rows.fnExactIsCutRow.wideKeys == (Try.f5.params.toList ++ Rows.fnExactIsCutSpec.plain.varTypes Try.prog ++ Try.f5.resultTypes.toList).any (Try.prog.wideKeysFrom ·)) : Bool) = true := by kernel_rfl
theorem jf18_fnExactIsCut : (Rows.fnExactIsCutSpec.vars.all (Try.prog.varReadable ·) : Bool) = true := by kernel_rfl
theorem jf19_fnExactIsCut : (Try.f5.resultTypes.all (fun t => Try.prog.readableRec t && decide (t < Try.prog.types.size)) : Bool) = true := by kernel_rfl
theorem jf20_fnExactIsCut : ((Rows.fnExactIsCutRow.ifacesOut == Try.f5.resultTypes.toList.any (Try.prog.ifacesRec ·)) : Bool) = true := by kernel_rfl
theorem jf21_fnExactIsCut : ((Rows.fnExactIsCutRow.loopsOut == Try.f5.resultTypes.toList.any (Try.prog.loopsFrom ·)) : Bool) = true := by kernel_rfl
theorem jf22_fnExactIsCut : ((Rows.fnExactIsCutRow.plainKeys == Try.prog.plainKeys) : Bool) = true := by kernel_rfl
theorem jf23_fnExactIsCut : (Rows.fnExactIsCutRow.shortTexts.isNone : Bool) = true := by kernel_rfl
theorem jf24_fnExactIsCut : (Try.prog.stopsHeard : Bool) = true := by kernel_rfl
theorem jf25_fnExactIsCut : (Try.prog.mayEnter : Bool) = true := by kernel_rfl
theorem jf26_fnExactIsCut : ((Rows.fnExactIsCutRow.lifted == Try.prog.liftsFinal) : Bool) = true := by kernel_rfl
theorem jf27_fnExactIsCut : ((Try.prog.make == some Rows.fnExactIsCutRow.make) : Bool) = true := by kernel_rfl
theorem jf28_fnExactIsCut : ((Rows.fnExactIsCutRow.kinds == (if Rows.fnExactIsCutRow.domain.isEmpty then [] else Try.f5.params.toList.map fun t => match Try.prog.underlying t with | some (.int k) => some k | _ => none)) : Bool) = true := by kernel_rfl
theorem jf29_fnExactIsCut : ((Rows.fnExactIsCutRow.pinned == Rows.fnExactIsCutRow.pinnedBy) : Bool) = true := by kernel_rfl
theorem jf30_fnExactIsCut : ((Rows.fnExactIsCutRow.veiled == (Try.f5.params.toList ++ Rows.fnExactIsCutSpec.plain.varTypes Try.prog ++ Try.f5.resultTypes.toList).any (Try.prog.veiledRec ·)) : Bool) = true := by kernel_rfl
theorem jf31_fnExactIsCut : (Rows.fnExactIsCutRow.veiledFits Try.prog Try.f5.params.toList (Try.f5.params.toList ++ Rows.fnExactIsCutSpec.plain.varTypes Try.prog ++ Try.f5.resultTypes.toList) : Bool) = true := by kernel_rfl
set_option maxRecDepth 100000 in
theorem facts_fnExactIsCut : joinedFacts Try.prog 5 Try.f5 Rows.fnExactIsCutSpec Rows.fnExactIsCutRow = true := by unfold joinedFacts; exact (and_mk_fnExactIsCut (and_mk_fnExactIsCut (and_mk_fnExactIsCut (and_mk_fnExactIsCut (and_mk_fnExactIsCut (and_mk_fnExactIsCut (and_mk_fnExactIsCut (and_mk_fnExactIsCut (and_mk_fnExactIsCut (and_mk_fnExactIsCut (and_mk_fnExactIsCut (and_mk_fnExactIsCut (and_mk_fnExactIsCut (and_mk_fnExactIsCut (and_mk_fnExactIsCut (and_mk_fnExactIsCut (and_mk_fnExactIsCut (and_mk_fnExactIsCut (and_mk_fnExactIsCut (and_mk_fnExactIsCut (and_mk_fnExactIsCut (and_mk_fnExactIsCut (and_mk_fnExactIsCut (and_mk_fnExactIsCut (and_mk_fnExactIsCut (and_mk_fnExactIsCut (and_mk_fnExactIsCut (and_mk_fnExactIsCut (and_mk_fnExactIsCut (and_mk_fnExactIsCut (and_mk_fnExactIsCut jf0_fnExactIsCut jf1_fnExactIsCut) jf2_fnExactIsCut) jf3_fnExactIsCut) jf4_fnExactIsCut) jf5_fnExactIsCut) jf6_fnExactIsCut) jf7_fnExactIsCut) jf8_fnExactIsCut) jf9_fnExactIsCut) jf10_fnExactIsCut) jf11_fnExactIsCut) jf12_fnExactIsCut) jf13_fnExactIsCut) jf14_fnExactIsCut) jf15_fnExactIsCut) jf16_fnExactIsCut) jf17_fnExactIsCut) jf18_fnExactIsCut) jf19_fnExactIsCut) jf20_fnExactIsCut) jf21_fnExactIsCut) jf22_fnExactIsCut) jf23_fnExactIsCut) jf24_fnExactIsCut) jf25_fnExactIsCut) jf26_fnExactIsCut) jf27_fnExactIsCut) jf28_fnExactIsCut) jf29_fnExactIsCut) jf30_fnExactIsCut) jf31_fnExactIsCut)
theorem op3 {H : Type} {enc : TypeId × Value → H} {W : World} : Opens enc Try.prog W 3 o3 (fun x => (Lit.int .i64 x).wf = true) := (opens_int (tiOf_und ty3)).map id (fun _ => rfl) (fun _ h => h)
instance : Inhabited GEvent := ⟨⟨0, 0, 0, 0, 0⟩⟩
theorem op52 {H : Type} {enc : TypeId × Value → H} {W : World} : Opens enc Try.prog W 52 o52 (fun x => wfGEvent x) := by
  have h := opens_struct (enc := enc) (w := W) (tiOf_und ty52) (m := 5) (by kernel_rfl) (L := [(0, 3), (1, 3), (2, 3), (3, 3), (4, 3)]) rfl (opensL_cons (sz := 1) (by kernel_rfl) rfl op3 (opensL_cons (sz := 1) (by kernel_rfl) rfl op3 (opensL_cons (sz := 1) (by kernel_rfl) rfl op3 (opensL_cons (sz := 1) (by kernel_rfl) rfl op3 (opensL_cons (sz := 1) (by kernel_rfl) rfl op3 opensL_nil)))))
  exact h.map (fun p => (⟨p.1, p.2.1, p.2.2.1, p.2.2.2.1, p.2.2.2.2.1⟩ : GEvent)) (fun _ => rfl) (fun p h => ⟨h.1, h.2.1, h.2.2.1, h.2.2.2.1, h.2.2.2.2.1⟩)
theorem op22 {H : Type} {enc : TypeId × Value → H} {W : World} : Opens enc Try.prog W 22 r22 (fun x => x.length ≤ 9223372036854775807 ∧ ∀ y0 ∈ x, wfGEvent y0) := (opens_slice (tiOf_und ty22) (sz := 5) (by kernel_rfl) (by decide) op52).map id (fun _ => rfl) (fun _ h => h)
theorem op32 {H : Type} {enc : TypeId × Value → H} {W : World} : Opens enc Try.prog W 32 r32 (fun x => x.length ≤ 9223372036854775807 ∧ ∀ y0 ∈ x, (Lit.int .i64 y0).wf = true) := (opens_slice (tiOf_und ty32) (sz := 1) (by kernel_rfl) (by decide) op3).map id (fun _ => rfl) (fun _ h => h)
set_option maxRecDepth 100000 in
theorem lifted (os : Os) (started : os.Started) (H : Type) (enc : TypeId × Value → H) :
    ReturnsInHanded {} Try.checked os 5 .any (Rows.fnExactIsCutSpec.pre6 enc Try.prog Try.f5 Rows.fnExactIsCutRow.domain false) (Rows.fnExactIsCutSpec.post enc Try.prog Try.f5 false true false false) := by
  refine returnsInHanded_of_change (C := Try.checked) own_knob started (by kernel_rfl) Try.func5
    (ChangeSpec.witness6 (enc := enc) (C := Try.checked) false ⟨#[], #[.slice none 0 0, .slice none 0 0], []⟩ 8 (by kernel_rfl) (by kernel_rfl) (by kernel_rfl) (by kernel_rfl)) ?_
  intro W base args ds gs before hval0 hW hcnd _
  have hval : ∀ (j : Nat) t v, Try.f5.params[j]? = some t → args[j]? = some v → Value.okWide Try.prog W .any base t v := hval0
  have hW' := hW
  obtain ⟨p, q, hA0, hV, rfl, hfz, hnd⟩ := hW
  have hA : DataW.TrodAll enc Try.prog W 0 (fun _ => true) true Try.f5.params.toList args.toList ds p := hA0
  rw [Try.params5] at hA hval
  obtain ⟨v0, vs0, d0, ds0, p0, q0, hargs, rfl, rfl, h0, r0⟩ := trodAll_cons hA
  obtain ⟨v1, vs1, d1, ds1, p1, q1, rfl, rfl, rfl, h1, r1⟩ := trodAll_cons r0
  obtain ⟨rfl, rfl, rfl⟩ := trodAll_nil r1
  obtain rfl : args = #[v0, v1] := by cases args; simp_all
  obtain ⟨rfl, rfl⟩ := trodVars_none hV
  have k0 := h0
  have lt0 : ∀ x ∈ p0, x.block < W.heap.size := by obtain ⟨m, hm⟩ := k0; exact DataW.trod_lt m _ _ _ hm
  have k1 := h1
  have lt1 : ∀ x ∈ p1, x.block < W.heap.size := by obtain ⟨m, hm⟩ := k1; exact DataW.trod_lt m _ _ _ hm
  obtain ⟨x0, g0, rep0⟩ := open_slc (f := fun (x : (List GEvent)) => AV.ro 5 (x.map o52)) op22 h0 (okWide_slice (tiOf_und ty22) (hval 0 _ v0 rfl rfl))
  obtain ⟨x1, g1, rep1⟩ := open_slc (f := fun (x : (List Int)) => AV.ro 1 (x.map o3)) op32 h1 (okWide_slice (tiOf_und ty32) (hval 1 _ v1 rfl rfl))
  have hm := (laws_FnExactIsCut_m (law_IsCut x0 x1 g0.1 g1.1)).2 W (fun b => b < W.heap.size) [v0, v1] (by simp only [repL]; exact ⟨_, _, [], [], rfl, rfl, rep0, ⟨_, [], [], [], rfl, rfl, rep1, rfl, rfl⟩⟩) (fun _ h => h)
  clear hA0 hval0
  refine hm.mono fun e W' ⟨v, fp, he, bel, hr, _⟩ => ?_
  subst he
  obtain rfl : v = .bool true := by simp only [rep] at hr; exact hr.2
  exact ⟨_, rfl, _, _, _, [], _, [], hW', trodAll_mk1 (shut_bool (tiOf_und ty4) _), (trodAll_cons_mk (Below.trod laid_out (by kernel_rfl) (of_decide_eq_true (by kernel_rfl)) k0 bel lt0) (trodAll_cons_mk (Below.trod laid_out (by kernel_rfl) (of_decide_eq_true (by kernel_rfl)) k1 bel lt1) trodAll_mk0)), rfl, bel.frame _, fun h => by cases h⟩
theorem named : Try.prog.funcNamed Rows.fnExactIsCutRow.func = some 5 := by kernel_rfl
theorem fnExactIsCut_proved : Rows.FnExactIsCutSaid :=
  OpenClaim.holds_of_wide 5 Try.f5 rfl rfl rfl rfl rfl rfl rfl ⟨rfl, rfl, rfl, rfl, rfl⟩ rfl rfl rfl rfl rfl named Try.func5 facts_fnExactIsCut
    (of_decide_eq_true (by kernel_rfl)) (by unfold Func.isWrapper; first | (rw [if_pos (by decide +kernel)]; kernel_rfl) | (rw [if_neg (by decide +kernel)]; exact ⟨rfl, rfl⟩))
    (fun os started H enc _ => lifted os started H enc)
end Go.Proofs.Ytfanhncmpbncpaa
