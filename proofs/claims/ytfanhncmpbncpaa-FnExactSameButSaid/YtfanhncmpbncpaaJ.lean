/- The program's SameBut returns what the reference's returns, for all arguments; no condition. -/

import Derived.Test.YtfanhncmpbncpaaTX
import Derived.Test.YtfanhncmpbncpaaFJ
import Derived.Test.YtfanhncmpbncpaaRows
import Derived.WalkKit
import Derived.ProofKit
import Derived.OpenShut
import Derived.ShutString
import Derived.ChangeOld
import Derived.Below
set_option linter.unusedVariables false
namespace Go.Proofs.Ytfanhncmpbncpaa
open Go Go.T
open Go.ChangeShapes Go.WideShapes Go.ChangeAt Go.RowKit
open Go.ChangeMaps (open_string shut_string)

theorem own_knob : ownKnob Try.prog.godebug = none := by kernel_rfl
theorem laid_out : laidOutB Try.prog = true := by kernel_rfl
theorem and_mk_fnExactSameBut {a b : Bool} (h : a = true) (k : b = true) : (a && b) = true := by rw [h, k]; rfl
theorem jf0_fnExactSameBut : (Rows.fnExactSameButRow.wf (OpenSpec.ofChange Rows.fnExactSameButSpec) : Bool) = true := by kernel_rfl
theorem jf1_fnExactSameBut : (laidOutB Try.prog : Bool) = true := by kernel_rfl
theorem jf2_fnExactSameBut : (mapsRowed Try.prog : Bool) = true := by kernel_rfl
theorem jf3_fnExactSameBut : (Try.f4.params.all (Try.prog.readableRec ·) : Bool) = true := by kernel_rfl
theorem jf4_fnExactSameBut : (namedTie Try.prog Rows.fnExactSameButRow.named Rows.fnExactSameButSpec.vars : Bool) = true := by kernel_rfl
theorem jf5_fnExactSameBut : ((Rows.fnExactSameButRow.stops == []) : Bool) = true := by kernel_rfl
theorem jf6_fnExactSameBut : ((Try.prog.stops == []) : Bool) = true := by kernel_rfl
theorem jf7_fnExactSameBut : ((Rows.fnExactSameButRow.knobs == []) : Bool) = true := by kernel_rfl
theorem jf8_fnExactSameBut : ((Try.prog.stopKnobs == []) : Bool) = true := by kernel_rfl
theorem jf9_fnExactSameBut : ((Rows.fnExactSameButRow.inPlace == Try.prog.inPlace 4) : Bool) = true := by kernel_rfl
theorem jf10_fnExactSameBut : ((Rows.fnExactSameButRow.unfollowed == Try.prog.unfollowed 4) : Bool) = true := by kernel_rfl
theorem jf11_fnExactSameBut : ((Rows.fnExactSameButRow.recurses == Try.prog.recurses 4) : Bool) = true := by kernel_rfl
theorem jf12_fnExactSameBut : ((Rows.fnExactSameButRow.named == Try.prog.varsNamed 4) : Bool) = true := by kernel_rfl
theorem jf13_fnExactSameBut : ((Rows.fnExactSameButRow.maps == (Try.f4.params.toList ++ Rows.fnExactSameButSpec.plain.varTypes Try.prog).any (Try.prog.mapsRec ·)) : Bool) = true := by kernel_rfl
theorem jf14_fnExactSameBut : ((Rows.fnExactSameButRow.ifaces == (Try.f4.params.toList ++ Rows.fnExactSameButSpec.plain.varTypes Try.prog).any (Try.prog.ifacesRec ·)) : Bool) = true := by kernel_rfl
theorem jf15_fnExactSameBut : ((Rows.fnExactSameButRow.mapsOut == Try.prog.mapsAmong Try.f4.resultTypes.toList) : Bool) = true := by kernel_rfl
theorem jf16_fnExactSameBut : ((Rows.fnExactSameButRow.loops == (Try.f4.params.toList ++ Rows.fnExactSameButSpec.plain.varTypes Try.prog).any (Try.prog.loopsFrom ·)) : Bool) = true := by kernel_rfl
theorem jf17_fnExactSameBut : ((Rows.fnExactSameButRow.wideKeys == (Try.f4.params.toList ++ Rows.fnExactSameButSpec.plain.varTypes Try.prog ++ Try.f4.resultTypes.toList).any (Try.prog.wideKeysFrom ·)) : Bool) = true := by kernel_rfl
theorem jf18_fnExactSameBut : (Rows.fnExactSameButSpec.vars.all (Try.prog.varReadable ·) : Bool) = true := by kernel_rfl
theorem jf19_fnExactSameBut : (Try.f4.resultTypes.all (fun t => Try.prog.readableRec t && decide (t < Try.prog.types.size)) : Bool) = true := by kernel_rfl
theorem jf20_fnExactSameBut : ((Rows.fnExactSameButRow.ifacesOut == Try.f4.resultTypes.toList.any (Try.prog.ifacesRec ·)) : Bool) = true := by kernel_rfl
theorem jf21_fnExactSameBut : ((Rows.fnExactSameButRow.loopsOut == Try.f4.resultTypes.toList.any (Try.prog.loopsFrom ·)) : Bool) = true := by kernel_rfl
theorem jf22_fnExactSameBut : ((Rows.fnExactSameButRow.plainKeys == Try.prog.plainKeys) : Bool) = true := by kernel_rfl
theorem jf23_fnExactSameBut : (Rows.fnExactSameButRow.shortTexts.isNone : Bool) = true := by kernel_rfl
theorem jf24_fnExactSameBut : (Try.prog.stopsHeard : Bool) = true := by kernel_rfl
theorem jf25_fnExactSameBut : (Try.prog.mayEnter : Bool) = true := by kernel_rfl
theorem jf26_fnExactSameBut : ((Rows.fnExactSameButRow.lifted == Try.prog.liftsFinal) : Bool) = true := by kernel_rfl
theorem jf27_fnExactSameBut : ((Try.prog.make == some Rows.fnExactSameButRow.make) : Bool) = true := by kernel_rfl
theorem jf28_fnExactSameBut : ((Rows.fnExactSameButRow.kinds == (if Rows.fnExactSameButRow.domain.isEmpty then [] else Try.f4.params.toList.map fun t => match Try.prog.underlying t with | some (.int k) => some k | _ => none)) : Bool) = true := by kernel_rfl
theorem jf29_fnExactSameBut : ((Rows.fnExactSameButRow.pinned == Rows.fnExactSameButRow.pinnedBy) : Bool) = true := by kernel_rfl
theorem jf30_fnExactSameBut : ((Rows.fnExactSameButRow.veiled == (Try.f4.params.toList ++ Rows.fnExactSameButSpec.plain.varTypes Try.prog ++ Try.f4.resultTypes.toList).any (Try.prog.veiledRec ·)) : Bool) = true := by kernel_rfl
theorem jf31_fnExactSameBut : (Rows.fnExactSameButRow.veiledFits Try.prog Try.f4.params.toList (Try.f4.params.toList ++ Rows.fnExactSameButSpec.plain.varTypes Try.prog ++ Try.f4.resultTypes.toList) : Bool) = true := by kernel_rfl
set_option maxRecDepth 100000 in
theorem facts_fnExactSameBut : joinedFacts Try.prog 4 Try.f4 Rows.fnExactSameButSpec Rows.fnExactSameButRow = true := by unfold joinedFacts; exact (and_mk_fnExactSameBut (and_mk_fnExactSameBut (and_mk_fnExactSameBut (and_mk_fnExactSameBut (and_mk_fnExactSameBut (and_mk_fnExactSameBut (and_mk_fnExactSameBut (and_mk_fnExactSameBut (and_mk_fnExactSameBut (and_mk_fnExactSameBut (and_mk_fnExactSameBut (and_mk_fnExactSameBut (and_mk_fnExactSameBut (and_mk_fnExactSameBut (and_mk_fnExactSameBut (and_mk_fnExactSameBut (and_mk_fnExactSameBut (and_mk_fnExactSameBut (and_mk_fnExactSameBut (and_mk_fnExactSameBut (and_mk_fnExactSameBut (and_mk_fnExactSameBut (and_mk_fnExactSameBut (and_mk_fnExactSameBut (and_mk_fnExactSameBut (and_mk_fnExactSameBut (and_mk_fnExactSameBut (and_mk_fnExactSameBut (and_mk_fnExactSameBut (and_mk_fnExactSameBut (and_mk_fnExactSameBut jf0_fnExactSameBut jf1_fnExactSameBut) jf2_fnExactSameBut) jf3_fnExactSameBut) jf4_fnExactSameBut) jf5_fnExactSameBut) jf6_fnExactSameBut) jf7_fnExactSameBut) jf8_fnExactSameBut) jf9_fnExactSameBut) jf10_fnExactSameBut) jf11_fnExactSameBut) jf12_fnExactSameBut) jf13_fnExactSameBut) jf14_fnExactSameBut) jf15_fnExactSameBut) jf16_fnExactSameBut) jf17_fnExactSameBut) jf18_fnExactSameBut) jf19_fnExactSameBut) jf20_fnExactSameBut) jf21_fnExactSameBut) jf22_fnExactSameBut) jf23_fnExactSameBut) jf24_fnExactSameBut) jf25_fnExactSameBut) jf26_fnExactSameBut) jf27_fnExactSameBut) jf28_fnExactSameBut) jf29_fnExactSameBut) jf30_fnExactSameBut) jf31_fnExactSameBut)
theorem op3 {H : Type} {enc : TypeId × Value → H} {W : World} : Opens enc Try.prog W 3 o3 (fun x => (Lit.int .i64 x).wf = true) := (opens_int (tiOf_und ty3)).map id (fun _ => rfl) (fun _ h => h)
instance : Inhabited GEvent := ⟨⟨0, 0, 0, 0, 0⟩⟩
theorem op52 {H : Type} {enc : TypeId × Value → H} {W : World} : Opens enc Try.prog W 52 o52 (fun x => wfGEvent x) := by
  have h := opens_struct (enc := enc) (w := W) (tiOf_und ty52) (m := 5) (by kernel_rfl) (L := [(0, 3), (1, 3), (2, 3), (3, 3), (4, 3)]) rfl (opensL_cons (sz := 1) (by kernel_rfl) rfl op3 (opensL_cons (sz := 1) (by kernel_rfl) rfl op3 (opensL_cons (sz := 1) (by kernel_rfl) rfl op3 (opensL_cons (sz := 1) (by kernel_rfl) rfl op3 (opensL_cons (sz := 1) (by kernel_rfl) rfl op3 opensL_nil)))))
  exact h.map (fun p => (⟨p.1, p.2.1, p.2.2.1, p.2.2.2.1, p.2.2.2.2.1⟩ : GEvent)) (fun _ => rfl) (fun p h => ⟨h.1, h.2.1, h.2.2.1, h.2.2.2.1, h.2.2.2.2.1⟩)
theorem op22 {H : Type} {enc : TypeId × Value → H} {W : World} : Opens enc Try.prog W 22 r22 (fun x => x.length ≤ 9223372036854775807 ∧ ∀ y0 ∈ x, wfGEvent y0) := (opens_slice (tiOf_und ty22) (sz := 5) (by kernel_rfl) (by decide) op52).map id (fun _ => rfl) (fun _ h => h)
set_option maxRecDepth 100000 in
theorem lifted (os : Os) (started : os.Started) (H : Type) (enc : TypeId × Value → H) :
    ReturnsInHanded {} Try.checked os 4 .any (Rows.fnExactSameButSpec.pre6 enc Try.prog Try.f4 Rows.fnExactSameButRow.domain false) (Rows.fnExactSameButSpec.post enc Try.prog Try.f4 false true false false) := by
  refine returnsInHanded_of_change (C := Try.checked) own_knob started (by kernel_rfl) Try.func4
    (ChangeSpec.witness6 (enc := enc) (C := Try.checked) false ⟨#[], #[.slice none 0 0, .slice none 0 0], []⟩ 8 (by kernel_rfl) (by kernel_rfl) (by kernel_rfl) (by kernel_rfl)) ?_
  intro W base args ds gs before hval0 hW hcnd _
  have hval : ∀ (j : Nat) t v, Try.f4.params[j]? = some t → args[j]? = some v → Value.okWide Try.prog W .any base t v := hval0
  have hW' := hW
  obtain ⟨p, q, hA0, hV, rfl, hfz, hnd⟩ := hW
  have hA : DataW.TrodAll enc Try.prog W 0 (fun _ => true) true Try.f4.params.toList args.toList ds p := hA0
  rw [Try.params4] at hA hval
  obtain ⟨v0, vs0, d0, ds0, p0, q0, hargs, rfl, rfl, h0, r0⟩ := trodAll_cons hA
  obtain ⟨v1, vs1, d1, ds1, p1, q1, rfl, rfl, rfl, h1, r1⟩ := trodAll_cons r0
  obtain ⟨rfl, rfl, rfl⟩ := trodAll_nil r1
  obtain rfl : args = #[v0, v1] := by cases args; simp_all
  obtain ⟨rfl, rfl⟩ := trodVars_none hV
  have k0 := h0
  have lt0 : ∀ x ∈ p0, x.block < W.heap.size := by obtain ⟨m, hm⟩ := k0; exact DataW.trod_lt m _ _ _ hm
  have k1 := h1
  have lt1 : ∀ x ∈ p1, x.block < W.heap.size := by obtain ⟨m, hm⟩ := k1; exact DataW.trod_lt m _ _ _ hm
  obtain ⟨x0, g0, rep0⟩ := open_slc (f := fun (x : (List GEvent)) => AV.ro 5 (x.map o52)) op22 h0 (okWide_slice (tiOf_und ty22) (hval 0 _ v0 rfl rfl))
  obtain ⟨x1, g1, rep1⟩ := open_slc (f := fun (x : (List GEvent)) => AV.ro 5 (x.map o52)) op22 h1 (okWide_slice (tiOf_und ty22) (hval 1 _ v1 rfl rfl))
  have hm := (laws_FnExactSameBut_m (law_SameBut x0 x1 g0.1 g1.1)).2 W (fun b => b < W.heap.size) [v0, v1] (by simp only [repL]; exact ⟨_, _, [], [], rfl, rfl, rep0, ⟨_, [], [], [], rfl, rfl, rep1, rfl, rfl⟩⟩) (fun _ h => h)
  clear hA0 hval0
  refine hm.mono fun e W' ⟨v, fp, he, bel, hr, _⟩ => ?_
  subst he
  obtain rfl : v = .bool true := by simp only [rep] at hr; exact hr.2
  exact ⟨_, rfl, _, _, _, [], _, [], hW', trodAll_mk1 (shut_bool (tiOf_und ty4) _), (trodAll_cons_mk (Below.trod laid_out (by kernel_rfl) (of_decide_eq_true (by kernel_rfl)) k0 bel lt0) (trodAll_cons_mk (Below.trod laid_out (by kernel_rfl) (of_decide_eq_true (by kernel_rfl)) k1 bel lt1) trodAll_mk0)), rfl, bel.frame _, fun h => by cases h⟩
theorem named : Try.prog.funcNamed Rows.fnExactSameButRow.func = some 4 := by kernel_rfl
theorem fnExactSameBut_proved : Rows.FnExactSameButSaid :=
  OpenClaim.holds_of_wide 4 Try.f4 rfl rfl rfl rfl rfl rfl rfl ⟨rfl, rfl, rfl, rfl, rfl⟩ rfl rfl rfl rfl rfl named Try.func4 facts_fnExactSameBut
    (of_decide_eq_true (by kernel_rfl)) (by unfold Func.isWrapper; first | (rw [if_pos (by decide +kernel)]; kernel_rfl) | (rw [if_neg (by decide +kernel)]; exact ⟨rfl, rfl⟩))
    (fun os started H enc _ => lifted os started H enc)
end Go.Proofs.Ytfanhncmpbncpaa
