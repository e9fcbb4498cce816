/- The program's AddPairs returns what the reference's returns, for all arguments; no condition. -/

import Derived.Test.YtihgcgccajikpaaTX
import Derived.Test.YtihgcgccajikpaaAPb
import Derived.Test.YtihgcgccajikpaaRows
import Derived.WalkKit
import Derived.ProofKit
import Derived.OpenShut
import Derived.ShutString
import Derived.ChangeOld
import Derived.Below
set_option linter.unusedVariables false
namespace Go.Proofs.Ytihgcgccajikpaa
open Go Go.T
open Go.ChangeShapes Go.WideShapes Go.ChangeAt Go.RowKit
open Go.ChangeMaps (open_string shut_string)

theorem own_knob : ownKnob Try.prog.godebug = none := by kernel_rfl
theorem laid_out : laidOutB Try.prog = true := by kernel_rfl
theorem and_mk_fnExactAddPairs {a b : Bool} (h : a = true) (k : b = true) : (a && b) = true := by rw [h, k]; rfl
theorem jf0_fnExactAddPairs : (Rows.fnExactAddPairsRow.wf (OpenSpec.ofChange Rows.fnExactAddPairsSpec) : Bool) = true := by kernel_rfl
theorem jf1_fnExactAddPairs : (laidOutB Try.prog : Bool) = true := by kernel_rfl
theorem jf2_fnExactAddPairs : (mapsRowed Try.prog : Bool) = true := by kernel_rfl
theorem jf3_fnExactAddPairs : (Try.f3.params.all (Try.prog.readableRec ·) : Bool) = true := by kernel_rfl
theorem jf4_fnExactAddPairs : (namedTie Try.prog Rows.fnExactAddPairsRow.named Rows.fnExactAddPairsSpec.vars : Bool) = true := by kernel_rfl
theorem jf5_fnExactAddPairs : ((Rows.fnExactAddPairsRow.stops == []) : Bool) = true := by kernel_rfl
theorem jf6_fnExactAddPairs : ((Try.prog.stops == []) : Bool) = true := by kernel_rfl
theorem jf7_fnExactAddPairs : ((Rows.fnExactAddPairsRow.knobs == []) : Bool) = true := by kernel_rfl
theorem jf8_fnExactAddPairs : ((Try.prog.stopKnobs == []) : Bool) = true := by kernel_rfl
theorem jf9_fnExactAddPairs : ((Rows.fnExactAddPairsRow.inPlace == Try.prog.inPlace 3) : Bool) = true := by kernel_rfl
theorem jf10_fnExactAddPairs : ((Rows.fnExactAddPairsRow.unfollowed == Try.prog.unfollowed 3) : Bool) = true := by kernel_rfl
theorem jf11_fnExactAddPairs : ((Rows.fnExactAddPairsRow.recurses == Try.prog.recurses 3) : Bool) = true := by kernel_rfl
theorem jf12_fnExactAddPairs : ((Rows.fnExactAddPairsRow.named == Try.prog.varsNamed 3) : Bool) = true := by kernel_rfl
theorem jf13_fnExactAddPairs : ((Rows.fnExactAddPairsRow.maps == (Try.f3.params.toList ++ Rows.fnExactAddPairsSpec.plain.varTypes Try.prog).any (Try.prog.mapsRec ·)) : Bool) = true := by kernel_rfl
theorem jf14_fnExactAddPairs : ((Rows.fnExactAddPairsRow.ifaces == (Try.f3.params.toList ++ Rows.fnExactAddPairsSpec.plain.varTypes Try.prog).any (Try.prog.ifacesRec ·)) : Bool) = true := by kernel_rfl
theorem jf15_fnExactAddPairs : ((Rows.fnExactAddPairsRow.mapsOut == Try.prog.mapsAmong Try.f3.resultTypes.toList) : Bool) = true := by kernel_rfl
theorem jf16_fnExactAddPairs : ((Rows.fnExactAddPairsRow.loops == (Try.f3.params.toList ++ Rows.fnExactAddPairsSpec.plain.varTypes Try.prog).any (Try.prog.loopsFrom ·)) : Bool) = true := by kernel_rfl
theorem jf17_fnExactAddPairs : ((Rows.fnExactAddPairsRow.wideKeys == (Try.f3.params.toList ++ Rows.fnExactAddPairsSpec.plain.varTypes Try.prog ++ Try.f3.resultTypes.toList).any (Try.prog.wideKeysFrom ·)) : Bool) = true := by kernel_rfl
theorem jf18_fnExactAddPairs : (Rows.fnExactAddPairsSpec.vars.all (Try.prog.varReadable ·) : Bool) = true := by kernel_rfl
theorem jf19_fnExactAddPairs : (Try.f3.resultTypes.all (fun t => Try.prog.readableRec t && decide (t < Try.prog.types.size)) : Bool) = true := by kernel_rfl
theorem jf20_fnExactAddPairs : ((Rows.fnExactAddPairsRow.ifacesOut == Try.f3.resultTypes.toList.any (Try.prog.ifacesRec ·)) : Bool) = true := by kernel_rfl
theorem jf21_fnExactAddPairs : ((Rows.fnExactAddPairsRow.loopsOut == Try.f3.resultTypes.toList.any (Try.prog.loopsFrom ·)) : Bool) = true := by kernel_rfl
theorem jf22_fnExactAddPairs : ((Rows.fnExactAddPairsRow.plainKeys == Try.prog.plainKeys) : Bool) = true := by kernel_rfl
theorem jf23_fnExactAddPairs : (Rows.fnExactAddPairsRow.shortTexts.isNone : Bool) = true := by kernel_rfl
theorem jf24_fnExactAddPairs : (Try.prog.stopsHeard : Bool) = true := by kernel_rfl
theorem jf25_fnExactAddPairs : (Try.prog.mayEnter : Bool) = true := by kernel_rfl
theorem jf26_fnExactAddPairs : ((Rows.fnExactAddPairsRow.lifted == Try.prog.liftsFinal) : Bool) = true := by kernel_rfl
theorem jf27_fnExactAddPairs : ((Try.prog.make == some Rows.fnExactAddPairsRow.make) : Bool) = true := by kernel_rfl
theorem jf28_fnExactAddPairs : ((Rows.fnExactAddPairsRow.kinds == (if Rows.fnExactAddPairsRow.domain.isEmpty then [] else Try.f3.params.toList.map fun t => match Try.prog.underlying t with | some (.int k) => some k | _ => none)) : Bool) = true := by kernel_rfl
theorem jf29_fnExactAddPairs : ((Rows.fnExactAddPairsRow.pinned == Rows.fnExactAddPairsRow.pinnedBy) : Bool) = true := by kernel_rfl
theorem jf30_fnExactAddPairs : ((Rows.fnExactAddPairsRow.veiled == (Try.f3.params.toList ++ Rows.fnExactAddPairsSpec.plain.varTypes Try.prog ++ Try.f3.resultTypes.toList).any (Try.prog.veiledRec ·)) : Bool) = true := by kernel_rfl
theorem jf31_fnExactAddPairs : (Rows.fnExactAddPairsRow.veiledFits Try.prog Try.f3.params.toList (Try.f3.params.toList ++ Rows.fnExactAddPairsSpec.plain.varTypes Try.prog ++ Try.f3.resultTypes.toList) : Bool) = true := by kernel_rfl
set_option maxRecDepth 100000 in
theorem facts_fnExactAddPairs : joinedFacts Try.prog 3 Try.f3 Rows.fnExactAddPairsSpec Rows.fnExactAddPairsRow = true := by unfold joinedFacts; exact (and_mk_fnExactAddPairs (and_mk_fnExactAddPairs (and_mk_fnExactAddPairs (and_mk_fnExactAddPairs (and_mk_fnExactAddPairs (and_mk_fnExactAddPairs (and_mk_fnExactAddPairs (and_mk_fnExactAddPairs (and_mk_fnExactAddPairs (and_mk_fnExactAddPairs (and_mk_fnExactAddPairs (and_mk_fnExactAddPairs (and_mk_fnExactAddPairs (and_mk_fnExactAddPairs (and_mk_fnExactAddPairs (and_mk_fnExactAddPairs (and_mk_fnExactAddPairs (and_mk_fnExactAddPairs (and_mk_fnExactAddPairs (and_mk_fnExactAddPairs (and_mk_fnExactAddPairs (and_mk_fnExactAddPairs (and_mk_fnExactAddPairs (and_mk_fnExactAddPairs (and_mk_fnExactAddPairs (and_mk_fnExactAddPairs (and_mk_fnExactAddPairs (and_mk_fnExactAddPairs (and_mk_fnExactAddPairs (and_mk_fnExactAddPairs (and_mk_fnExactAddPairs jf0_fnExactAddPairs jf1_fnExactAddPairs) jf2_fnExactAddPairs) jf3_fnExactAddPairs) jf4_fnExactAddPairs) jf5_fnExactAddPairs) jf6_fnExactAddPairs) jf7_fnExactAddPairs) jf8_fnExactAddPairs) jf9_fnExactAddPairs) jf10_fnExactAddPairs) jf11_fnExactAddPairs) jf12_fnExactAddPairs) jf13_fnExactAddPairs) jf14_fnExactAddPairs) jf15_fnExactAddPairs) jf16_fnExactAddPairs) jf17_fnExactAddPairs) jf18_fnExactAddPairs) jf19_fnExactAddPairs) jf20_fnExactAddPairs) jf21_fnExactAddPairs) jf22_fnExactAddPairs) jf23_fnExactAddPairs) jf24_fnExactAddPairs) jf25_fnExactAddPairs) jf26_fnExactAddPairs) jf27_fnExactAddPairs) jf28_fnExactAddPairs) jf29_fnExactAddPairs) jf30_fnExactAddPairs) jf31_fnExactAddPairs)
theorem op3 {H : Type} {enc : TypeId × Value → H} {W : World} : Opens enc Try.prog W 3 o3 (fun x => (Lit.int .i64 x).wf = true) := (opens_int (tiOf_und ty3)).map id (fun _ => rfl) (fun _ h => h)
instance : Inhabited GPair := ⟨⟨0, 0, 0⟩⟩
theorem op53 {H : Type} {enc : TypeId × Value → H} {W : World} : Opens enc Try.prog W 53 o53 (fun x => wfGPair x) := by
  have h := opens_struct (enc := enc) (w := W) (tiOf_und ty53) (m := 3) (by kernel_rfl) (L := [(0, 3), (1, 3), (2, 3)]) rfl (opensL_cons (sz := 1) (by kernel_rfl) rfl op3 (opensL_cons (sz := 1) (by kernel_rfl) rfl op3 (opensL_cons (sz := 1) (by kernel_rfl) rfl op3 opensL_nil)))
  exact h.map (fun p => (⟨p.1, p.2.1, p.2.2.1⟩ : GPair)) (fun _ => rfl) (fun p h => ⟨h.1, h.2.1, h.2.2.1⟩)
theorem op22 {H : Type} {enc : TypeId × Value → H} {W : World} : Opens enc Try.prog W 22 r22 (fun x => x.length ≤ 9223372036854775807 ∧ ∀ y0 ∈ x, wfGPair y0) := (opens_slice (tiOf_und ty22) (sz := 3) (by kernel_rfl) (by decide) op53).map id (fun _ => rfl) (fun _ h => h)
set_option maxRecDepth 100000 in
theorem lifted (os : Os) (started : os.Started) (H : Type) (enc : TypeId × Value → H) :
    ReturnsInHanded {} Try.checked os 3 .any (Rows.fnExactAddPairsSpec.pre6 enc Try.prog Try.f3 Rows.fnExactAddPairsRow.domain false) (Rows.fnExactAddPairsSpec.post enc Try.prog Try.f3 false true false false) := by
  refine returnsInHanded_of_change (C := Try.checked) own_knob started (by kernel_rfl) Try.func3
    (ChangeSpec.witness6 (enc := enc) (C := Try.checked) false ⟨#[], #[.slice none 0 0, .slice none 0 0], []⟩ 8 (by kernel_rfl) (by kernel_rfl) (by kernel_rfl) (by kernel_rfl)) ?_
  intro W base args ds gs before hval0 hW hcnd _
  have hval : ∀ (j : Nat) t v, Try.f3.params[j]? = some t → args[j]? = some v → Value.okWide Try.prog W .any base t v := hval0
  have hW' := hW
  obtain ⟨p, q, hA0, hV, rfl, hfz, hnd⟩ := hW
  have hA : DataW.TrodAll enc Try.prog W 0 (fun _ => true) true Try.f3.params.toList args.toList ds p := hA0
  rw [Try.params3] at hA hval
  obtain ⟨v0, vs0, d0, ds0, p0, q0, hargs, rfl, rfl, h0, r0⟩ := trodAll_cons hA
  obtain ⟨v1, vs1, d1, ds1, p1, q1, rfl, rfl, rfl, h1, r1⟩ := trodAll_cons r0
  obtain ⟨rfl, rfl, rfl⟩ := trodAll_nil r1
  obtain rfl : args = #[v0, v1] := by cases args; simp_all
  obtain ⟨rfl, rfl⟩ := trodVars_none hV
  have k0 := h0
  have lt0 : ∀ x ∈ p0, x.block < W.heap.size := by obtain ⟨m, hm⟩ := k0; exact DataW.trod_lt m _ _ _ hm
  have k1 := h1
  have lt1 : ∀ x ∈ p1, x.block < W.heap.size := by obtain ⟨m, hm⟩ := k1; exact DataW.trod_lt m _ _ _ hm
  obtain ⟨x0, g0, rep0⟩ := open_slc (f := fun (x : (List GPair)) => AV.ro 3 (x.map o53)) op22 h0 (okWide_slice (tiOf_und ty22) (hval 0 _ v0 rfl rfl))
  obtain ⟨x1, g1, rep1⟩ := open_slc (f := fun (x : (List GPair)) => AV.ro 3 (x.map o53)) op22 h1 (okWide_slice (tiOf_und ty22) (hval 1 _ v1 rfl rfl))
  have hm := (laws_FnExactAddPairs_m (law_AddPairs x0 x1 g0.1 g1.1)).2 W (fun b => b < W.heap.size) [v0, v1] (by simp only [repL]; exact ⟨_, _, [], [], rfl, rfl, rep0, ⟨_, [], [], [], rfl, rfl, rep1, rfl, rfl⟩⟩) (fun _ h => h)
  clear hA0 hval0
  refine hm.mono fun e W' ⟨v, fp, he, bel, _, hr, _⟩ => ?_
  subst he
  obtain rfl : v = .bool true := by simp only [rep] at hr; exact hr.2
  exact ⟨_, rfl, _, _, _, [], _, [], hW', trodAll_mk1 (shut_bool (tiOf_und ty4) _), (trodAll_cons_mk (Below.trod laid_out (by kernel_rfl) (of_decide_eq_true (by kernel_rfl)) k0 bel lt0) (trodAll_cons_mk (Below.trod laid_out (by kernel_rfl) (of_decide_eq_true (by kernel_rfl)) k1 bel lt1) trodAll_mk0)), rfl, bel.frame _, fun h => by cases h⟩
theorem named : Try.prog.funcNamed Rows.fnExactAddPairsRow.func = some 3 := by kernel_rfl
theorem fnExactAddPairs_proved : Rows.FnExactAddPairsSaid :=
  OpenClaim.holds_of_wide 3 Try.f3 rfl rfl rfl rfl rfl rfl rfl ⟨rfl, rfl, rfl, rfl, rfl⟩ rfl rfl rfl rfl rfl named Try.func3 facts_fnExactAddPairs
    (of_decide_eq_true (by kernel_rfl)) (by unfold Func.isWrapper; first | (rw [if_pos (by decide +kernel)]; kernel_rfl) | (rw [if_neg (by decide +kernel)]; exact ⟨rfl, rfl⟩))
    (fun os started H enc _ => lifted os started H enc)
end Go.Proofs.Ytihgcgccajikpaa
