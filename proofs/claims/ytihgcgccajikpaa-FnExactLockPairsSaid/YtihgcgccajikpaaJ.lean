/- The program's LockPairs returns what the reference's returns, for all arguments; no condition. -/

import Derived.Test.YtihgcgccajikpaaTX
import Derived.Test.YtihgcgccajikpaaLPb
import Derived.Test.YtihgcgccajikpaaRows
import Derived.WalkKit
import Derived.ProofKit
import Derived.OpenShut
import Derived.ShutString
import Derived.ChangeOld
import Derived.Below
set_option linter.unusedVariables false
namespace Go.Proofs.Ytihgcgccajikpaa
open Go Go.T
open Go.ChangeShapes Go.WideShapes Go.ChangeAt Go.RowKit
open Go.ChangeMaps (open_string shut_string)

theorem own_knob : ownKnob Try.prog.godebug = none := by kernel_rfl
theorem laid_out : laidOutB Try.prog = true := by kernel_rfl
theorem and_mk_fnExactLockPairs {a b : Bool} (h : a = true) (k : b = true) : (a && b) = true := by rw [h, k]; rfl
theorem jf0_fnExactLockPairs : (Rows.fnExactLockPairsRow.wf (OpenSpec.ofChange Rows.fnExactLockPairsSpec) : Bool) = true := by kernel_rfl
theorem jf1_fnExactLockPairs : (laidOutB Try.prog : Bool) = true := by kernel_rfl
theorem jf2_fnExactLockPairs : (mapsRowed Try.prog : Bool) = true := by kernel_rfl
theorem jf3_fnExactLockPairs : (Try.f5.params.all (Try.prog.readableRec ·) : Bool) = true := by kernel_rfl
theorem jf4_fnExactLockPairs : (namedTie Try.prog Rows.fnExactLockPairsRow.named Rows.fnExactLockPairsSpec.vars : Bool) = true := by kernel_rfl
theorem jf5_fnExactLockPairs : ((Rows.fnExactLockPairsRow.stops == []) : Bool) = true := by kernel_rfl
theorem jf6_fnExactLockPairs : ((Try.prog.stops == []) : Bool) = true := by kernel_rfl
theorem jf7_fnExactLockPairs : ((Rows.fnExactLockPairsRow.knobs == []) : Bool) = true := by kernel_rfl
theorem jf8_fnExactLockPairs : ((Try.prog.stopKnobs == []) : Bool) = true := by kernel_rfl
theorem jf9_fnExactLockPairs : ((Rows.fnExactLockPairsRow.inPlace == Try.prog.inPlace 5) : Bool) = true := by kernel_rfl
theorem jf10_fnExactLockPairs : ((Rows.fnExactLockPairsRow.unfollowed == Try.prog.unfollowed 5) : Bool) = true := by kernel_rfl
theorem jf11_fnExactLockPairs : ((Rows.fnExactLockPairsRow.recurses == Try.prog.recurses 5) : Bool) = true := by kernel_rfl
theorem jf12_fnExactLockPairs : ((Rows.fnExactLockPairsRow.named == Try.prog.varsNamed 5) : Bool) = true := by kernel_rfl
theorem jf13_fnExactLockPairs : ((Rows.fnExactLockPairsRow.maps == (Try.f5.params.toList ++ Rows.fnExactLockPairsSpec.plain.varTypes Try.prog).any (Try.prog.mapsRec ·)) : Bool) = true := by kernel_rfl
theorem jf14_fnExactLockPairs : ((Rows.fnExactLockPairsRow.ifaces == (Try.f5.params.toList ++ Rows.fnExactLockPairsSpec.plain.varTypes Try.prog).any (Try.prog.ifacesRec ·)) : Bool) = true := by kernel_rfl
theorem jf15_fnExactLockPairs : ((Rows.fnExactLockPairsRow.mapsOut == Try.prog.mapsAmong Try.f5.resultTypes.toList) : Bool) = true := by kernel_rfl
theorem jf16_fnExactLockPairs : ((Rows.fnExactLockPairsRow.loops == (Try.f5.params.toList ++ Rows.fnExactLockPairsSpec.plain.varTypes Try.prog).any (Try.prog.loopsFrom ·)) : Bool) = true := by kernel_rfl
theorem jf17_fnExactLockPairs : ((Rows.fnExactLockPairsRow.wideKeys == (Try.f5.params.toList ++ Rows.fnExactLockPairsSpec.plain.varTypes Try.prog ++ Try.f5.resultTypes.toList).any (Try.prog.wideKeysFrom ·)) : Bool) = true := by kernel_rfl
theorem jf18_fnExactLockPairs : (Rows.fnExactLockPairsSpec.vars.all (Try.prog.varReadable ·) : Bool) = true := by kernel_rfl
theorem jf19_fnExactLockPairs : (Try.f5.resultTypes.all (fun t => Try.prog.readableRec t && decide (t < Try.prog.types.size)) : Bool) = true := by kernel_rfl
theorem jf20_fnExactLockPairs : ((Rows.fnExactLockPairsRow.ifacesOut == Try.f5.resultTypes.toList.any (Try.prog.ifacesRec ·)) : Bool) = true := by kernel_rfl
theorem jf21_fnExactLockPairs : ((Rows.fnExactLockPairsRow.loopsOut == Try.f5.resultTypes.toList.any (Try.prog.loopsFrom ·)) : Bool) = true := by kernel_rfl
theorem jf22_fnExactLockPairs : ((Rows.fnExactLockPairsRow.plainKeys == Try.prog.plainKeys) : Bool) = true := by kernel_rfl
theorem jf23_fnExactLockPairs : (Rows.fnExactLockPairsRow.shortTexts.isNone : Bool) = true := by kernel_rfl
theorem jf24_fnExactLockPairs : (Try.prog.stopsHeard : Bool) = true := by kernel_rfl
theorem jf25_fnExactLockPairs : (Try.prog.mayEnter : Bool) = true := by kernel_rfl
theorem jf26_fnExactLockPairs : ((Rows.fnExactLockPairsRow.lifted == Try.prog.liftsFinal) : Bool) = true := by kernel_rfl
theorem jf27_fnExactLockPairs : ((Try.prog.make == some Rows.fnExactLockPairsRow.make) : Bool) = true := by kernel_rfl
theorem jf28_fnExactLockPairs : ((Rows.fnExactLockPairsRow.kinds == (if Rows.fnExactLockPairsRow.domain.isEmpty then [] else Try.f5.params.toList.map fun t => match Try.prog.underlying t with | some (.int k) => some k | _ => none)) : Bool) = true := by kernel_rfl
theorem jf29_fnExactLockPairs : ((Rows.fnExactLockPairsRow.pinned == Rows.fnExactLockPairsRow.pinnedBy) : Bool) = true := by kernel_rfl
theorem jf30_fnExactLockPairs : ((Rows.fnExactLockPairsRow.veiled == (Try.f5.params.toList ++ Rows.fnExactLockPairsSpec.plain.varTypes Try.prog ++ Try.f5.resultTypes.toList).any (Try.prog.veiledRec ·)) : Bool) = true := by kernel_rfl
theorem jf31_fnExactLockPairs : (Rows.fnExactLockPairsRow.veiledFits Try.prog Try.f5.params.toList (Try.f5.params.toList ++ Rows.fnExactLockPairsSpec.plain.varTypes Try.prog ++ Try.f5.resultTypes.toList) : Bool) = true := by kernel_rfl
set_option maxRecDepth 100000 in
theorem facts_fnExactLockPairs : joinedFacts Try.prog 5 Try.f5 Rows.fnExactLockPairsSpec Rows.fnExactLockPairsRow = true := by unfold joinedFacts; exact (and_mk_fnExactLockPairs (and_mk_fnExactLockPairs (and_mk_fnExactLockPairs (and_mk_fnExactLockPairs (and_mk_fnExactLockPairs (and_mk_fnExactLockPairs (and_mk_fnExactLockPairs (and_mk_fnExactLockPairs (and_mk_fnExactLockPairs (and_mk_fnExactLockPairs (and_mk_fnExactLockPairs (and_mk_fnExactLockPairs (and_mk_fnExactLockPairs (and_mk_fnExactLockPairs (and_mk_fnExactLockPairs (and_mk_fnExactLockPairs (and_mk_fnExactLockPairs (and_mk_fnExactLockPairs (and_mk_fnExactLockPairs (and_mk_fnExactLockPairs (and_mk_fnExactLockPairs (and_mk_fnExactLockPairs (and_mk_fnExactLockPairs (and_mk_fnExactLockPairs (and_mk_fnExactLockPairs (and_mk_fnExactLockPairs (and_mk_fnExactLockPairs (and_mk_fnExactLockPairs (and_mk_fnExactLockPairs (and_mk_fnExactLockPairs (and_mk_fnExactLockPairs jf0_fnExactLockPairs jf1_fnExactLockPairs) jf2_fnExactLockPairs) jf3_fnExactLockPairs) jf4_fnExactLockPairs) jf5_fnExactLockPairs) jf6_fnExactLockPairs) jf7_fnExactLockPairs) jf8_fnExactLockPairs) jf9_fnExactLockPairs) jf10_fnExactLockPairs) jf11_fnExactLockPairs) jf12_fnExactLockPairs) jf13_fnExactLockPairs) jf14_fnExactLockPairs) jf15_fnExactLockPairs) jf16_fnExactLockPairs) jf17_fnExactLockPairs) jf18_fnExactLockPairs) jf19_fnExactLockPairs) jf20_fnExactLockPairs) jf21_fnExactLockPairs) jf22_fnExactLockPairs) jf23_fnExactLockPairs) jf24_fnExactLockPairs) jf25_fnExactLockPairs) jf26_fnExactLockPairs) jf27_fnExactLockPairs) jf28_fnExactLockPairs) jf29_fnExactLockPairs) jf30_fnExactLockPairs) jf31_fnExactLockPairs)
theorem op3 {H : Type} {enc : TypeId × Value → H} {W : World} : Opens enc Try.prog W 3 o3 (fun x => (Lit.int .i64 x).wf = true) := (opens_int (tiOf_und ty3)).map id (fun _ => rfl) (fun _ h => h)
instance : Inhabited GEvent := ⟨⟨0, 0, 0, 0, 0⟩⟩
theorem op66 {H : Type} {enc : TypeId × Value → H} {W : World} : Opens enc Try.prog W 66 o66 (fun x => wfGEvent x) := by
  have h := opens_struct (enc := enc) (w := W) (tiOf_und ty66) (m := 5) (by kernel_rfl) (L := [(0, 3), (1, 3), (2, 3), (3, 3), (4, 3)]) rfl (opensL_cons (sz := 1) (by kernel_rfl) rfl op3 (opensL_cons (sz := 1) (by kernel_rfl) rfl op3 (opensL_cons (sz := 1) (by kernel_rfl) rfl op3 (opensL_cons (sz := 1) (by kernel_rfl) rfl op3 (opensL_cons (sz := 1) (by kernel_rfl) rfl op3 opensL_nil)))))
  exact h.map (fun p => (⟨p.1, p.2.1, p.2.2.1, p.2.2.2.1, p.2.2.2.2.1⟩ : GEvent)) (fun _ => rfl) (fun p h => ⟨h.1, h.2.1, h.2.2.1, h.2.2.2.1, h.2.2.2.2.1⟩)
theorem op31 {H : Type} {enc : TypeId × Value → H} {W : World} : Opens enc Try.prog W 31 r31 (fun x => x.length ≤ 9223372036854775807 ∧ ∀ y0 ∈ x, wfGEvent y0) := (opens_slice (tiOf_und ty31) (sz := 5) (by kernel_rfl) (by decide) op66).map id (fun _ => rfl) (fun _ h => h)
set_option maxRecDepth 100000 in
theorem lifted (os : Os) (started : os.Started) (H : Type) (enc : TypeId × Value → H) :
    ReturnsInHanded {} Try.checked os 5 .any (Rows.fnExactLockPairsSpec.pre6 enc Try.prog Try.f5 Rows.fnExactLockPairsRow.domain false) (Rows.fnExactLockPairsSpec.post enc Try.prog Try.f5 false true false false) := by
  refine returnsInHanded_of_change (C := Try.checked) own_knob started (by kernel_rfl) Try.func5
    (ChangeSpec.witness6 (enc := enc) (C := Try.checked) false ⟨#[], #[.slice none 0 0], []⟩ 8 (by kernel_rfl) (by kernel_rfl) (by kernel_rfl) (by kernel_rfl)) ?_
  intro W base args ds gs before hval0 hW hcnd _
  have hval : ∀ (j : Nat) t v, Try.f5.params[j]? = some t → args[j]? = some v → Value.okWide Try.prog W .any base t v := hval0
  have hW' := hW
  obtain ⟨p, q, hA0, hV, rfl, hfz, hnd⟩ := hW
  have hA : DataW.TrodAll enc Try.prog W 0 (fun _ => true) true Try.f5.params.toList args.toList ds p := hA0
  rw [Try.params5] at hA hval
  obtain ⟨v0, vs0, d0, ds0, p0, q0, hargs, rfl, rfl, h0, r0⟩ := trodAll_cons hA
  obtain ⟨rfl, rfl, rfl⟩ := trodAll_nil r0
  obtain rfl : args = #[v0] := by cases args; simp_all
  obtain ⟨rfl, rfl⟩ := trodVars_none hV
  have k0 := h0
  have lt0 : ∀ x ∈ p0, x.block < W.heap.size := by obtain ⟨m, hm⟩ := k0; exact DataW.trod_lt m _ _ _ hm
  obtain ⟨x0, g0, rep0⟩ := open_slc (f := fun (x : (List GEvent)) => AV.ro 5 (x.map o66)) op31 h0 (okWide_slice (tiOf_und ty31) (hval 0 _ v0 rfl rfl))
  have hm := (laws_FnExactLockPairs_m (law_LockPairs x0 g0.1)).2 W (fun b => b < W.heap.size) [v0] (by simp only [repL]; exact ⟨_, [], [], [], rfl, rfl, rep0, rfl, rfl⟩) (fun _ h => h)
  clear hA0 hval0
  refine hm.mono fun e W' ⟨v, fp, he, bel, _, hr, _⟩ => ?_
  subst he
  obtain rfl : v = .bool true := by simp only [rep] at hr; exact hr.2
  exact ⟨_, rfl, _, _, _, [], _, [], hW', trodAll_mk1 (shut_bool (tiOf_und ty4) _), (trodAll_cons_mk (Below.trod laid_out (by kernel_rfl) (of_decide_eq_true (by kernel_rfl)) k0 bel lt0) trodAll_mk0), rfl, bel.frame _, fun h => by cases h⟩
theorem named : Try.prog.funcNamed Rows.fnExactLockPairsRow.func = some 5 := by kernel_rfl
theorem fnExactLockPairs_proved : Rows.FnExactLockPairsSaid :=
  OpenClaim.holds_of_wide 5 Try.f5 rfl rfl rfl rfl rfl rfl rfl ⟨rfl, rfl, rfl, rfl, rfl⟩ rfl rfl rfl rfl rfl named Try.func5 facts_fnExactLockPairs
    (of_decide_eq_true (by kernel_rfl)) (by unfold Func.isWrapper; first | (rw [if_pos (by decide +kernel)]; kernel_rfl) | (rw [if_neg (by decide +kernel)]; exact ⟨rfl, rfl⟩))
    (fun os started H enc _ => lifted os started H enc)
end Go.Proofs.Ytihgcgccajikpaa
