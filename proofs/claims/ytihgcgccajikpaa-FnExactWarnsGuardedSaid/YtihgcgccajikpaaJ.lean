/- The program's WarnsGuarded returns what the reference's returns, for all arguments; no condition. -/

import Derived.Test.YtihgcgccajikpaaTW
import Derived.Test.YtihgcgccajikpaaWGb
import Derived.Test.YtihgcgccajikpaaRows
import Derived.WalkKit
import Derived.ProofKit
import Derived.OpenShut
import Derived.ShutString
import Derived.ChangeOld
import Derived.Below
set_option linter.unusedVariables false
namespace Go.Proofs.Ytihgcgccajikpaa
open Go Go.T
open Go.ChangeShapes Go.WideShapes Go.ChangeAt Go.RowKit
open Go.ChangeMaps (open_string shut_string)

theorem own_knob : ownKnob Try.prog.godebug = none := by kernel_rfl
theorem laid_out : laidOutB Try.prog = true := by kernel_rfl
theorem and_mk_fnExactWarnsGuarded {a b : Bool} (h : a = true) (k : b = true) : (a && b) = true := by rw [h, k]; rfl
theorem jf0_fnExactWarnsGuarded : (Rows.fnExactWarnsGuardedRow.wf (OpenSpec.ofChange Rows.fnExactWarnsGuardedSpec) : Bool) = true := by kernel_rfl
theorem jf1_fnExactWarnsGuarded : (laidOutB Try.prog : Bool) = true := by kernel_rfl
theorem jf2_fnExactWarnsGuarded : (mapsRowed Try.prog : Bool) = true := by kernel_rfl
theorem jf3_fnExactWarnsGuarded : (Try.f8.params.all (Try.prog.readableRec ·) : Bool) = true := by kernel_rfl
theorem jf4_fnExactWarnsGuarded : (namedTie Try.prog Rows.fnExactWarnsGuardedRow.named Rows.fnExactWarnsGuardedSpec.vars : Bool) = true := by kernel_rfl
theorem jf5_fnExactWarnsGuarded : ((Rows.fnExactWarnsGuardedRow.stops == []) : Bool) = true := by kernel_rfl
theorem jf6_fnExactWarnsGuarded : ((Try.prog.stops == []) : Bool) = true := by kernel_rfl
theorem jf7_fnExactWarnsGuarded : ((Rows.fnExactWarnsGuardedRow.knobs == []) : Bool) = true := by kernel_rfl
theorem jf8_fnExactWarnsGuarded : ((Try.prog.stopKnobs == []) : Bool) = true := by kernel_rfl
theorem jf9_fnExactWarnsGuarded : ((Rows.fnExactWarnsGuardedRow.inPlace == Try.prog.inPlace 8) : Bool) = true := by kernel_rfl
theorem jf10_fnExactWarnsGuarded : ((Rows.fnExactWarnsGuardedRow.unfollowed == Try.prog.unfollowed 8) : Bool) = true := by kernel_rfl
theorem jf11_fnExactWarnsGuarded : ((Rows.fnExactWarnsGuardedRow.recurses == Try.prog.recurses 8) : Bool) = true := by kernel_rfl
theorem jf12_fnExactWarnsGuarded : ((Rows.fnExactWarnsGuardedRow.named == Try.prog.varsNamed 8) : Bool) = true := by kernel_rfl
theorem jf13_fnExactWarnsGuarded : ((Rows.fnExactWarnsGuardedRow.maps == (Try.f8.params.toList ++ Rows.fnExactWarnsGuardedSpec.plain.varTypes Try.prog).any (Try.prog.mapsRec ·)) : Bool) = true := by kernel_rfl
theorem jf14_fnExactWarnsGuarded : ((Rows.fnExactWarnsGuardedRow.ifaces == (Try.f8.params.toList ++ Rows.fnExactWarnsGuardedSpec.plain.varTypes Try.prog).any (Try.prog.ifacesRec ·)) : Bool) = true := by kernel_rfl
theorem jf15_fnExactWarnsGuarded : ((Rows.fnExactWarnsGuardedRow.mapsOut == Try.prog.mapsAmong Try.f8.resultTypes.toList) : Bool) = true := by kernel_rfl
theorem jf16_fnExactWarnsGuarded : ((Rows.fnExactWarnsGuardedRow.loops == (Try.f8.params.toList ++ Rows.fnExactWarnsGuardedSpec.plain.varTypes Try.prog).any (Try.prog.loopsFrom ·)) : Bool) = true := by kernel_rfl
theorem jf17_fnExactWarnsGuarded : ((Rows.fnExactWarnsGuardedRow.wideKeys == (Try.f8.params.toList ++ Rows.fnExactWarnsGuardedSpec.plain.varTypes Try.prog ++ Try.f8.resultTypes.toList).any (Try.prog.wideKeysFrom ·)) : Bool) = true := by kernel_rfl
theorem jf18_fnExactWarnsGuarded : (Rows.fnExactWarnsGuardedSpec.vars.all (Try.prog.varReadable ·) : Bool) = true := by kernel_rfl
theorem jf19_fnExactWarnsGuarded : (Try.f8.resultTypes.all (fun t => Try.prog.readableRec t && decide (t < Try.prog.types.size)) : Bool) = true := by kernel_rfl
theorem jf20_fnExactWarnsGuarded : ((Rows.fnExactWarnsGuardedRow.ifacesOut == Try.f8.resultTypes.toList.any (Try.prog.ifacesRec ·)) : Bool) = true := by kernel_rfl
theorem jf21_fnExactWarnsGuarded : ((Rows.fnExactWarnsGuardedRow.loopsOut == Try.f8.resultTypes.toList.any (Try.prog.loopsFrom ·)) : Bool) = true := by kernel_rfl
theorem jf22_fnExactWarnsGuarded : ((Rows.fnExactWarnsGuardedRow.plainKeys == Try.prog.plainKeys) : Bool) = true := by kernel_rfl
theorem jf23_fnExactWarnsGuarded : (Rows.fnExactWarnsGuardedRow.shortTexts.isNone : Bool) = true := by kernel_rfl
theorem jf24_fnExactWarnsGuarded : (Try.prog.stopsHeard : Bool) = true := by kernel_rfl
theorem jf25_fnExactWarnsGuarded : (Try.prog.mayEnter : Bool) = true := by kernel_rfl
theorem jf26_fnExactWarnsGuarded : ((Rows.fnExactWarnsGuardedRow.lifted == Try.prog.liftsFinal) : Bool) = true := by kernel_rfl
theorem jf27_fnExactWarnsGuarded : ((Try.prog.make == some Rows.fnExactWarnsGuardedRow.make) : Bool) = true := by kernel_rfl
theorem jf28_fnExactWarnsGuarded : ((Rows.fnExactWarnsGuardedRow.kinds == (if Rows.fnExactWarnsGuardedRow.domain.isEmpty then [] else Try.f8.params.toList.map fun t => match Try.prog.underlying t with | some (.int k) => some k | _ => none)) : Bool) = true := by kernel_rfl
theorem jf29_fnExactWarnsGuarded : ((Rows.fnExactWarnsGuardedRow.pinned == Rows.fnExactWarnsGuardedRow.pinnedBy) : Bool) = true := by kernel_rfl
theorem jf30_fnExactWarnsGuarded : ((Rows.fnExactWarnsGuardedRow.veiled == (Try.f8.params.toList ++ Rows.fnExactWarnsGuardedSpec.plain.varTypes Try.prog ++ Try.f8.resultTypes.toList).any (Try.prog.veiledRec ·)) : Bool) = true := by kernel_rfl
theorem jf31_fnExactWarnsGuarded : (Rows.fnExactWarnsGuardedRow.veiledFits Try.prog Try.f8.params.toList (Try.f8.params.toList ++ Rows.fnExactWarnsGuardedSpec.plain.varTypes Try.prog ++ Try.f8.resultTypes.toList) : Bool) = true := by kernel_rfl
set_option maxRecDepth 100000 in
theorem facts_fnExactWarnsGuarded : joinedFacts Try.prog 8 Try.f8 Rows.fnExactWarnsGuardedSpec Rows.fnExactWarnsGuardedRow = true := by unfold joinedFacts; exact (and_mk_fnExactWarnsGuarded (and_mk_fnExactWarnsGuarded (and_mk_fnExactWarnsGuarded (and_mk_fnExactWarnsGuarded (and_mk_fnExactWarnsGuarded (and_mk_fnExactWarnsGuarded (and_mk_fnExactWarnsGuarded (and_mk_fnExactWarnsGuarded (and_mk_fnExactWarnsGuarded (and_mk_fnExactWarnsGuarded (and_mk_fnExactWarnsGuarded (and_mk_fnExactWarnsGuarded (and_mk_fnExactWarnsGuarded (and_mk_fnExactWarnsGuarded (and_mk_fnExactWarnsGuarded (and_mk_fnExactWarnsGuarded (and_mk_fnExactWarnsGuarded (and_mk_fnExactWarnsGuarded (and_mk_fnExactWarnsGuarded (and_mk_fnExactWarnsGuarded (and_mk_fnExactWarnsGuarded (and_mk_fnExactWarnsGuarded (and_mk_fnExactWarnsGuarded (and_mk_fnExactWarnsGuarded (and_mk_fnExactWarnsGuarded (and_mk_fnExactWarnsGuarded (and_mk_fnExactWarnsGuarded (and_mk_fnExactWarnsGuarded (and_mk_fnExactWarnsGuarded (and_mk_fnExactWarnsGuarded (and_mk_fnExactWarnsGuarded jf0_fnExactWarnsGuarded jf1_fnExactWarnsGuarded) jf2_fnExactWarnsGuarded) jf3_fnExactWarnsGuarded) jf4_fnExactWarnsGuarded) jf5_fnExactWarnsGuarded) jf6_fnExactWarnsGuarded) jf7_fnExactWarnsGuarded) jf8_fnExactWarnsGuarded) jf9_fnExactWarnsGuarded) jf10_fnExactWarnsGuarded) jf11_fnExactWarnsGuarded) jf12_fnExactWarnsGuarded) jf13_fnExactWarnsGuarded) jf14_fnExactWarnsGuarded) jf15_fnExactWarnsGuarded) jf16_fnExactWarnsGuarded) jf17_fnExactWarnsGuarded) jf18_fnExactWarnsGuarded) jf19_fnExactWarnsGuarded) jf20_fnExactWarnsGuarded) jf21_fnExactWarnsGuarded) jf22_fnExactWarnsGuarded) jf23_fnExactWarnsGuarded) jf24_fnExactWarnsGuarded) jf25_fnExactWarnsGuarded) jf26_fnExactWarnsGuarded) jf27_fnExactWarnsGuarded) jf28_fnExactWarnsGuarded) jf29_fnExactWarnsGuarded) jf30_fnExactWarnsGuarded) jf31_fnExactWarnsGuarded)
theorem op3 {H : Type} {enc : TypeId × Value → H} {W : World} : Opens enc Try.prog W 3 o3 (fun x => (Lit.int .i64 x).wf = true) := (opens_int (tiOf_und ty3)).map id (fun _ => rfl) (fun _ h => h)
instance : Inhabited GEvent := ⟨⟨0, 0, 0, 0, 0⟩⟩
theorem op66 {H : Type} {enc : TypeId × Value → H} {W : World} : Opens enc Try.prog W 66 o66 (fun x => wfGEvent x) := by
  have h := opens_struct (enc := enc) (w := W) (tiOf_und ty66) (m := 5) (by kernel_rfl) (L := [(0, 3), (1, 3), (2, 3), (3, 3), (4, 3)]) rfl (opensL_cons (sz := 1) (by kernel_rfl) rfl op3 (opensL_cons (sz := 1) (by kernel_rfl) rfl op3 (opensL_cons (sz := 1) (by kernel_rfl) rfl op3 (opensL_cons (sz := 1) (by kernel_rfl) rfl op3 (opensL_cons (sz := 1) (by kernel_rfl) rfl op3 opensL_nil)))))
  exact h.map (fun p => (⟨p.1, p.2.1, p.2.2.1, p.2.2.2.1, p.2.2.2.2.1⟩ : GEvent)) (fun _ => rfl) (fun p h => ⟨h.1, h.2.1, h.2.2.1, h.2.2.2.1, h.2.2.2.2.1⟩)
theorem op31 {H : Type} {enc : TypeId × Value → H} {W : World} : Opens enc Try.prog W 31 r31 (fun x => x.length ≤ 9223372036854775807 ∧ ∀ y0 ∈ x, wfGEvent y0) := (opens_slice (tiOf_und ty31) (sz := 5) (by kernel_rfl) (by decide) op66).map id (fun _ => rfl) (fun _ h => h)
set_option maxRecDepth 100000 in
theorem lifted (os : Os) (started : os.Started) (H : Type) (enc : TypeId × Value → H) :
    ReturnsInHanded {} Try.checked os 8 .any (Rows.fnExactWarnsGuardedSpec.pre6 enc Try.prog Try.f8 Rows.fnExactWarnsGuardedRow.domain false) (Rows.fnExactWarnsGuardedSpec.post enc Try.prog Try.f8 false true false false) := by
  refine returnsInHanded_of_change (C := Try.checked) own_knob started (by kernel_rfl) Try.func8
    (ChangeSpec.witness6 (enc := enc) (C := Try.checked) false ⟨#[], #[.slice none 0 0], []⟩ 8 (by kernel_rfl) (by kernel_rfl) (by kernel_rfl) (by kernel_rfl)) ?_
  intro W base args ds gs before hval0 hW hcnd _
  have hval : ∀ (j : Nat) t v, Try.f8.params[j]? = some t → args[j]? = some v → Value.okWide Try.prog W .any base t v := hval0
  have hW' := hW
  obtain ⟨p, q, hA0, hV, rfl, hfz, hnd⟩ := hW
  have hA : DataW.TrodAll enc Try.prog W 0 (fun _ => true) true Try.f8.params.toList args.toList ds p := hA0
  rw [Try.params8] at hA hval
  obtain ⟨v0, vs0, d0, ds0, p0, q0, hargs, rfl, rfl, h0, r0⟩ := trodAll_cons hA
  obtain ⟨rfl, rfl, rfl⟩ := trodAll_nil r0
  obtain rfl : args = #[v0] := by cases args; simp_all
  obtain ⟨rfl, rfl⟩ := trodVars_none hV
  have k0 := h0
  have lt0 : ∀ x ∈ p0, x.block < W.heap.size := by obtain ⟨m, hm⟩ := k0; exact DataW.trod_lt m _ _ _ hm
  obtain ⟨x0, g0, rep0⟩ := open_slc (f := fun (x : (List GEvent)) => AV.ro 5 (x.map o66)) op31 h0 (okWide_slice (tiOf_und ty31) (hval 0 _ v0 rfl rfl))
  have hm := (laws_FnExactWarnsGuarded_m (law_WarnsGuarded x0 g0.1)).2 W (fun b => b < W.heap.size) [v0] (by simp only [repL]; exact ⟨_, [], [], [], rfl, rfl, rep0, rfl, rfl⟩) (fun _ h => h)
  clear hA0 hval0
  refine hm.mono fun e W' ⟨v, fp, he, bel, _, hr, _⟩ => ?_
  subst he
  obtain rfl : v = .bool true := by simp only [rep] at hr; exact hr.2
  exact ⟨_, rfl, _, _, _, [], _, [], hW', trodAll_mk1 (shut_bool (tiOf_und ty4) _), (trodAll_cons_mk (Below.trod laid_out (by kernel_rfl) (of_decide_eq_true (by kernel_rfl)) k0 bel lt0) trodAll_mk0), rfl, bel.frame _, fun h => by cases h⟩
theorem named : Try.prog.funcNamed Rows.fnExactWarnsGuardedRow.func = some 8 := by kernel_rfl
theorem fnExactWarnsGuarded_proved : Rows.FnExactWarnsGuardedSaid :=
  OpenClaim.holds_of_wide 8 Try.f8 rfl rfl rfl rfl rfl rfl rfl ⟨rfl, rfl, rfl, rfl, rfl⟩ rfl rfl rfl rfl rfl named Try.func8 facts_fnExactWarnsGuarded
    (of_decide_eq_true (by kernel_rfl)) (by unfold Func.isWrapper; first | (rw [if_pos (by decide +kernel)]; kernel_rfl) | (rw [if_neg (by decide +kernel)]; exact ⟨rfl, rfl⟩))
    (fun os started H enc _ => lifted os started H enc)
end Go.Proofs.Ytihgcgccajikpaa
