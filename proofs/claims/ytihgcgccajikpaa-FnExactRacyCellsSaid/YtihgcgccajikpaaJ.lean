/- The program's RacyCells returns what the reference's returns, for all arguments; no condition. -/

import Derived.Test.YtihgcgccajikpaaTX
import Derived.Test.YtihgcgccajikpaaRC
import Derived.Test.YtihgcgccajikpaaRows
import Derived.WalkKit
import Derived.ProofKit
import Derived.OpenShut
import Derived.ShutString
import Derived.ChangeOld
import Derived.Below
set_option linter.unusedVariables false
namespace Go.Proofs.Ytihgcgccajikpaa
open Go Go.T
open Go.ChangeShapes Go.WideShapes Go.ChangeAt Go.RowKit
open Go.ChangeMaps (open_string shut_string)

theorem own_knob : ownKnob Try.prog.godebug = none := by kernel_rfl
theorem laid_out : laidOutB Try.prog = true := by kernel_rfl
theorem and_mk_fnExactRacyCells {a b : Bool} (h : a = true) (k : b = true) : (a && b) = true := by rw [h, k]; rfl
theorem jf0_fnExactRacyCells : (Rows.fnExactRacyCellsRow.wf (OpenSpec.ofChange Rows.fnExactRacyCellsSpec) : Bool) = true := by kernel_rfl
theorem jf1_fnExactRacyCells : (laidOutB Try.prog : Bool) = true := by kernel_rfl
theorem jf2_fnExactRacyCells : (mapsRowed Try.prog : Bool) = true := by kernel_rfl
theorem jf3_fnExactRacyCells : (Try.f4.params.all (Try.prog.readableRec ·) : Bool) = true := by kernel_rfl
theorem jf4_fnExactRacyCells : (namedTie Try.prog Rows.fnExactRacyCellsRow.named Rows.fnExactRacyCellsSpec.vars : Bool) = true := by kernel_rfl
theorem jf5_fnExactRacyCells : ((Rows.fnExactRacyCellsRow.stops == []) : Bool) = true := by kernel_rfl
theorem jf6_fnExactRacyCells : ((Try.prog.stops == []) : Bool) = true := by kernel_rfl
theorem jf7_fnExactRacyCells : ((Rows.fnExactRacyCellsRow.knobs == []) : Bool) = true := by kernel_rfl
theorem jf8_fnExactRacyCells : ((Try.prog.stopKnobs == []) : Bool) = true := by kernel_rfl
theorem jf9_fnExactRacyCells : ((Rows.fnExactRacyCellsRow.inPlace == Try.prog.inPlace 4) : Bool) = true := by kernel_rfl
theorem jf10_fnExactRacyCells : ((Rows.fnExactRacyCellsRow.unfollowed == Try.prog.unfollowed 4) : Bool) = true := by kernel_rfl
theorem jf11_fnExactRacyCells : ((Rows.fnExactRacyCellsRow.recurses == Try.prog.recurses 4) : Bool) = true := by kernel_rfl
theorem jf12_fnExactRacyCells : ((Rows.fnExactRacyCellsRow.named == Try.prog.varsNamed 4) : Bool) = true := by kernel_rfl
theorem jf13_fnExactRacyCells : ((Rows.fnExactRacyCellsRow.maps == (Try.f4.params.toList ++ Rows.fnExactRacyCellsSpec.plain.varTypes Try.prog).any (Try.prog.mapsRec ·)) : Bool) = true := by kernel_rfl
theorem jf14_fnExactRacyCells : ((Rows.fnExactRacyCellsRow.ifaces == (Try.f4.params.toList ++ Rows.fnExactRacyCellsSpec.plain.varTypes Try.prog).any (Try.prog.ifacesRec ·)) : Bool) = true := by kernel_rfl
theorem jf15_fnExactRacyCells : ((Rows.fnExactRacyCellsRow.mapsOut == Try.prog.mapsAmong Try.f4.resultTypes.toList) : Bool) = true := by kernel_rfl
theorem jf16_fnExactRacyCells : ((Rows.fnExactRacyCellsRow.loops == (Try.f4.params.toList ++ Rows.fnExactRacyCellsSpec.plain.varTypes Try.prog).any (Try.prog.loopsFrom ·)) : Bool) = true := by kernel_rfl
theorem jf17_fnExactRacyCells : ((Rows.fnExactRacyCellsRow.wideKeys == (Try.f4.params.toList ++ Rows.fnExactRacyCellsSpec.plain.varTypes Try.prog ++ Try.f4.resultTypes.toList).any (Try.prog.wideKeysFrom ·)) : Bool) = true := by kernel_rfl
theorem jf18_fnExactRacyCells : (Rows.fnExactRacyCellsSpec.vars.all (Try.prog.varReadable ·) : Bool) = true := by kernel_rfl
theorem jf19_fnExactRacyCells : (Try.f4.resultTypes.all (fun t => Try.prog.readableRec t && decide (t < Try.prog.types.size)) : Bool) = true := by kernel_rfl
theorem jf20_fnExactRacyCells : ((Rows.fnExactRacyCellsRow.ifacesOut == Try.f4.resultTypes.toList.any (Try.prog.ifacesRec ·)) : Bool) = true := by kernel_rfl
theorem jf21_fnExactRacyCells : ((Rows.fnExactRacyCellsRow.loopsOut == Try.f4.resultTypes.toList.any (Try.prog.loopsFrom ·)) : Bool) = true := by kernel_rfl
theorem jf22_fnExactRacyCells : ((Rows.fnExactRacyCellsRow.plainKeys == Try.prog.plainKeys) : Bool) = true := by kernel_rfl
theorem jf23_fnExactRacyCells : (Rows.fnExactRacyCellsRow.shortTexts.isNone : Bool) = true := by kernel_rfl
theorem jf24_fnExactRacyCells : (Try.prog.stopsHeard : Bool) = true := by kernel_rfl
theorem jf25_fnExactRacyCells : (Try.prog.mayEnter : Bool) = true := by kernel_rfl
theorem jf26_fnExactRacyCells : ((Rows.fnExactRacyCellsRow.lifted == Try.prog.liftsFinal) : Bool) = true := by kernel_rfl
theorem jf27_fnExactRacyCells : ((Try.prog.make == some Rows.fnExactRacyCellsRow.make) : Bool) = true := by kernel_rfl
theorem jf28_fnExactRacyCells : ((Rows.fnExactRacyCellsRow.kinds == (if Rows.fnExactRacyCellsRow.domain.isEmpty then [] else Try.f4.params.toList.map fun t => match Try.prog.underlying t with | some (.int k) => some k | _ => none)) : Bool) = true := by kernel_rfl
theorem jf29_fnExactRacyCells : ((Rows.fnExactRacyCellsRow.pinned == Rows.fnExactRacyCellsRow.pinnedBy) : Bool) = true := by kernel_rfl
theorem jf30_fnExactRacyCells : ((Rows.fnExactRacyCellsRow.veiled == (Try.f4.params.toList ++ Rows.fnExactRacyCellsSpec.plain.varTypes Try.prog ++ Try.f4.resultTypes.toList).any (Try.prog.veiledRec ·)) : Bool) = true := by kernel_rfl
theorem jf31_fnExactRacyCells : (Rows.fnExactRacyCellsRow.veiledFits Try.prog Try.f4.params.toList (Try.f4.params.toList ++ Rows.fnExactRacyCellsSpec.plain.varTypes Try.prog ++ Try.f4.resultTypes.toList) : Bool) = true := by kernel_rfl
set_option maxRecDepth 100000 in
theorem facts_fnExactRacyCells : joinedFacts Try.prog 4 Try.f4 Rows.fnExactRacyCellsSpec Rows.fnExactRacyCellsRow = true := by unfold joinedFacts; exact (and_mk_fnExactRacyCells (and_mk_fnExactRacyCells (and_mk_fnExactRacyCells (and_mk_fnExactRacyCells (and_mk_fnExactRacyCells (and_mk_fnExactRacyCells (and_mk_fnExactRacyCells (and_mk_fnExactRacyCells (and_mk_fnExactRacyCells (and_mk_fnExactRacyCells (and_mk_fnExactRacyCells (and_mk_fnExactRacyCells (and_mk_fnExactRacyCells (and_mk_fnExactRacyCells (and_mk_fnExactRacyCells (and_mk_fnExactRacyCells (and_mk_fnExactRacyCells (and_mk_fnExactRacyCells (and_mk_fnExactRacyCells (and_mk_fnExactRacyCells (and_mk_fnExactRacyCells (and_mk_fnExactRacyCells (and_mk_fnExactRacyCells (and_mk_fnExactRacyCells (and_mk_fnExactRacyCells (and_mk_fnExactRacyCells (and_mk_fnExactRacyCells (and_mk_fnExactRacyCells (and_mk_fnExactRacyCells (and_mk_fnExactRacyCells (and_mk_fnExactRacyCells jf0_fnExactRacyCells jf1_fnExactRacyCells) jf2_fnExactRacyCells) jf3_fnExactRacyCells) jf4_fnExactRacyCells) jf5_fnExactRacyCells) jf6_fnExactRacyCells) jf7_fnExactRacyCells) jf8_fnExactRacyCells) jf9_fnExactRacyCells) jf10_fnExactRacyCells) jf11_fnExactRacyCells) jf12_fnExactRacyCells) jf13_fnExactRacyCells) jf14_fnExactRacyCells) jf15_fnExactRacyCells) jf16_fnExactRacyCells) jf17_fnExactRacyCells) jf18_fnExactRacyCells) jf19_fnExactRacyCells) jf20_fnExactRacyCells) jf21_fnExactRacyCells) jf22_fnExactRacyCells) jf23_fnExactRacyCells) jf24_fnExactRacyCells) jf25_fnExactRacyCells) jf26_fnExactRacyCells) jf27_fnExactRacyCells) jf28_fnExactRacyCells) jf29_fnExactRacyCells) jf30_fnExactRacyCells) jf31_fnExactRacyCells)
theorem op3 {H : Type} {enc : TypeId × Value → H} {W : World} : Opens enc Try.prog W 3 o3 (fun x => (Lit.int .i64 x).wf = true) := (opens_int (tiOf_und ty3)).map id (fun _ => rfl) (fun _ h => h)
instance : Inhabited GEvent := ⟨⟨0, 0, 0, 0, 0⟩⟩
theorem op66 {H : Type} {enc : TypeId × Value → H} {W : World} : Opens enc Try.prog W 66 o66 (fun x => wfGEvent x) := by
  have h := opens_struct (enc := enc) (w := W) (tiOf_und ty66) (m := 5) (by kernel_rfl) (L := [(0, 3), (1, 3), (2, 3), (3, 3), (4, 3)]) rfl (opensL_cons (sz := 1) (by kernel_rfl) rfl op3 (opensL_cons (sz := 1) (by kernel_rfl) rfl op3 (opensL_cons (sz := 1) (by kernel_rfl) rfl op3 (opensL_cons (sz := 1) (by kernel_rfl) rfl op3 (opensL_cons (sz := 1) (by kernel_rfl) rfl op3 opensL_nil)))))
  exact h.map (fun p => (⟨p.1, p.2.1, p.2.2.1, p.2.2.2.1, p.2.2.2.2.1⟩ : GEvent)) (fun _ => rfl) (fun p h => ⟨h.1, h.2.1, h.2.2.1, h.2.2.2.1, h.2.2.2.2.1⟩)
theorem op31 {H : Type} {enc : TypeId × Value → H} {W : World} : Opens enc Try.prog W 31 r31 (fun x => x.length ≤ 9223372036854775807 ∧ ∀ y0 ∈ x, wfGEvent y0) := (opens_slice (tiOf_und ty31) (sz := 5) (by kernel_rfl) (by decide) op66).map id (fun _ => rfl) (fun _ h => h)
set_option maxRecDepth 100000 in
theorem lifted (os : Os) (started : os.Started) (H : Type) (enc : TypeId × Value → H) :
    ReturnsInHanded {} Try.checked os 4 .any (Rows.fnExactRacyCellsSpec.pre6 enc Try.prog Try.f4 Rows.fnExactRacyCellsRow.domain false) (Rows.fnExactRacyCellsSpec.post enc Try.prog Try.f4 false true false false) := by
  refine returnsInHanded_of_change (C := Try.checked) own_knob started (by kernel_rfl) Try.func4
    (ChangeSpec.witness6 (enc := enc) (C := Try.checked) false ⟨#[], #[.slice none 0 0], []⟩ 8 (by kernel_rfl) (by kernel_rfl) (by kernel_rfl) (by kernel_rfl)) ?_
  intro W base args ds gs before hval0 hW hcnd _
  have hval : ∀ (j : Nat) t v, Try.f4.params[j]? = some t → args[j]? = some v → Value.okWide Try.prog W .any base t v := hval0
  have hW' := hW
  obtain ⟨p, q, hA0, hV, rfl, hfz, hnd⟩ := hW
  have hA : DataW.TrodAll enc Try.prog W 0 (fun _ => true) true Try.f4.params.toList args.toList ds p := hA0
  rw [Try.params4] at hA hval
  obtain ⟨v0, vs0, d0, ds0, p0, q0, hargs, rfl, rfl, h0, r0⟩ := trodAll_cons hA
  obtain ⟨rfl, rfl, rfl⟩ := trodAll_nil r0
  obtain rfl : args = #[v0] := by cases args; simp_all
  obtain ⟨rfl, rfl⟩ := trodVars_none hV
  have k0 := h0
  have lt0 : ∀ x ∈ p0, x.block < W.heap.size := by obtain ⟨m, hm⟩ := k0; exact DataW.trod_lt m _ _ _ hm
  obtain ⟨x0, g0, rep0⟩ := open_slc (f := fun (x : (List GEvent)) => AV.ro 5 (x.map o66)) op31 h0 (okWide_slice (tiOf_und ty31) (hval 0 _ v0 rfl rfl))
  have hm := (laws_FnExactRacyCells_m (law_RacyCells x0 g0.1)).2 W (fun b => b < W.heap.size) [v0] (by simp only [repL]; exact ⟨_, [], [], [], rfl, rfl, rep0, rfl, rfl⟩) (fun _ h => h)
  clear hA0 hval0
  refine hm.mono fun e W' ⟨v, fp, he, bel, hr, _⟩ => ?_
  subst he
  obtain rfl : v = .bool true := by simp only [rep] at hr; exact hr.2
  exact ⟨_, rfl, _, _, _, [], _, [], hW', trodAll_mk1 (shut_bool (tiOf_und ty4) _), (trodAll_cons_mk (Below.trod laid_out (by kernel_rfl) (of_decide_eq_true (by kernel_rfl)) k0 bel lt0) trodAll_mk0), rfl, bel.frame _, fun h => by cases h⟩
theorem named : Try.prog.funcNamed Rows.fnExactRacyCellsRow.func = some 4 := by kernel_rfl
theorem fnExactRacyCells_proved : Rows.FnExactRacyCellsSaid :=
  OpenClaim.holds_of_wide 4 Try.f4 rfl rfl rfl rfl rfl rfl rfl ⟨rfl, rfl, rfl, rfl, rfl⟩ rfl rfl rfl rfl rfl named Try.func4 facts_fnExactRacyCells
    (of_decide_eq_true (by kernel_rfl)) (by unfold Func.isWrapper; first | (rw [if_pos (by decide +kernel)]; kernel_rfl) | (rw [if_neg (by decide +kernel)]; exact ⟨rfl, rfl⟩))
    (fun os started H enc _ => lifted os started H enc)
end Go.Proofs.Ytihgcgccajikpaa
