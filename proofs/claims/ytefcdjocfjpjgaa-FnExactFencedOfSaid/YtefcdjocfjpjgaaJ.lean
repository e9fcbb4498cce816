/- The program's FencedOf returns what the reference's returns, for all arguments; no condition. -/

import Derived.Test.YtefcdjocfjpjgaaTX
import Derived.Test.YtefcdjocfjpjgaaN3
import Derived.Test.YtefcdjocfjpjgaaRows
import Derived.WalkKit
import Derived.ProofKit
import Derived.OpenShut
import Derived.ShutString
import Derived.ChangeOld
import Derived.Below
set_option linter.unusedVariables false
namespace Go.Proofs.Ytefcdjocfjpjgaa
open Go Go.T
open Go.ChangeShapes Go.WideShapes Go.ChangeAt Go.RowKit
open Go.ChangeMaps (open_string shut_string)

theorem own_knob : ownKnob Try.prog.godebug = none := by kernel_rfl
theorem laid_out : laidOutB Try.prog = true := by kernel_rfl
theorem and_mk_fnExactFencedOf {a b : Bool} (h : a = true) (k : b = true) : (a && b) = true := by rw [h, k]; rfl
theorem jf0_fnExactFencedOf : (Rows.fnExactFencedOfRow.wf (OpenSpec.ofChange Rows.fnExactFencedOfSpec) : Bool) = true := by kernel_rfl
theorem jf1_fnExactFencedOf : (laidOutB Try.prog : Bool) = true := by kernel_rfl
theorem jf2_fnExactFencedOf : (mapsRowed Try.prog : Bool) = true := by kernel_rfl
theorem jf3_fnExactFencedOf : (Try.f3.params.all (Try.prog.readableRec ·) : Bool) = true := by kernel_rfl
theorem jf4_fnExactFencedOf : (namedTie Try.prog Rows.fnExactFencedOfRow.named Rows.fnExactFencedOfSpec.vars : Bool) = true := by kernel_rfl
theorem jf5_fnExactFencedOf : ((Rows.fnExactFencedOfRow.stops == []) : Bool) = true := by kernel_rfl
theorem jf6_fnExactFencedOf : ((Try.prog.stops == []) : Bool) = true := by kernel_rfl
theorem jf7_fnExactFencedOf : ((Rows.fnExactFencedOfRow.knobs == []) : Bool) = true := by kernel_rfl
theorem jf8_fnExactFencedOf : ((Try.prog.stopKnobs == []) : Bool) = true := by kernel_rfl
theorem jf9_fnExactFencedOf : ((Rows.fnExactFencedOfRow.inPlace == Try.prog.inPlace 3) : Bool) = true := by kernel_rfl
theorem jf10_fnExactFencedOf : ((Rows.fnExactFencedOfRow.unfollowed == Try.prog.unfollowed 3) : Bool) = true := by kernel_rfl
theorem jf11_fnExactFencedOf : ((Rows.fnExactFencedOfRow.recurses == Try.prog.recurses 3) : Bool) = true := by kernel_rfl
theorem jf12_fnExactFencedOf : ((Rows.fnExactFencedOfRow.named == Try.prog.varsNamed 3) : Bool) = true := by kernel_rfl
theorem jf13_fnExactFencedOf : ((Rows.fnExactFencedOfRow.maps == (Try.f3.params.toList ++ Rows.fnExactFencedOfSpec.plain.varTypes Try.prog).any (Try.prog.mapsRec ·)) : Bool) = true := by kernel_rfl
theorem jf14_fnExactFencedOf : ((Rows.fnExactFencedOfRow.ifaces == (Try.f3.params.toList ++ Rows.fnExactFencedOfSpec.plain.varTypes Try.prog).any (Try.prog.ifacesRec ·)) : Bool) = true := by kernel_rfl
theorem jf15_fnExactFencedOf : ((Rows.fnExactFencedOfRow.mapsOut == Try.prog.mapsAmong Try.f3.resultTypes.toList) : Bool) = true := by kernel_rfl
theorem jf16_fnExactFencedOf : ((Rows.fnExactFencedOfRow.loops == (Try.f3.params.toList ++ Rows.fnExactFencedOfSpec.plain.varTypes Try.prog).any (Try.prog.loopsFrom ·)) : Bool) = true := by kernel_rfl
theorem jf17_fnExactFencedOf : ((Rows.fnExactFencedOfRow.wideKeys == (Try.f3.params.toList ++ Rows.fnExactFencedOfSpec.plain.varTypes Try.prog ++ Try.f3.resultTypes.toList).any (Try.prog.wideKeysFrom ·)) : Bool) = true := by kernel_rfl
theorem jf18_fnExactFencedOf : (Rows.fnExactFencedOfSpec.vars.all (Try.prog.varReadable ·) : Bool) = true := by kernel_rfl
theorem jf19_fnExactFencedOf : (Try.f3.resultTypes.all (fun t => Try.prog.readableRec t && decide (t < Try.prog.types.size)) : Bool) = true := by kernel_rfl
theorem jf20_fnExactFencedOf : ((Rows.fnExactFencedOfRow.ifacesOut == Try.f3.resultTypes.toList.any (Try.prog.ifacesRec ·)) : Bool) = true := by kernel_rfl
theorem jf21_fnExactFencedOf : ((Rows.fnExactFencedOfRow.loopsOut == Try.f3.resultTypes.toList.any (Try.prog.loopsFrom ·)) : Bool) = true := by kernel_rfl
theorem jf22_fnExactFencedOf : ((Rows.fnExactFencedOfRow.plainKeys == Try.prog.plainKeys) : Bool) = true := by kernel_rfl
theorem jf23_fnExactFencedOf : (Rows.fnExactFencedOfRow.shortTexts.isNone : Bool) = true := by kernel_rfl
theorem jf24_fnExactFencedOf : (Try.prog.stopsHeard : Bool) = true := by kernel_rfl
theorem jf25_fnExactFencedOf : (Try.prog.mayEnter : Bool) = true := by kernel_rfl
theorem jf26_fnExactFencedOf : ((Rows.fnExactFencedOfRow.lifted == Try.prog.liftsFinal) : Bool) = true := by kernel_rfl
theorem jf27_fnExactFencedOf : ((Try.prog.make == some Rows.fnExactFencedOfRow.make) : Bool) = true := by kernel_rfl
theorem jf28_fnExactFencedOf : ((Rows.fnExactFencedOfRow.kinds == (if Rows.fnExactFencedOfRow.domain.isEmpty then [] else Try.f3.params.toList.map fun t => match Try.prog.underlying t with | some (.int k) => some k | _ => none)) : Bool) = true := by kernel_rfl
theorem jf29_fnExactFencedOf : ((Rows.fnExactFencedOfRow.pinned == Rows.fnExactFencedOfRow.pinnedBy) : Bool) = true := by kernel_rfl
theorem jf30_fnExactFencedOf : ((Rows.fnExactFencedOfRow.veiled == (Try.f3.params.toList ++ Rows.fnExactFencedOfSpec.plain.varTypes Try.prog ++ Try.f3.resultTypes.toList).any (Try.prog.veiledRec ·)) : Bool) = true := by kernel_rfl
theorem jf31_fnExactFencedOf : (Rows.fnExactFencedOfRow.veiledFits Try.prog Try.f3.params.toList (Try.f3.params.toList ++ Rows.fnExactFencedOfSpec.plain.varTypes Try.prog ++ Try.f3.resultTypes.toList) : Bool) = true := by kernel_rfl
set_option maxRecDepth 100000 in
theorem facts_fnExactFencedOf : joinedFacts Try.prog 3 Try.f3 Rows.fnExactFencedOfSpec Rows.fnExactFencedOfRow = true := by unfold joinedFacts; exact (and_mk_fnExactFencedOf (and_mk_fnExactFencedOf (and_mk_fnExactFencedOf (and_mk_fnExactFencedOf (and_mk_fnExactFencedOf (and_mk_fnExactFencedOf (and_mk_fnExactFencedOf (and_mk_fnExactFencedOf (and_mk_fnExactFencedOf (and_mk_fnExactFencedOf (and_mk_fnExactFencedOf (and_mk_fnExactFencedOf (and_mk_fnExactFencedOf (and_mk_fnExactFencedOf (and_mk_fnExactFencedOf (and_mk_fnExactFencedOf (and_mk_fnExactFencedOf (and_mk_fnExactFencedOf (and_mk_fnExactFencedOf (and_mk_fnExactFencedOf (and_mk_fnExactFencedOf (and_mk_fnExactFencedOf (and_mk_fnExactFencedOf (and_mk_fnExactFencedOf (and_mk_fnExactFencedOf (and_mk_fnExactFencedOf (and_mk_fnExactFencedOf (and_mk_fnExactFencedOf (and_mk_fnExactFencedOf (and_mk_fnExactFencedOf (and_mk_fnExactFencedOf jf0_fnExactFencedOf jf1_fnExactFencedOf) jf2_fnExactFencedOf) jf3_fnExactFencedOf) jf4_fnExactFencedOf) jf5_fnExactFencedOf) jf6_fnExactFencedOf) jf7_fnExactFencedOf) jf8_fnExactFencedOf) jf9_fnExactFencedOf) jf10_fnExactFencedOf) jf11_fnExactFencedOf) jf12_fnExactFencedOf) jf13_fnExactFencedOf) jf14_fnExactFencedOf) jf15_fnExactFencedOf) jf16_fnExactFencedOf) jf17_fnExactFencedOf) jf18_fnExactFencedOf) jf19_fnExactFencedOf) jf20_fnExactFencedOf) jf21_fnExactFencedOf) jf22_fnExactFencedOf) jf23_fnExactFencedOf) jf24_fnExactFencedOf) jf25_fnExactFencedOf) jf26_fnExactFencedOf) jf27_fnExactFencedOf) jf28_fnExactFencedOf) jf29_fnExactFencedOf) jf30_fnExactFencedOf) jf31_fnExactFencedOf)
theorem op3 {H : Type} {enc : TypeId × Value → H} {W : World} : Opens enc Try.prog W 3 o3 (fun x => (Lit.int .i64 x).wf = true) := (opens_int (tiOf_und ty3)).map id (fun _ => rfl) (fun _ h => h)
theorem op69 {H : Type} {enc : TypeId × Value → H} {W : World} : Opens enc Try.prog W 69 o69 (fun x => x < 18446744073709551616) := (opens_float (tiOf_und ty69)).map id (fun _ => rfl) (fun _ h => h)
instance : Inhabited GAct := ⟨⟨0, 0, 0⟩⟩
theorem op102 {H : Type} {enc : TypeId × Value → H} {W : World} : Opens enc Try.prog W 102 o102 (fun x => wfGAct x) := by
  have h := opens_struct (enc := enc) (w := W) (tiOf_und ty102) (m := 3) (by kernel_rfl) (L := [(0, 3), (1, 3), (2, 69)]) rfl (opensL_cons (sz := 1) (by kernel_rfl) rfl op3 (opensL_cons (sz := 1) (by kernel_rfl) rfl op3 (opensL_cons (sz := 1) (by kernel_rfl) rfl op69 opensL_nil)))
  exact h.map (fun p => (⟨p.1, p.2.1, p.2.2.1⟩ : GAct)) (fun _ => rfl) (fun p h => ⟨h.1, h.2.1, h.2.2.1⟩)
theorem op66 {H : Type} {enc : TypeId × Value → H} {W : World} : Opens enc Try.prog W 66 r66 (fun x => x.length ≤ 9223372036854775807 ∧ ∀ y0 ∈ x, wfGAct y0) := (opens_slice (tiOf_und ty66) (sz := 3) (by kernel_rfl) (by decide) op102).map id (fun _ => rfl) (fun _ h => h)
theorem op22 {H : Type} {enc : TypeId × Value → H} {W : World} : Opens enc Try.prog W 22 r22 (fun x => x.length ≤ 9223372036854775807 ∧ ∀ y0 ∈ x, y0.length ≤ 9223372036854775807 ∧ ∀ y1 ∈ y0, wfGAct y1) := (opens_slice (tiOf_und ty22) (sz := 1) (by kernel_rfl) (by decide) op66).map id (fun _ => rfl) (fun _ h => h)
set_option maxRecDepth 100000 in
theorem lifted (os : Os) (started : os.Started) (H : Type) (enc : TypeId × Value → H) :
    ReturnsInHanded {} Try.checked os 3 .any (Rows.fnExactFencedOfSpec.pre6 enc Try.prog Try.f3 Rows.fnExactFencedOfRow.domain false) (Rows.fnExactFencedOfSpec.post enc Try.prog Try.f3 false true false false) := by
  refine returnsInHanded_of_change (C := Try.checked) own_knob started (by kernel_rfl) Try.func3
    (ChangeSpec.witness6 (enc := enc) (C := Try.checked) false ⟨#[], #[.slice none 0 0], []⟩ 8 (by kernel_rfl) (by kernel_rfl) (by kernel_rfl) (by kernel_rfl)) ?_
  intro W base args ds gs before hval0 hW hcnd _
  have hval : ∀ (j : Nat) t v, Try.f3.params[j]? = some t → args[j]? = some v → Value.okWide Try.prog W .any base t v := hval0
  have hW' := hW
  obtain ⟨p, q, hA0, hV, rfl, hfz, hnd⟩ := hW
  have hA : DataW.TrodAll enc Try.prog W 0 (fun _ => true) true Try.f3.params.toList args.toList ds p := hA0
  rw [Try.params3] at hA hval
  obtain ⟨v0, vs0, d0, ds0, p0, q0, hargs, rfl, rfl, h0, r0⟩ := trodAll_cons hA
  obtain ⟨rfl, rfl, rfl⟩ := trodAll_nil r0
  obtain rfl : args = #[v0] := by cases args; simp_all
  obtain ⟨rfl, rfl⟩ := trodVars_none hV
  have k0 := h0
  have lt0 : ∀ x ∈ p0, x.block < W.heap.size := by obtain ⟨m, hm⟩ := k0; exact DataW.trod_lt m _ _ _ hm
  obtain ⟨x0, g0, rep0⟩ := open_slc (f := fun (x : (List (List GAct))) => AV.ro 1 (x.map r66)) op22 h0 (okWide_slice (tiOf_und ty22) (hval 0 _ v0 rfl rfl))
  have hm := (laws_FnExactFencedOf_m (law_FencedOf x0 g0)).2 W (fun b => b < W.heap.size) [v0] (by simp only [repL]; exact ⟨_, [], [], [], rfl, rfl, rep0, rfl, rfl⟩) (fun _ h => h)
  clear hA0 hval0
  refine hm.mono fun e W' ⟨v, fp, he, bel, hr, _⟩ => ?_
  subst he
  obtain rfl : v = .bool true := by simp only [rep] at hr; exact hr.2
  exact ⟨_, rfl, _, _, _, [], _, [], hW', trodAll_mk1 (shut_bool (tiOf_und ty4) _), (trodAll_cons_mk (Below.trod laid_out (by kernel_rfl) (of_decide_eq_true (by kernel_rfl)) k0 bel lt0) trodAll_mk0), rfl, bel.frame _, fun h => by cases h⟩
theorem named : Try.prog.funcNamed Rows.fnExactFencedOfRow.func = some 3 := by kernel_rfl
theorem fnExactFencedOf_proved : Rows.FnExactFencedOfSaid :=
  OpenClaim.holds_of_wide 3 Try.f3 rfl rfl rfl rfl rfl rfl rfl ⟨rfl, rfl, rfl, rfl, rfl⟩ rfl rfl rfl rfl rfl named Try.func3 facts_fnExactFencedOf
    (of_decide_eq_true (by kernel_rfl)) (by unfold Func.isWrapper; first | (rw [if_pos (by decide +kernel)]; kernel_rfl) | (rw [if_neg (by decide +kernel)]; exact ⟨rfl, rfl⟩))
    (fun os started H enc _ => lifted os started H enc)
end Go.Proofs.Ytefcdjocfjpjgaa
