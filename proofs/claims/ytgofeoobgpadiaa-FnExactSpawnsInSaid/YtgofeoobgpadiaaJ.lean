/- The program's SpawnsIn returns what the reference's returns, for all arguments; no condition. -/

import Derived.Test.YtgofeoobgpadiaaTX
import Derived.Test.YtgofeoobgpadiaaSN
import Derived.Test.YtgofeoobgpadiaaRows
import Derived.WalkKit
import Derived.ProofKit
import Derived.OpenShut
import Derived.ShutString
import Derived.ChangeOld
import Derived.Below
set_option linter.unusedVariables false
namespace Go.Proofs.Ytgofeoobgpadiaa
open Go Go.T
open Go.ChangeShapes Go.WideShapes Go.ChangeAt Go.RowKit
open Go.ChangeMaps (open_string shut_string)

theorem own_knob : ownKnob Try.prog.godebug = none := by kernel_rfl
theorem laid_out : laidOutB Try.prog = true := by kernel_rfl
theorem and_mk_fnExactSpawnsIn {a b : Bool} (h : a = true) (k : b = true) : (a && b) = true := by rw [h, k]; rfl
theorem jf0_fnExactSpawnsIn : (Rows.fnExactSpawnsInRow.wf (OpenSpec.ofChange Rows.fnExactSpawnsInSpec) : Bool) = true := by kernel_rfl
theorem jf1_fnExactSpawnsIn : (laidOutB Try.prog : Bool) = true := by kernel_rfl
theorem jf2_fnExactSpawnsIn : (mapsRowed Try.prog : Bool) = true := by kernel_rfl
theorem jf3_fnExactSpawnsIn : (Try.f6.params.all (Try.prog.readableRec ·) : Bool) = true := by kernel_rfl
theorem jf4_fnExactSpawnsIn : (namedTie Try.prog Rows.fnExactSpawnsInRow.named Rows.fnExactSpawnsInSpec.vars : Bool) = true := by kernel_rfl
theorem jf5_fnExactSpawnsIn : ((Rows.fnExactSpawnsInRow.stops == []) : Bool) = true := by kernel_rfl
theorem jf6_fnExactSpawnsIn : ((Try.prog.stops == []) : Bool) = true := by kernel_rfl
theorem jf7_fnExactSpawnsIn : ((Rows.fnExactSpawnsInRow.knobs == []) : Bool) = true := by kernel_rfl
theorem jf8_fnExactSpawnsIn : ((Try.prog.stopKnobs == []) : Bool) = true := by kernel_rfl
theorem jf9_fnExactSpawnsIn : ((Rows.fnExactSpawnsInRow.inPlace == Try.prog.inPlace 6) : Bool) = true := by kernel_rfl
theorem jf10_fnExactSpawnsIn : ((Rows.fnExactSpawnsInRow.unfollowed == Try.prog.unfollowed 6) : Bool) = true := by kernel_rfl
theorem jf11_fnExactSpawnsIn : ((Rows.fnExactSpawnsInRow.recurses == Try.prog.recurses 6) : Bool) = true := by kernel_rfl
theorem jf12_fnExactSpawnsIn : ((Rows.fnExactSpawnsInRow.named == Try.prog.varsNamed 6) : Bool) = true := by kernel_rfl
theorem jf13_fnExactSpawnsIn : ((Rows.fnExactSpawnsInRow.maps == (Try.f6.params.toList ++ Rows.fnExactSpawnsInSpec.plain.varTypes Try.prog).any (Try.prog.mapsRec ·)) : Bool) = true := by kernel_rfl
theorem jf14_fnExactSpawnsIn : ((Rows.fnExactSpawnsInRow.ifaces == (Try.f6.params.toList ++ Rows.fnExactSpawnsInSpec.plain.varTypes Try.prog).any (Try.prog.ifacesRec ·)) : Bool) = true := by kernel_rfl
theorem jf15_fnExactSpawnsIn : ((Rows.fnExactSpawnsInRow.mapsOut == Try.prog.mapsAmong Try.f6.resultTypes.toList) : Bool) = true := by kernel_rfl
theorem jf16_fnExactSpawnsIn : ((Rows.fnExactSpawnsInRow.loops == (Try.f6.params.toList ++ Rows.fnExactSpawnsInSpec.plain.varTypes Try.prog).any (Try.prog.loopsFrom ·)) : Bool) = true := by kernel_rfl
theorem jf17_fnExactSpawnsIn : ((Rows.fnExactSpawnsInRow.wideKeys == (Try.f6.params.toList ++ Rows.fnExactSpawnsInSpec.plain.varTypes Try.prog ++ Try.f6.resultTypes.toList).any (Try.prog.wideKeysFrom ·)) : Bool) = true := by kernel_rfl
theorem jf18_fnExactSpawnsIn : (Rows.fnExactSpawnsInSpec.vars.all (Try.prog.varReadable ·) : Bool) = true := by kernel_rfl
theorem jf19_fnExactSpawnsIn : (Try.f6.resultTypes.all (fun t => Try.prog.readableRec t && decide (t < Try.prog.types.size)) : Bool) = true := by kernel_rfl
theorem jf20_fnExactSpawnsIn : ((Rows.fnExactSpawnsInRow.ifacesOut == Try.f6.resultTypes.toList.any (Try.prog.ifacesRec ·)) : Bool) = true := by kernel_rfl
theorem jf21_fnExactSpawnsIn : ((Rows.fnExactSpawnsInRow.loopsOut == Try.f6.resultTypes.toList.any (Try.prog.loopsFrom ·)) : Bool) = true := by kernel_rfl
theorem jf22_fnExactSpawnsIn : ((Rows.fnExactSpawnsInRow.plainKeys == Try.prog.plainKeys) : Bool) = true := by kernel_rfl
theorem jf23_fnExactSpawnsIn : (Rows.fnExactSpawnsInRow.shortTexts.isNone : Bool) = true := by kernel_rfl
theorem jf24_fnExactSpawnsIn : (Try.prog.stopsHeard : Bool) = true := by kernel_rfl
theorem jf25_fnExactSpawnsIn : (Try.prog.mayEnter : Bool) = true := by kernel_rfl
theorem jf26_fnExactSpawnsIn : ((Rows.fnExactSpawnsInRow.lifted == Try.prog.liftsFinal) : Bool) = true := by kernel_rfl
theorem jf27_fnExactSpawnsIn : ((Try.prog.make == some Rows.fnExactSpawnsInRow.make) : Bool) = true := by kernel_rfl
theorem jf28_fnExactSpawnsIn : ((Rows.fnExactSpawnsInRow.kinds == (if Rows.fnExactSpawnsInRow.domain.isEmpty then [] else Try.f6.params.toList.map fun t => match Try.prog.underlying t with | some (.int k) => some k | _ => none)) : Bool) = true := by kernel_rfl
theorem jf29_fnExactSpawnsIn : ((Rows.fnExactSpawnsInRow.pinned == Rows.fnExactSpawnsInRow.pinnedBy) : Bool) = true := by kernel_rfl
theorem jf30_fnExactSpawnsIn : ((Rows.fnExactSpawnsInRow.veiled == (Try.f6.params.toList ++ Rows.fnExactSpawnsInSpec.plain.varTypes Try.prog ++ Try.f6.resultTypes.toList).any (Try.prog.veiledRec ·)) : Bool) = true := by kernel_rfl
theorem jf31_fnExactSpawnsIn : (Rows.fnExactSpawnsInRow.veiledFits Try.prog Try.f6.params.toList (Try.f6.params.toList ++ Rows.fnExactSpawnsInSpec.plain.varTypes Try.prog ++ Try.f6.resultTypes.toList) : Bool) = true := by kernel_rfl
set_option maxRecDepth 100000 in
theorem facts_fnExactSpawnsIn : joinedFacts Try.prog 6 Try.f6 Rows.fnExactSpawnsInSpec Rows.fnExactSpawnsInRow = true := by unfold joinedFacts; exact (and_mk_fnExactSpawnsIn (and_mk_fnExactSpawnsIn (and_mk_fnExactSpawnsIn (and_mk_fnExactSpawnsIn (and_mk_fnExactSpawnsIn (and_mk_fnExactSpawnsIn (and_mk_fnExactSpawnsIn (and_mk_fnExactSpawnsIn (and_mk_fnExactSpawnsIn (and_mk_fnExactSpawnsIn (and_mk_fnExactSpawnsIn (and_mk_fnExactSpawnsIn (and_mk_fnExactSpawnsIn (and_mk_fnExactSpawnsIn (and_mk_fnExactSpawnsIn (and_mk_fnExactSpawnsIn (and_mk_fnExactSpawnsIn (and_mk_fnExactSpawnsIn (and_mk_fnExactSpawnsIn (and_mk_fnExactSpawnsIn (and_mk_fnExactSpawnsIn (and_mk_fnExactSpawnsIn (and_mk_fnExactSpawnsIn (and_mk_fnExactSpawnsIn (and_mk_fnExactSpawnsIn (and_mk_fnExactSpawnsIn (and_mk_fnExactSpawnsIn (and_mk_fnExactSpawnsIn (and_mk_fnExactSpawnsIn (and_mk_fnExactSpawnsIn (and_mk_fnExactSpawnsIn jf0_fnExactSpawnsIn jf1_fnExactSpawnsIn) jf2_fnExactSpawnsIn) jf3_fnExactSpawnsIn) jf4_fnExactSpawnsIn) jf5_fnExactSpawnsIn) jf6_fnExactSpawnsIn) jf7_fnExactSpawnsIn) jf8_fnExactSpawnsIn) jf9_fnExactSpawnsIn) jf10_fnExactSpawnsIn) jf11_fnExactSpawnsIn) jf12_fnExactSpawnsIn) jf13_fnExactSpawnsIn) jf14_fnExactSpawnsIn) jf15_fnExactSpawnsIn) jf16_fnExactSpawnsIn) jf17_fnExactSpawnsIn) jf18_fnExactSpawnsIn) jf19_fnExactSpawnsIn) jf20_fnExactSpawnsIn) jf21_fnExactSpawnsIn) jf22_fnExactSpawnsIn) jf23_fnExactSpawnsIn) jf24_fnExactSpawnsIn) jf25_fnExactSpawnsIn) jf26_fnExactSpawnsIn) jf27_fnExactSpawnsIn) jf28_fnExactSpawnsIn) jf29_fnExactSpawnsIn) jf30_fnExactSpawnsIn) jf31_fnExactSpawnsIn)
theorem op3 {H : Type} {enc : TypeId × Value → H} {W : World} : Opens enc Try.prog W 3 o3 (fun x => (Lit.int .i64 x).wf = true) := (opens_int (tiOf_und ty3)).map id (fun _ => rfl) (fun _ h => h)
theorem op83 {H : Type} {enc : TypeId × Value → H} {W : World} : Opens enc Try.prog W 83 o83 (fun x => x < 18446744073709551616) := (opens_float (tiOf_und ty83)).map id (fun _ => rfl) (fun _ h => h)
instance : Inhabited GOp := ⟨⟨0, 0, 0, 0⟩⟩
theorem op116 {H : Type} {enc : TypeId × Value → H} {W : World} : Opens enc Try.prog W 116 o116 (fun x => wfGOp x) := by
  have h := opens_struct (enc := enc) (w := W) (tiOf_und ty116) (m := 4) (by kernel_rfl) (L := [(0, 3), (1, 3), (2, 3), (3, 83)]) rfl (opensL_cons (sz := 1) (by kernel_rfl) rfl op3 (opensL_cons (sz := 1) (by kernel_rfl) rfl op3 (opensL_cons (sz := 1) (by kernel_rfl) rfl op3 (opensL_cons (sz := 1) (by kernel_rfl) rfl op83 opensL_nil))))
  exact h.map (fun p => (⟨p.1, p.2.1, p.2.2.1, p.2.2.2.1⟩ : GOp)) (fun _ => rfl) (fun p h => ⟨h.1, h.2.1, h.2.2.1, h.2.2.2.1⟩)
theorem op90 {H : Type} {enc : TypeId × Value → H} {W : World} : Opens enc Try.prog W 90 r90 (fun x => x.length ≤ 9223372036854775807 ∧ ∀ y0 ∈ x, wfGOp y0) := (opens_slice (tiOf_und ty90) (sz := 4) (by kernel_rfl) (by decide) op116).map id (fun _ => rfl) (fun _ h => h)
theorem op22 {H : Type} {enc : TypeId × Value → H} {W : World} : Opens enc Try.prog W 22 r22 (fun x => x.length ≤ 9223372036854775807 ∧ ∀ y0 ∈ x, y0.length ≤ 9223372036854775807 ∧ ∀ y1 ∈ y0, wfGOp y1) := (opens_slice (tiOf_und ty22) (sz := 1) (by kernel_rfl) (by decide) op90).map id (fun _ => rfl) (fun _ h => h)
instance : Inhabited GProg := ⟨⟨0, 0, 0, []⟩⟩
theorem op24 {H : Type} {enc : TypeId × Value → H} {W : World} : Opens enc Try.prog W 24 r24 (fun x => wfGProg x) := by
  have h := opens_struct (enc := enc) (w := W) (tiOf_und ty24) (m := 4) (by kernel_rfl) (L := [(0, 3), (1, 3), (2, 3), (3, 22)]) rfl (opensL_cons (sz := 1) (by kernel_rfl) rfl op3 (opensL_cons (sz := 1) (by kernel_rfl) rfl op3 (opensL_cons (sz := 1) (by kernel_rfl) rfl op3 (opensL_cons (sz := 1) (by kernel_rfl) rfl op22 opensL_nil))))
  exact h.map (fun p => (⟨p.1, p.2.1, p.2.2.1, p.2.2.2.1⟩ : GProg)) (fun _ => rfl) (fun p h => ⟨h.1, h.2.1, h.2.2.1, h.2.2.2.1⟩)
set_option maxRecDepth 100000 in
theorem lifted (os : Os) (started : os.Started) (H : Type) (enc : TypeId × Value → H) :
    ReturnsInHanded {} Try.checked os 6 .any (Rows.fnExactSpawnsInSpec.pre6 enc Try.prog Try.f6 Rows.fnExactSpawnsInRow.domain false) (Rows.fnExactSpawnsInSpec.post enc Try.prog Try.f6 false true false false) := by
  refine returnsInHanded_of_change (C := Try.checked) own_knob started (by kernel_rfl) Try.func6
    (ChangeSpec.witness6 (enc := enc) (C := Try.checked) false ⟨#[], #[.agg #[.int .i64 0, .int .i64 0, .int .i64 0, .slice none 0 0]], []⟩ 8 (by kernel_rfl) (by kernel_rfl) (by kernel_rfl) (by kernel_rfl)) ?_
  intro W base args ds gs before hval0 hW hcnd _
  have hval : ∀ (j : Nat) t v, Try.f6.params[j]? = some t → args[j]? = some v → Value.okWide Try.prog W .any base t v := hval0
  have hW' := hW
  obtain ⟨p, q, hA0, hV, rfl, hfz, hnd⟩ := hW
  have hA : DataW.TrodAll enc Try.prog W 0 (fun _ => true) true Try.f6.params.toList args.toList ds p := hA0
  rw [Try.params6] at hA hval
  obtain ⟨v0, vs0, d0, ds0, p0, q0, hargs, rfl, rfl, h0, r0⟩ := trodAll_cons hA
  obtain ⟨rfl, rfl, rfl⟩ := trodAll_nil r0
  obtain rfl : args = #[v0] := by cases args; simp_all
  obtain ⟨rfl, rfl⟩ := trodVars_none hV
  have k0 := h0
  have lt0 : ∀ x ∈ p0, x.block < W.heap.size := by obtain ⟨m, hm⟩ := k0; exact DataW.trod_lt m _ _ _ hm
  obtain ⟨x0, g0, rep0⟩ := open_agg op24 h0 (okWide_struct (tiOf_und ty24) (hval 0 _ v0 rfl rfl))
  have hm := (laws_FnExactSpawnsIn_m (law_SpawnsIn x0 g0)).2 W (fun b => b < W.heap.size) [v0] (by simp only [repL]; exact ⟨_, [], [], [], rfl, rfl, rep0, rfl, rfl⟩) (fun _ h => h)
  clear hA0 hval0
  refine hm.mono fun e W' ⟨v, fp, he, bel, hr, _⟩ => ?_
  subst he
  obtain rfl : v = .bool true := by simp only [rep] at hr; exact hr.2
  exact ⟨_, rfl, _, _, _, [], _, [], hW', trodAll_mk1 (shut_bool (tiOf_und ty4) _), (trodAll_cons_mk (Below.trod laid_out (by kernel_rfl) (of_decide_eq_true (by kernel_rfl)) k0 bel lt0) trodAll_mk0), rfl, bel.frame _, fun h => by cases h⟩
theorem named : Try.prog.funcNamed Rows.fnExactSpawnsInRow.func = some 6 := by kernel_rfl
theorem fnExactSpawnsIn_proved : Rows.FnExactSpawnsInSaid :=
  OpenClaim.holds_of_wide 6 Try.f6 rfl rfl rfl rfl rfl rfl rfl ⟨rfl, rfl, rfl, rfl, rfl⟩ rfl rfl rfl rfl rfl named Try.func6 facts_fnExactSpawnsIn
    (of_decide_eq_true (by kernel_rfl)) (by unfold Func.isWrapper; first | (rw [if_pos (by decide +kernel)]; kernel_rfl) | (rw [if_neg (by decide +kernel)]; exact ⟨rfl, rfl⟩))
    (fun os started H enc _ => lifted os started H enc)
end Go.Proofs.Ytgofeoobgpadiaa
