/- The program's SharedLocks returns what the reference's returns, for all arguments; no condition. -/

import Derived.Test.YthhcnmideecfpaaTW
import Derived.Test.YthhcnmideecfpaaSH
import Derived.Test.YthhcnmideecfpaaRows
import Derived.WalkKit
import Derived.ProofKit
import Derived.OpenShut
import Derived.ShutString
import Derived.ChangeOld
import Derived.Below
set_option linter.unusedVariables false
namespace Go.Proofs.Ythhcnmideecfpaa
open Go Go.T
open Go.ChangeShapes Go.WideShapes Go.ChangeAt Go.RowKit
open Go.ChangeMaps (open_string shut_string)

theorem own_knob : ownKnob Try.prog.godebug = none := by kernel_rfl
theorem laid_out : laidOutB Try.prog = true := by kernel_rfl
theorem and_mk_fnExactSharedLocks {a b : Bool} (h : a = true) (k : b = true) : (a && b) = true := by rw [h, k]; rfl
theorem jf0_fnExactSharedLocks : (Rows.fnExactSharedLocksRow.wf (OpenSpec.ofChange Rows.fnExactSharedLocksSpec) : Bool) = true := by kernel_rfl
theorem jf1_fnExactSharedLocks : (laidOutB Try.prog : Bool) = true := by kernel_rfl
theorem jf2_fnExactSharedLocks : (mapsRowed Try.prog : Bool) = true := by kernel_rfl
theorem jf3_fnExactSharedLocks : (Try.f4.params.all (Try.prog.readableRec ·) : Bool) = true := by kernel_rfl
theorem jf4_fnExactSharedLocks : (namedTie Try.prog Rows.fnExactSharedLocksRow.named Rows.fnExactSharedLocksSpec.vars : Bool) = true := by kernel_rfl
theorem jf5_fnExactSharedLocks : ((Rows.fnExactSharedLocksRow.stops == []) : Bool) = true := by kernel_rfl
theorem jf6_fnExactSharedLocks : ((Try.prog.stops == []) : Bool) = true := by kernel_rfl
theorem jf7_fnExactSharedLocks : ((Rows.fnExactSharedLocksRow.knobs == []) : Bool) = true := by kernel_rfl
theorem jf8_fnExactSharedLocks : ((Try.prog.stopKnobs == []) : Bool) = true := by kernel_rfl
theorem jf9_fnExactSharedLocks : ((Rows.fnExactSharedLocksRow.inPlace == Try.prog.inPlace 4) : Bool) = true := by kernel_rfl
theorem jf10_fnExactSharedLocks : ((Rows.fnExactSharedLocksRow.unfollowed == Try.prog.unfollowed 4) : Bool) = true := by kernel_rfl
theorem jf11_fnExactSharedLocks : ((Rows.fnExactSharedLocksRow.recurses == Try.prog.recurses 4) : Bool) = true := by kernel_rfl
theorem jf12_fnExactSharedLocks : ((Rows.fnExactSharedLocksRow.named == Try.prog.varsNamed 4) : Bool) = true := by kernel_rfl
theorem jf13_fnExactSharedLocks : ((Rows.fnExactSharedLocksRow.maps == (Try.f4.params.toList ++ Rows.fnExactSharedLocksSpec.plain.varTypes Try.prog).any (Try.prog.mapsRec ·)) : Bool) = true := by kernel_rfl
theorem jf14_fnExactSharedLocks : ((Rows.fnExactSharedLocksRow.ifaces == (Try.f4.params.toList ++ Rows.fnExactSharedLocksSpec.plain.varTypes Try.prog).any (Try.prog.ifacesRec ·)) : Bool) = true := by kernel_rfl
theorem jf15_fnExactSharedLocks : ((Rows.fnExactSharedLocksRow.mapsOut == Try.prog.mapsAmong Try.f4.resultTypes.toList) : Bool) = true := by kernel_rfl
theorem jf16_fnExactSharedLocks : ((Rows.fnExactSharedLocksRow.loops == (Try.f4.params.toList ++ Rows.fnExactSharedLocksSpec.plain.varTypes Try.prog).any (Try.prog.loopsFrom ·)) : Bool) = true := by kernel_rfl
theorem jf17_fnExactSharedLocks : ((Rows.fnExactSharedLocksRow.wideKeys == (Try.f4.params.toList ++ Rows.fnExactSharedLocksSpec.plain.varTypes Try.prog ++ Try.f4.resultTypes.toList).any (Try.prog.wideKeysFrom ·)) : Bool) = true := by kernel_rfl
theorem jf18_fnExactSharedLocks : (Rows.fnExactSharedLocksSpec.vars.all (Try.prog.varReadable ·) : Bool) = true := by kernel_rfl
theorem jf19_fnExactSharedLocks : (Try.f4.resultTypes.all (fun t => Try.prog.readableRec t && decide (t < Try.prog.types.size)) : Bool) = true := by kernel_rfl
theorem jf20_fnExactSharedLocks : ((Rows.fnExactSharedLocksRow.ifacesOut == Try.f4.resultTypes.toList.any (Try.prog.ifacesRec ·)) : Bool) = true := by kernel_rfl
theorem jf21_fnExactSharedLocks : ((Rows.fnExactSharedLocksRow.loopsOut == Try.f4.resultTypes.toList.any (Try.prog.loopsFrom ·)) : Bool) = true := by kernel_rfl
theorem jf22_fnExactSharedLocks : ((Rows.fnExactSharedLocksRow.plainKeys == Try.prog.plainKeys) : Bool) = true := by kernel_rfl
theorem jf23_fnExactSharedLocks : (Rows.fnExactSharedLocksRow.shortTexts.isNone : Bool) = true := by kernel_rfl
theorem jf24_fnExactSharedLocks : (Try.prog.stopsHeard : Bool) = true := by kernel_rfl
theorem jf25_fnExactSharedLocks : (Try.prog.mayEnter : Bool) = true := by kernel_rfl
theorem jf26_fnExactSharedLocks : ((Rows.fnExactSharedLocksRow.lifted == Try.prog.liftsFinal) : Bool) = true := by kernel_rfl
theorem jf27_fnExactSharedLocks : ((Try.prog.make == some Rows.fnExactSharedLocksRow.make) : Bool) = true := by kernel_rfl
theorem jf28_fnExactSharedLocks : ((Rows.fnExactSharedLocksRow.kinds == (if Rows.fnExactSharedLocksRow.domain.isEmpty then [] else Try.f4.params.toList.map fun t => match Try.prog.underlying t with | some (.int k) => some k | _ => none)) : Bool) = true := by kernel_rfl
theorem jf29_fnExactSharedLocks : ((Rows.fnExactSharedLocksRow.pinned == Rows.fnExactSharedLocksRow.pinnedBy) : Bool) = true := by kernel_rfl
theorem jf30_fnExactSharedLocks : ((Rows.fnExactSharedLocksRow.veiled == (Try.f4.params.toList ++ Rows.fnExactSharedLocksSpec.plain.varTypes Try.prog ++ Try.f4.resultTypes.toList).any (Try.prog.veiledRec ·)) : Bool) = true := by kernel_rfl
theorem jf31_fnExactSharedLocks : (Rows.fnExactSharedLocksRow.veiledFits Try.prog Try.f4.params.toList (Try.f4.params.toList ++ Rows.fnExactSharedLocksSpec.plain.varTypes Try.prog ++ Try.f4.resultTypes.toList) : Bool) = true := by kernel_rfl
set_option maxRecDepth 100000 in
theorem facts_fnExactSharedLocks : joinedFacts Try.prog 4 Try.f4 Rows.fnExactSharedLocksSpec Rows.fnExactSharedLocksRow = true := by unfold joinedFacts; exact (and_mk_fnExactSharedLocks (and_mk_fnExactSharedLocks (and_mk_fnExactSharedLocks (and_mk_fnExactSharedLocks (and_mk_fnExactSharedLocks (and_mk_fnExactSharedLocks (and_mk_fnExactSharedLocks (and_mk_fnExactSharedLocks (and_mk_fnExactSharedLocks (and_mk_fnExactSharedLocks (and_mk_fnExactSharedLocks (and_mk_fnExactSharedLocks (and_mk_fnExactSharedLocks (and_mk_fnExactSharedLocks (and_mk_fnExactSharedLocks (and_mk_fnExactSharedLocks (and_mk_fnExactSharedLocks (and_mk_fnExactSharedLocks (and_mk_fnExactSharedLocks (and_mk_fnExactSharedLocks (and_mk_fnExactSharedLocks (and_mk_fnExactSharedLocks (and_mk_fnExactSharedLocks (and_mk_fnExactSharedLocks (and_mk_fnExactSharedLocks (and_mk_fnExactSharedLocks (and_mk_fnExactSharedLocks (and_mk_fnExactSharedLocks (and_mk_fnExactSharedLocks (and_mk_fnExactSharedLocks (and_mk_fnExactSharedLocks jf0_fnExactSharedLocks jf1_fnExactSharedLocks) jf2_fnExactSharedLocks) jf3_fnExactSharedLocks) jf4_fnExactSharedLocks) jf5_fnExactSharedLocks) jf6_fnExactSharedLocks) jf7_fnExactSharedLocks) jf8_fnExactSharedLocks) jf9_fnExactSharedLocks) jf10_fnExactSharedLocks) jf11_fnExactSharedLocks) jf12_fnExactSharedLocks) jf13_fnExactSharedLocks) jf14_fnExactSharedLocks) jf15_fnExactSharedLocks) jf16_fnExactSharedLocks) jf17_fnExactSharedLocks) jf18_fnExactSharedLocks) jf19_fnExactSharedLocks) jf20_fnExactSharedLocks) jf21_fnExactSharedLocks) jf22_fnExactSharedLocks) jf23_fnExactSharedLocks) jf24_fnExactSharedLocks) jf25_fnExactSharedLocks) jf26_fnExactSharedLocks) jf27_fnExactSharedLocks) jf28_fnExactSharedLocks) jf29_fnExactSharedLocks) jf30_fnExactSharedLocks) jf31_fnExactSharedLocks)
theorem op3 {H : Type} {enc : TypeId × Value → H} {W : World} : Opens enc Try.prog W 3 o3 (fun x => (Lit.int .i64 x).wf = true) := (opens_int (tiOf_und ty3)).map id (fun _ => rfl) (fun _ h => h)
instance : Inhabited GEvent := ⟨⟨0, 0, 0, 0, 0⟩⟩
theorem op47 {H : Type} {enc : TypeId × Value → H} {W : World} : Opens enc Try.prog W 47 o47 (fun x => wfGEvent x) := by
  have h := opens_struct (enc := enc) (w := W) (tiOf_und ty47) (m := 5) (by kernel_rfl) (L := [(0, 3), (1, 3), (2, 3), (3, 3), (4, 3)]) rfl (opensL_cons (sz := 1) (by kernel_rfl) rfl op3 (opensL_cons (sz := 1) (by kernel_rfl) rfl op3 (opensL_cons (sz := 1) (by kernel_rfl) rfl op3 (opensL_cons (sz := 1) (by kernel_rfl) rfl op3 (opensL_cons (sz := 1) (by kernel_rfl) rfl op3 opensL_nil)))))
  exact h.map (fun p => (⟨p.1, p.2.1, p.2.2.1, p.2.2.2.1, p.2.2.2.2.1⟩ : GEvent)) (fun _ => rfl) (fun p h => ⟨h.1, h.2.1, h.2.2.1, h.2.2.2.1, h.2.2.2.2.1⟩)
theorem op22 {H : Type} {enc : TypeId × Value → H} {W : World} : Opens enc Try.prog W 22 r22 (fun x => x.length ≤ 9223372036854775807 ∧ ∀ y0 ∈ x, wfGEvent y0) := (opens_slice (tiOf_und ty22) (sz := 5) (by kernel_rfl) (by decide) op47).map id (fun _ => rfl) (fun _ h => h)
set_option maxRecDepth 100000 in
theorem lifted (os : Os) (started : os.Started) (H : Type) (enc : TypeId × Value → H) :
    ReturnsInHanded {} Try.checked os 4 .any (Rows.fnExactSharedLocksSpec.pre6 enc Try.prog Try.f4 Rows.fnExactSharedLocksRow.domain false) (Rows.fnExactSharedLocksSpec.post enc Try.prog Try.f4 false true false false) := by
  refine returnsInHanded_of_change (C := Try.checked) own_knob started (by kernel_rfl) Try.func4
    (ChangeSpec.witness6 (enc := enc) (C := Try.checked) false ⟨#[], #[.slice none 0 0], []⟩ 8 (by kernel_rfl) (by kernel_rfl) (by kernel_rfl) (by kernel_rfl)) ?_
  intro W base args ds gs before hval0 hW hcnd _
  have hval : ∀ (j : Nat) t v, Try.f4.params[j]? = some t → args[j]? = some v → Value.okWide Try.prog W .any base t v := hval0
  have hW' := hW
  obtain ⟨p, q, hA0, hV, rfl, hfz, hnd⟩ := hW
  have hA : DataW.TrodAll enc Try.prog W 0 (fun _ => true) true Try.f4.params.toList args.toList ds p := hA0
  rw [Try.params4] at hA hval
  obtain ⟨v0, vs0, d0, ds0, p0, q0, hargs, rfl, rfl, h0, r0⟩ := trodAll_cons hA
  obtain ⟨rfl, rfl, rfl⟩ := trodAll_nil r0
  obtain rfl : args = #[v0] := by cases args; simp_all
  obtain ⟨rfl, rfl⟩ := trodVars_none hV
  have k0 := h0
  have lt0 : ∀ x ∈ p0, x.block < W.heap.size := by obtain ⟨m, hm⟩ := k0; exact DataW.trod_lt m _ _ _ hm
  obtain ⟨x0, g0, rep0⟩ := open_slc (f := fun (x : (List GEvent)) => AV.ro 5 (x.map o47)) op22 h0 (okWide_slice (tiOf_und ty22) (hval 0 _ v0 rfl rfl))
  have hm := (laws_FnExactSharedLocks_m (law_SharedLocks x0 g0.1)).2 W (fun b => b < W.heap.size) [v0] (by simp only [repL]; exact ⟨_, [], [], [], rfl, rfl, rep0, rfl, rfl⟩) (fun _ h => h)
  clear hA0 hval0
  refine hm.mono fun e W' ⟨v, fp, he, bel, _, hr, _⟩ => ?_
  subst he
  obtain rfl : v = .bool true := by simp only [rep] at hr; exact hr.2
  exact ⟨_, rfl, _, _, _, [], _, [], hW', trodAll_mk1 (shut_bool (tiOf_und ty4) _), (trodAll_cons_mk (Below.trod laid_out (by kernel_rfl) (of_decide_eq_true (by kernel_rfl)) k0 bel lt0) trodAll_mk0), rfl, bel.frame _, fun h => by cases h⟩
theorem named : Try.prog.funcNamed Rows.fnExactSharedLocksRow.func = some 4 := by kernel_rfl
theorem fnExactSharedLocks_proved : Rows.FnExactSharedLocksSaid :=
  OpenClaim.holds_of_wide 4 Try.f4 rfl rfl rfl rfl rfl rfl rfl ⟨rfl, rfl, rfl, rfl, rfl⟩ rfl rfl rfl rfl rfl named Try.func4 facts_fnExactSharedLocks
    (of_decide_eq_true (by kernel_rfl)) (by unfold Func.isWrapper; first | (rw [if_pos (by decide +kernel)]; kernel_rfl) | (rw [if_neg (by decide +kernel)]; exact ⟨rfl, rfl⟩))
    (fun os started H enc _ => lifted os started H enc)
end Go.Proofs.Ythhcnmideecfpaa
