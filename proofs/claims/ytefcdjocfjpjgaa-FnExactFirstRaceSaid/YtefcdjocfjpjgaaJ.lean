/- The program's FirstRace returns what the reference's returns, for all arguments; no condition. -/

import Derived.Test.YtefcdjocfjpjgaaTT
import Derived.Test.YtefcdjocfjpjgaaF3
import Derived.Test.YtefcdjocfjpjgaaRows
import Derived.WalkKit
import Derived.ProofKit
import Derived.OpenShut
import Derived.ShutString
import Derived.ChangeOld
import Derived.Below
set_option linter.unusedVariables false
namespace Go.Proofs.Ytefcdjocfjpjgaa
open Go Go.T
open Go.ChangeShapes Go.WideShapes Go.ChangeAt Go.RowKit
open Go.ChangeMaps (open_string shut_string)

theorem own_knob : ownKnob Try.prog.godebug = none := by kernel_rfl
theorem laid_out : laidOutB Try.prog = true := by kernel_rfl
theorem and_mk_fnExactFirstRace {a b : Bool} (h : a = true) (k : b = true) : (a && b) = true := by rw [h, k]; rfl
theorem jf0_fnExactFirstRace : (Rows.fnExactFirstRaceRow.wf (OpenSpec.ofChange Rows.fnExactFirstRaceSpec) : Bool) = true := by kernel_rfl
theorem jf1_fnExactFirstRace : (laidOutB Try.prog : Bool) = true := by kernel_rfl
theorem jf2_fnExactFirstRace : (mapsRowed Try.prog : Bool) = true := by kernel_rfl
theorem jf3_fnExactFirstRace : (Try.f5.params.all (Try.prog.readableRec ·) : Bool) = true := by kernel_rfl
theorem jf4_fnExactFirstRace : (namedTie Try.prog Rows.fnExactFirstRaceRow.named Rows.fnExactFirstRaceSpec.vars : Bool) = true := by kernel_rfl
theorem jf5_fnExactFirstRace : ((Rows.fnExactFirstRaceRow.stops == []) : Bool) = true := by kernel_rfl
theorem jf6_fnExactFirstRace : ((Try.prog.stops == []) : Bool) = true := by kernel_rfl
theorem jf7_fnExactFirstRace : ((Rows.fnExactFirstRaceRow.knobs == []) : Bool) = true := by kernel_rfl
theorem jf8_fnExactFirstRace : ((Try.prog.stopKnobs == []) : Bool) = true := by kernel_rfl
theorem jf9_fnExactFirstRace : ((Rows.fnExactFirstRaceRow.inPlace == Try.prog.inPlace 5) : Bool) = true := by kernel_rfl
theorem jf10_fnExactFirstRace : ((Rows.fnExactFirstRaceRow.unfollowed == Try.prog.unfollowed 5) : Bool) = true := by kernel_rfl
theorem jf11_fnExactFirstRace : ((Rows.fnExactFirstRaceRow.recurses == Try.prog.recurses 5) : Bool) = true := by kernel_rfl
theorem jf12_fnExactFirstRace : ((Rows.fnExactFirstRaceRow.named == Try.prog.varsNamed 5) : Bool) = true := by kernel_rfl
theorem jf13_fnExactFirstRace : ((Rows.fnExactFirstRaceRow.maps == (Try.f5.params.toList ++ Rows.fnExactFirstRaceSpec.plain.varTypes Try.prog).any (Try.prog.mapsRec ·)) : Bool) = true := by kernel_rfl
theorem jf14_fnExactFirstRace : ((Rows.fnExactFirstRaceRow.ifaces == (Try.f5.params.toList ++ Rows.fnExactFirstRaceSpec.plain.varTypes Try.prog).any (Try.prog.ifacesRec ·)) : Bool) = true := by kernel_rfl
theorem jf15_fnExactFirstRace : ((Rows.fnExactFirstRaceRow.mapsOut == Try.prog.mapsAmong Try.f5.resultTypes.toList) : Bool) = true := by kernel_rfl
theorem jf16_fnExactFirstRace : ((Rows.fnExactFirstRaceRow.loops == (Try.f5.params.toList ++ Rows.fnExactFirstRaceSpec.plain.varTypes Try.prog).any (Try.prog.loopsFrom ·)) : Bool) = true := by kernel_rfl
theorem jf17_fnExactFirstRace : ((Rows.fnExactFirstRaceRow.wideKeys == (Try.f5.params.toList ++ Rows.fnExactFirstRaceSpec.plain.varTypes Try.prog ++ Try.f5.resultTypes.toList).any (Try.prog.wideKeysFrom ·)) : Bool) = true := by kernel_rfl
theorem jf18_fnExactFirstRace : (Rows.fnExactFirstRaceSpec.vars.all (Try.prog.varReadable ·) : Bool) = true := by kernel_rfl
theorem jf19_fnExactFirstRace : (Try.f5.resultTypes.all (fun t => Try.prog.readableRec t && decide (t < Try.prog.types.size)) : Bool) = true := by kernel_rfl
theorem jf20_fnExactFirstRace : ((Rows.fnExactFirstRaceRow.ifacesOut == Try.f5.resultTypes.toList.any (Try.prog.ifacesRec ·)) : Bool) = true := by kernel_rfl
theorem jf21_fnExactFirstRace : ((Rows.fnExactFirstRaceRow.loopsOut == Try.f5.resultTypes.toList.any (Try.prog.loopsFrom ·)) : Bool) = true := by kernel_rfl
theorem jf22_fnExactFirstRace : ((Rows.fnExactFirstRaceRow.plainKeys == Try.prog.plainKeys) : Bool) = true := by kernel_rfl
theorem jf23_fnExactFirstRace : (Rows.fnExactFirstRaceRow.shortTexts.isNone : Bool) = true := by kernel_rfl
theorem jf24_fnExactFirstRace : (Try.prog.stopsHeard : Bool) = true := by kernel_rfl
theorem jf25_fnExactFirstRace : (Try.prog.mayEnter : Bool) = true := by kernel_rfl
theorem jf26_fnExactFirstRace : ((Rows.fnExactFirstRaceRow.lifted == Try.prog.liftsFinal) : Bool) = true := by kernel_rfl
theorem jf27_fnExactFirstRace : ((Try.prog.make == some Rows.fnExactFirstRaceRow.make) : Bool) = true := by kernel_rfl
theorem jf28_fnExactFirstRace : ((Rows.fnExactFirstRaceRow.kinds == (if Rows.fnExactFirstRaceRow.domain.isEmpty then [] else Try.f5.params.toList.map fun t => match Try.prog.underlying t with | some (.int k) => some k | _ => none)) : Bool) = true := by kernel_rfl
theorem jf29_fnExactFirstRace : ((Rows.fnExactFirstRaceRow.pinned == Rows.fnExactFirstRaceRow.pinnedBy) : Bool) = true := by kernel_rfl
theorem jf30_fnExactFirstRace : ((Rows.fnExactFirstRaceRow.veiled == (Try.f5.params.toList ++ Rows.fnExactFirstRaceSpec.plain.varTypes Try.prog ++ Try.f5.resultTypes.toList).any (Try.prog.veiledRec ·)) : Bool) = true := by kernel_rfl
theorem jf31_fnExactFirstRace : (Rows.fnExactFirstRaceRow.veiledFits Try.prog Try.f5.params.toList (Try.f5.params.toList ++ Rows.fnExactFirstRaceSpec.plain.varTypes Try.prog ++ Try.f5.resultTypes.toList) : Bool) = true := by kernel_rfl
set_option maxRecDepth 100000 in
theorem facts_fnExactFirstRace : joinedFacts Try.prog 5 Try.f5 Rows.fnExactFirstRaceSpec Rows.fnExactFirstRaceRow = true := by unfold joinedFacts; exact (and_mk_fnExactFirstRace (and_mk_fnExactFirstRace (and_mk_fnExactFirstRace (and_mk_fnExactFirstRace (and_mk_fnExactFirstRace (and_mk_fnExactFirstRace (and_mk_fnExactFirstRace (and_mk_fnExactFirstRace (and_mk_fnExactFirstRace (and_mk_fnExactFirstRace (and_mk_fnExactFirstRace (and_mk_fnExactFirstRace (and_mk_fnExactFirstRace (and_mk_fnExactFirstRace (and_mk_fnExactFirstRace (and_mk_fnExactFirstRace (and_mk_fnExactFirstRace (and_mk_fnExactFirstRace (and_mk_fnExactFirstRace (and_mk_fnExactFirstRace (and_mk_fnExactFirstRace (and_mk_fnExactFirstRace (and_mk_fnExactFirstRace (and_mk_fnExactFirstRace (and_mk_fnExactFirstRace (and_mk_fnExactFirstRace (and_mk_fnExactFirstRace (and_mk_fnExactFirstRace (and_mk_fnExactFirstRace (and_mk_fnExactFirstRace (and_mk_fnExactFirstRace jf0_fnExactFirstRace jf1_fnExactFirstRace) jf2_fnExactFirstRace) jf3_fnExactFirstRace) jf4_fnExactFirstRace) jf5_fnExactFirstRace) jf6_fnExactFirstRace) jf7_fnExactFirstRace) jf8_fnExactFirstRace) jf9_fnExactFirstRace) jf10_fnExactFirstRace) jf11_fnExactFirstRace) jf12_fnExactFirstRace) jf13_fnExactFirstRace) jf14_fnExactFirstRace) jf15_fnExactFirstRace) jf16_fnExactFirstRace) jf17_fnExactFirstRace) jf18_fnExactFirstRace) jf19_fnExactFirstRace) jf20_fnExactFirstRace) jf21_fnExactFirstRace) jf22_fnExactFirstRace) jf23_fnExactFirstRace) jf24_fnExactFirstRace) jf25_fnExactFirstRace) jf26_fnExactFirstRace) jf27_fnExactFirstRace) jf28_fnExactFirstRace) jf29_fnExactFirstRace) jf30_fnExactFirstRace) jf31_fnExactFirstRace)
def v83 (e : GEvent) : List Value := [.int .i64 e.Thread, .int .i64 e.Kind, .int .i64 e.Obj, .int .i64 e.Lock, .int .i64 e.Pc]
instance : Inhabited GEvent := ⟨⟨0, 0, 0, 0, 0⟩⟩
set_option maxRecDepth 100000 in
theorem v83_el {H : Type} {enc : TypeId × Value → H} {w : World} (fuel : Nat) (cs : List Value) (x : DataW H × List MemPlace) (h : DataW.trod enc Try.prog w 0 (fun _ => true) true fuel 83 cs = some x) : ∃ a, cs = v83 a := by
  obtain ⟨xs, n, _, _, hlc, hlx, hf⟩ := DataW.trod_struct (tiOf_und ty83) h
  have h5 : Try.prog.cellsOf 83 = 5 := by kernel_rfl
  have h1_3 : Try.prog.cellsOf 3 = 1 := by kernel_rfl
  rw [h5] at hlc
  have hx : ∀ i, i < 5 → xs[i]? = some (xs[i]?.getD default) := fun i hi => by
    have : i < xs.length := by rw [hlx]; exact hi
    simp [this]
  have f0 : DataW.trod enc Try.prog w 0 (fun _ => true) true n 3 ((cs.drop 0).take (Try.prog.cellsOf 3)) = xs[0]? := hf 0 _ rfl
  have f1 : DataW.trod enc Try.prog w 0 (fun _ => true) true n 3 ((cs.drop 1).take (Try.prog.cellsOf 3)) = xs[1]? := hf 1 _ rfl
  have f2 : DataW.trod enc Try.prog w 0 (fun _ => true) true n 3 ((cs.drop 2).take (Try.prog.cellsOf 3)) = xs[2]? := hf 2 _ rfl
  have f3 : DataW.trod enc Try.prog w 0 (fun _ => true) true n 3 ((cs.drop 3).take (Try.prog.cellsOf 3)) = xs[3]? := hf 3 _ rfl
  have f4 : DataW.trod enc Try.prog w 0 (fun _ => true) true n 3 ((cs.drop 4).take (Try.prog.cellsOf 3)) = xs[4]? := hf 4 _ rfl
  rw [hx _ (by omega)] at f0 f1 f2 f3 f4
  rw [h1_3] at f0
  rw [h1_3] at f1
  rw [h1_3] at f2
  rw [h1_3] at f3
  rw [h1_3] at f4
  obtain ⟨n0, e0, _⟩ := DataW.trod_int (tiOf_und ty3) f0
  obtain ⟨n1, e1, _⟩ := DataW.trod_int (tiOf_und ty3) f1
  obtain ⟨n2, e2, _⟩ := DataW.trod_int (tiOf_und ty3) f2
  obtain ⟨n3, e3, _⟩ := DataW.trod_int (tiOf_und ty3) f3
  obtain ⟨n4, e4, _⟩ := DataW.trod_int (tiOf_und ty3) f4
  match cs, hlc with
  | [c0, c1, c2, c3, c4], _ =>
    simp at e0 e1 e2 e3 e4
    subst e0 e1 e2 e3 e4
    exact ⟨⟨n0, n1, n2, n3, n4⟩, rfl⟩
set_option maxRecDepth 100000 in
theorem lifted (os : Os) (started : os.Started) (H : Type) (enc : TypeId × Value → H) :
    ReturnsInHanded {} Try.checked os 5 .any (Rows.fnExactFirstRaceSpec.pre6 enc Try.prog Try.f5 Rows.fnExactFirstRaceRow.domain false) (Rows.fnExactFirstRaceSpec.post enc Try.prog Try.f5 false true false false) := by
  refine returnsInHanded_of_change (C := Try.checked) own_knob started (by kernel_rfl) Try.func5
    (ChangeSpec.witness6 (enc := enc) (C := Try.checked) false ⟨#[], #[.slice none 0 0], []⟩ 8 (by kernel_rfl) (by kernel_rfl) (by kernel_rfl) (by kernel_rfl)) ?_
  intro W base args ds gs before hval0 hW hcnd _
  have hval : ∀ (j : Nat) t v, Try.f5.params[j]? = some t → args[j]? = some v → Value.okWide Try.prog W .any base t v := hval0
  have hW' := hW
  obtain ⟨p, q, hA0, hV, rfl, hfz, hnd⟩ := hW
  have hA : DataW.TrodAll enc Try.prog W 0 (fun _ => true) true Try.f5.params.toList args.toList ds p := hA0
  rw [Try.params5] at hA hval
  obtain ⟨v0, vs0, d0, ds0, p0, q0, hargs, rfl, rfl, h0, r0⟩ := trodAll_cons hA
  obtain ⟨rfl, rfl, rfl⟩ := trodAll_nil r0
  obtain rfl : args = #[v0] := by cases args; simp_all
  obtain ⟨rfl, rfl⟩ := trodVars_none hV
  have k0 := h0
  have lt0 : ∀ x ∈ p0, x.block < W.heap.size := by obtain ⟨m, hm⟩ := k0; exact DataW.trod_lt m _ _ _ hm
  have hok0 := okWide_slice (tiOf_und ty31) (hval 0 _ v0 rfl rfl)
  obtain ⟨x0, hl0, rep0⟩ := open_rows v83 (tiOf_und ty31) (sz := 5) (by kernel_rfl) (by decide) (fun _ => rfl) (fun x u hu => by simp [v83] at hu; rcases hu with rfl | rfl | rfl | rfl | rfl <;> rfl) v83_el h0 hok0
  have hm := (laws_FnExactFirstRace_m (law_FirstRace x0 hl0)).2 W (fun b => b < W.heap.size) [v0] (by simp only [repL]; exact ⟨_, [], [], [], rfl, rfl, rep0, rfl, rfl⟩) (fun _ h => h)
  clear hA0 hval0
  refine hm.mono fun e W' ⟨v, fp, he, bel, hr, _⟩ => ?_
  subst he
  obtain rfl : v = .bool true := by simp only [rep] at hr; exact hr.2
  exact ⟨_, rfl, _, _, _, [], _, [], hW', trodAll_mk1 (shut_bool (tiOf_und ty4) _), (trodAll_cons_mk (Below.trod laid_out (by kernel_rfl) (of_decide_eq_true (by kernel_rfl)) k0 bel lt0) trodAll_mk0), rfl, bel.frame _, fun h => by cases h⟩
theorem named : Try.prog.funcNamed Rows.fnExactFirstRaceRow.func = some 5 := by kernel_rfl
theorem fnExactFirstRace_proved : Rows.FnExactFirstRaceSaid :=
  OpenClaim.holds_of_wide 5 Try.f5 rfl rfl rfl rfl rfl rfl rfl ⟨rfl, rfl, rfl, rfl, rfl⟩ rfl rfl rfl rfl rfl named Try.func5 facts_fnExactFirstRace
    (of_decide_eq_true (by kernel_rfl)) (by unfold Func.isWrapper; first | (rw [if_pos (by decide +kernel)]; kernel_rfl) | (rw [if_neg (by decide +kernel)]; exact ⟨rfl, rfl⟩))
    (fun os started H enc _ => lifted os started H enc)
end Go.Proofs.Ytefcdjocfjpjgaa
