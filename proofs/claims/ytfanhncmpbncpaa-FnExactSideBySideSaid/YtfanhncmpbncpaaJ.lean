/- The program's SideBySide returns what the reference's returns, for all arguments; no condition. -/

import Derived.Test.YtfanhncmpbncpaaTT
import Derived.Test.YtfanhncmpbncpaaS2
import Derived.Test.YtfanhncmpbncpaaRows
import Derived.WalkKit
import Derived.ProofKit
import Derived.OpenShut
import Derived.ShutString
import Derived.ChangeOld
import Derived.Below
set_option linter.unusedVariables false
namespace Go.Proofs.Ytfanhncmpbncpaa
open Go Go.T
open Go.ChangeShapes Go.WideShapes Go.ChangeAt Go.RowKit
open Go.ChangeMaps (open_string shut_string)

theorem own_knob : ownKnob Try.prog.godebug = none := by kernel_rfl
theorem laid_out : laidOutB Try.prog = true := by kernel_rfl
theorem and_mk_fnExactSideBySide {a b : Bool} (h : a = true) (k : b = true) : (a && b) = true := by rw [h, k]; rfl
theorem jf0_fnExactSideBySide : (Rows.fnExactSideBySideRow.wf (OpenSpec.ofChange Rows.fnExactSideBySideSpec) : Bool) = true := by kernel_rfl
theorem jf1_fnExactSideBySide : (laidOutB Try.prog : Bool) = true := by kernel_rfl
theorem jf2_fnExactSideBySide : (mapsRowed Try.prog : Bool) = true := by kernel_rfl
theorem jf3_fnExactSideBySide : (Try.f8.params.all (Try.prog.readableRec ·) : Bool) = true := by kernel_rfl
theorem jf4_fnExactSideBySide : (namedTie Try.prog Rows.fnExactSideBySideRow.named Rows.fnExactSideBySideSpec.vars : Bool) = true := by kernel_rfl
theorem jf5_fnExactSideBySide : ((Rows.fnExactSideBySideRow.stops == []) : Bool) = true := by kernel_rfl
theorem jf6_fnExactSideBySide : ((Try.prog.stops == []) : Bool) = true := by kernel_rfl
theorem jf7_fnExactSideBySide : ((Rows.fnExactSideBySideRow.knobs == []) : Bool) = true := by kernel_rfl
theorem jf8_fnExactSideBySide : ((Try.prog.stopKnobs == []) : Bool) = true := by kernel_rfl
theorem jf9_fnExactSideBySide : ((Rows.fnExactSideBySideRow.inPlace == Try.prog.inPlace 8) : Bool) = true := by kernel_rfl
theorem jf10_fnExactSideBySide : ((Rows.fnExactSideBySideRow.unfollowed == Try.prog.unfollowed 8) : Bool) = true := by kernel_rfl
theorem jf11_fnExactSideBySide : ((Rows.fnExactSideBySideRow.recurses == Try.prog.recurses 8) : Bool) = true := by kernel_rfl
theorem jf12_fnExactSideBySide : ((Rows.fnExactSideBySideRow.named == Try.prog.varsNamed 8) : Bool) = true := by kernel_rfl
theorem jf13_fnExactSideBySide : ((Rows.fnExactSideBySideRow.maps == (Try.f8.params.toList ++ Rows.fnExactSideBySideSpec.plain.varTypes Try.prog).any (Try.prog.mapsRec ·)) : Bool) = true := by kernel_rfl
theorem jf14_fnExactSideBySide : ((Rows.fnExactSideBySideRow.ifaces == (Try.f8.params.toList ++ Rows.fnExactSideBySideSpec.plain.varTypes Try.prog).any (Try.prog.ifacesRec ·)) : Bool) = true := by kernel_rfl
theorem jf15_fnExactSideBySide : ((Rows.fnExactSideBySideRow.mapsOut == Try.prog.mapsAmong Try.f8.resultTypes.toList) : Bool) = true := by kernel_rfl
theorem jf16_fnExactSideBySide : ((Rows.fnExactSideBySideRow.loops == (Try.f8.params.toList ++ Rows.fnExactSideBySideSpec.plain.varTypes Try.prog).any (Try.prog.loopsFrom ·)) : Bool) = true := by kernel_rfl
theorem jf17_fnExactSideBySide : ((Rows.fnExactSideBySideRow.wideKeys == (Try.f8.params.toList ++ Rows.fnExactSideBySideSpec.plain.varTypes Try.prog ++ Try.f8.resultTypes.toList).any (Try.prog.wideKeysFrom ·)) : Bool) = true := by kernel_rfl
theorem jf18_fnExactSideBySide : (Rows.fnExactSideBySideSpec.vars.all (Try.prog.varReadable ·) : Bool) = true := by kernel_rfl
theorem jf19_fnExactSideBySide : (Try.f8.resultTypes.all (fun t => Try.prog.readableRec t && decide (t < Try.prog.types.size)) : Bool) = true := by kernel_rfl
theorem jf20_fnExactSideBySide : ((Rows.fnExactSideBySideRow.ifacesOut == Try.f8.resultTypes.toList.any (Try.prog.ifacesRec ·)) : Bool) = true := by kernel_rfl
theorem jf21_fnExactSideBySide : ((Rows.fnExactSideBySideRow.loopsOut == Try.f8.resultTypes.toList.any (Try.prog.loopsFrom ·)) : Bool) = true := by kernel_rfl
theorem jf22_fnExactSideBySide : ((Rows.fnExactSideBySideRow.plainKeys == Try.prog.plainKeys) : Bool) = true := by kernel_rfl
theorem jf23_fnExactSideBySide : (Rows.fnExactSideBySideRow.shortTexts.isNone : Bool) = true := by kernel_rfl
theorem jf24_fnExactSideBySide : (Try.prog.stopsHeard : Bool) = true := by kernel_rfl
theorem jf25_fnExactSideBySide : (Try.prog.mayEnter : Bool) = true := by kernel_rfl
theorem jf26_fnExactSideBySide : ((Rows.fnExactSideBySideRow.lifted == Try.prog.liftsFinal) : Bool) = true := by kernel_rfl
theorem jf27_fnExactSideBySide : ((Try.prog.make == some Rows.fnExactSideBySideRow.make) : Bool) = true := by kernel_rfl
theorem jf28_fnExactSideBySide : ((Rows.fnExactSideBySideRow.kinds == (if Rows.fnExactSideBySideRow.domain.isEmpty then [] else Try.f8.params.toList.map fun t => match Try.prog.underlying t with | some (.int k) => some k | _ => none)) : Bool) = true := by kernel_rfl
theorem jf29_fnExactSideBySide : ((Rows.fnExactSideBySideRow.pinned == Rows.fnExactSideBySideRow.pinnedBy) : Bool) = true := by kernel_rfl
theorem jf30_fnExactSideBySide : ((Rows.fnExactSideBySideRow.veiled == (Try.f8.params.toList ++ Rows.fnExactSideBySideSpec.plain.varTypes Try.prog ++ Try.f8.resultTypes.toList).any (Try.prog.veiledRec ·)) : Bool) = true := by kernel_rfl
theorem jf31_fnExactSideBySide : (Rows.fnExactSideBySideRow.veiledFits Try.prog Try.f8.params.toList (Try.f8.params.toList ++ Rows.fnExactSideBySideSpec.plain.varTypes Try.prog ++ Try.f8.resultTypes.toList) : Bool) = true := by kernel_rfl
set_option maxRecDepth 100000 in
theorem facts_fnExactSideBySide : joinedFacts Try.prog 8 Try.f8 Rows.fnExactSideBySideSpec Rows.fnExactSideBySideRow = true := by unfold joinedFacts; exact (and_mk_fnExactSideBySide (and_mk_fnExactSideBySide (and_mk_fnExactSideBySide (and_mk_fnExactSideBySide (and_mk_fnExactSideBySide (and_mk_fnExactSideBySide (and_mk_fnExactSideBySide (and_mk_fnExactSideBySide (and_mk_fnExactSideBySide (and_mk_fnExactSideBySide (and_mk_fnExactSideBySide (and_mk_fnExactSideBySide (and_mk_fnExactSideBySide (and_mk_fnExactSideBySide (and_mk_fnExactSideBySide (and_mk_fnExactSideBySide (and_mk_fnExactSideBySide (and_mk_fnExactSideBySide (and_mk_fnExactSideBySide (and_mk_fnExactSideBySide (and_mk_fnExactSideBySide (and_mk_fnExactSideBySide (and_mk_fnExactSideBySide (and_mk_fnExactSideBySide (and_mk_fnExactSideBySide (and_mk_fnExactSideBySide (and_mk_fnExactSideBySide (and_mk_fnExactSideBySide (and_mk_fnExactSideBySide (and_mk_fnExactSideBySide (and_mk_fnExactSideBySide jf0_fnExactSideBySide jf1_fnExactSideBySide) jf2_fnExactSideBySide) jf3_fnExactSideBySide) jf4_fnExactSideBySide) jf5_fnExactSideBySide) jf6_fnExactSideBySide) jf7_fnExactSideBySide) jf8_fnExactSideBySide) jf9_fnExactSideBySide) jf10_fnExactSideBySide) jf11_fnExactSideBySide) jf12_fnExactSideBySide) jf13_fnExactSideBySide) jf14_fnExactSideBySide) jf15_fnExactSideBySide) jf16_fnExactSideBySide) jf17_fnExactSideBySide) jf18_fnExactSideBySide) jf19_fnExactSideBySide) jf20_fnExactSideBySide) jf21_fnExactSideBySide) jf22_fnExactSideBySide) jf23_fnExactSideBySide) jf24_fnExactSideBySide) jf25_fnExactSideBySide) jf26_fnExactSideBySide) jf27_fnExactSideBySide) jf28_fnExactSideBySide) jf29_fnExactSideBySide) jf30_fnExactSideBySide) jf31_fnExactSideBySide)
def v52 (e : GEvent) : List Value := [.int .i64 e.Thread, .int .i64 e.Kind, .int .i64 e.Obj, .int .i64 e.Lock, .int .i64 e.Pc]
instance : Inhabited GEvent := ⟨⟨0, 0, 0, 0, 0⟩⟩
set_option maxRecDepth 100000 in
theorem v52_el {H : Type} {enc : TypeId × Value → H} {w : World} (fuel : Nat) (cs : List Value) (x : DataW H × List MemPlace) (h : DataW.trod enc Try.prog w 0 (fun _ => true) true fuel 52 cs = some x) : ∃ a, cs = v52 a := by
  obtain ⟨xs, n, _, _, hlc, hlx, hf⟩ := DataW.trod_struct (tiOf_und ty52) h
  have h5 : Try.prog.cellsOf 52 = 5 := by kernel_rfl
  have h1_3 : Try.prog.cellsOf 3 = 1 := by kernel_rfl
  rw [h5] at hlc
  have hx : ∀ i, i < 5 → xs[i]? = some (xs[i]?.getD default) := fun i hi => by
    have : i < xs.length := by rw [hlx]; exact hi
    simp [this]
  have f0 : DataW.trod enc Try.prog w 0 (fun _ => true) true n 3 ((cs.drop 0).take (Try.prog.cellsOf 3)) = xs[0]? := hf 0 _ rfl
  have f1 : DataW.trod enc Try.prog w 0 (fun _ => true) true n 3 ((cs.drop 1).take (Try.prog.cellsOf 3)) = xs[1]? := hf 1 _ rfl
  have f2 : DataW.trod enc Try.prog w 0 (fun _ => true) true n 3 ((cs.drop 2).take (Try.prog.cellsOf 3)) = xs[2]? := hf 2 _ rfl
  have f3 : DataW.trod enc Try.prog w 0 (fun _ => true) true n 3 ((cs.drop 3).take (Try.prog.cellsOf 3)) = xs[3]? := hf 3 _ rfl
  have f4 : DataW.trod enc Try.prog w 0 (fun _ => true) true n 3 ((cs.drop 4).take (Try.prog.cellsOf 3)) = xs[4]? := hf 4 _ rfl
  rw [hx _ (by omega)] at f0 f1 f2 f3 f4
  rw [h1_3] at f0
  rw [h1_3] at f1
  rw [h1_3] at f2
  rw [h1_3] at f3
  rw [h1_3] at f4
  obtain ⟨n0, e0, _⟩ := DataW.trod_int (tiOf_und ty3) f0
  obtain ⟨n1, e1, _⟩ := DataW.trod_int (tiOf_und ty3) f1
  obtain ⟨n2, e2, _⟩ := DataW.trod_int (tiOf_und ty3) f2
  obtain ⟨n3, e3, _⟩ := DataW.trod_int (tiOf_und ty3) f3
  obtain ⟨n4, e4, _⟩ := DataW.trod_int (tiOf_und ty3) f4
  match cs, hlc with
  | [c0, c1, c2, c3, c4], _ =>
    simp at e0 e1 e2 e3 e4
    subst e0 e1 e2 e3 e4
    exact ⟨⟨n0, n1, n2, n3, n4⟩, rfl⟩
set_option maxRecDepth 100000 in
theorem lifted (os : Os) (started : os.Started) (H : Type) (enc : TypeId × Value → H) :
    ReturnsInHanded {} Try.checked os 8 .any (Rows.fnExactSideBySideSpec.pre6 enc Try.prog Try.f8 Rows.fnExactSideBySideRow.domain false) (Rows.fnExactSideBySideSpec.post enc Try.prog Try.f8 false true false false) := by
  refine returnsInHanded_of_change (C := Try.checked) own_knob started (by kernel_rfl) Try.func8
    (ChangeSpec.witness6 (enc := enc) (C := Try.checked) false ⟨#[], #[.slice none 0 0], []⟩ 8 (by kernel_rfl) (by kernel_rfl) (by kernel_rfl) (by kernel_rfl)) ?_
  intro W base args ds gs before hval0 hW hcnd _
  have hval : ∀ (j : Nat) t v, Try.f8.params[j]? = some t → args[j]? = some v → Value.okWide Try.prog W .any base t v := hval0
  have hW' := hW
  obtain ⟨p, q, hA0, hV, rfl, hfz, hnd⟩ := hW
  have hA : DataW.TrodAll enc Try.prog W 0 (fun _ => true) true Try.f8.params.toList args.toList ds p := hA0
  rw [Try.params8] at hA hval
  obtain ⟨v0, vs0, d0, ds0, p0, q0, hargs, rfl, rfl, h0, r0⟩ := trodAll_cons hA
  obtain ⟨rfl, rfl, rfl⟩ := trodAll_nil r0
  obtain rfl : args = #[v0] := by cases args; simp_all
  obtain ⟨rfl, rfl⟩ := trodVars_none hV
  have k0 := h0
  have lt0 : ∀ x ∈ p0, x.block < W.heap.size := by obtain ⟨m, hm⟩ := k0; exact DataW.trod_lt m _ _ _ hm
  have hok0 := okWide_slice (tiOf_und ty22) (hval 0 _ v0 rfl rfl)
  obtain ⟨x0, hl0, rep0⟩ := open_rows v52 (tiOf_und ty22) (sz := 5) (by kernel_rfl) (by decide) (fun _ => rfl) (fun x u hu => by simp [v52] at hu; rcases hu with rfl | rfl | rfl | rfl | rfl <;> rfl) v52_el h0 hok0
  have hm := (laws_FnExactSideBySide_m (law_SideBySide x0 hl0)).2 W (fun b => b < W.heap.size) [v0] (by simp only [repL]; exact ⟨_, [], [], [], rfl, rfl, rep0, rfl, rfl⟩) (fun _ h => h)
  clear hA0 hval0
  refine hm.mono fun e W' ⟨v, fp, he, bel, hr, _⟩ => ?_
  subst he
  obtain rfl : v = .bool true := by simp only [rep] at hr; exact hr.2
  exact ⟨_, rfl, _, _, _, [], _, [], hW', trodAll_mk1 (shut_bool (tiOf_und ty4) _), (trodAll_cons_mk (Below.trod laid_out (by kernel_rfl) (of_decide_eq_true (by kernel_rfl)) k0 bel lt0) trodAll_mk0), rfl, bel.frame _, fun h => by cases h⟩
theorem named : Try.prog.funcNamed Rows.fnExactSideBySideRow.func = some 8 := by kernel_rfl
theorem fnExactSideBySide_proved : Rows.FnExactSideBySideSaid :=
  OpenClaim.holds_of_wide 8 Try.f8 rfl rfl rfl rfl rfl rfl rfl ⟨rfl, rfl, rfl, rfl, rfl⟩ rfl rfl rfl rfl rfl named Try.func8 facts_fnExactSideBySide
    (of_decide_eq_true (by kernel_rfl)) (by unfold Func.isWrapper; first | (rw [if_pos (by decide +kernel)]; kernel_rfl) | (rw [if_neg (by decide +kernel)]; exact ⟨rfl, rfl⟩))
    (fun os started H enc _ => lifted os started H enc)
end Go.Proofs.Ytfanhncmpbncpaa
