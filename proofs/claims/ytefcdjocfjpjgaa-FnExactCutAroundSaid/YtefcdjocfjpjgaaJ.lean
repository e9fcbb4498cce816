/- The program's CutAround returns what the reference's returns, for all arguments; no condition. -/

import Derived.Test.YtefcdjocfjpjgaaTT
import Derived.Test.YtefcdjocfjpjgaaC2
import Derived.Test.YtefcdjocfjpjgaaRows
import Derived.WalkKit
import Derived.ProofKit
import Derived.OpenShut
import Derived.ShutString
import Derived.ChangeOld
import Derived.Below
set_option linter.unusedVariables false
namespace Go.Proofs.Ytefcdjocfjpjgaa
open Go Go.T
open Go.ChangeShapes Go.WideShapes Go.ChangeAt Go.RowKit
open Go.ChangeMaps (open_string shut_string)

theorem own_knob : ownKnob Try.prog.godebug = none := by kernel_rfl
theorem laid_out : laidOutB Try.prog = true := by kernel_rfl
theorem and_mk_fnExactCutAround {a b : Bool} (h : a = true) (k : b = true) : (a && b) = true := by rw [h, k]; rfl
theorem jf0_fnExactCutAround : (Rows.fnExactCutAroundRow.wf (OpenSpec.ofChange Rows.fnExactCutAroundSpec) : Bool) = true := by kernel_rfl
theorem jf1_fnExactCutAround : (laidOutB Try.prog : Bool) = true := by kernel_rfl
theorem jf2_fnExactCutAround : (mapsRowed Try.prog : Bool) = true := by kernel_rfl
theorem jf3_fnExactCutAround : (Try.f6.params.all (Try.prog.readableRec ·) : Bool) = true := by kernel_rfl
theorem jf4_fnExactCutAround : (namedTie Try.prog Rows.fnExactCutAroundRow.named Rows.fnExactCutAroundSpec.vars : Bool) = true := by kernel_rfl
theorem jf5_fnExactCutAround : ((Rows.fnExactCutAroundRow.stops == []) : Bool) = true := by kernel_rfl
theorem jf6_fnExactCutAround : ((Try.prog.stops == []) : Bool) = true := by kernel_rfl
theorem jf7_fnExactCutAround : ((Rows.fnExactCutAroundRow.knobs == []) : Bool) = true := by kernel_rfl
theorem jf8_fnExactCutAround : ((Try.prog.stopKnobs == []) : Bool) = true := by kernel_rfl
theorem jf9_fnExactCutAround : ((Rows.fnExactCutAroundRow.inPlace == Try.prog.inPlace 6) : Bool) = true := by kernel_rfl
theorem jf10_fnExactCutAround : ((Rows.fnExactCutAroundRow.unfollowed == Try.prog.unfollowed 6) : Bool) = true := by kernel_rfl
theorem jf11_fnExactCutAround : ((Rows.fnExactCutAroundRow.recurses == Try.prog.recurses 6) : Bool) = true := by kernel_rfl
theorem jf12_fnExactCutAround : ((Rows.fnExactCutAroundRow.named == Try.prog.varsNamed 6) : Bool) = true := by kernel_rfl
theorem jf13_fnExactCutAround : ((Rows.fnExactCutAroundRow.maps == (Try.f6.params.toList ++ Rows.fnExactCutAroundSpec.plain.varTypes Try.prog).any (Try.prog.mapsRec ·)) : Bool) = true := by kernel_rfl
theorem jf14_fnExactCutAround : ((Rows.fnExactCutAroundRow.ifaces == (Try.f6.params.toList ++ Rows.fnExactCutAroundSpec.plain.varTypes Try.prog).any (Try.prog.ifacesRec ·)) : Bool) = true := by kernel_rfl
theorem jf15_fnExactCutAround : ((Rows.fnExactCutAroundRow.mapsOut == Try.prog.mapsAmong Try.f6.resultTypes.toList) : Bool) = true := by kernel_rfl
theorem jf16_fnExactCutAround : ((Rows.fnExactCutAroundRow.loops == (Try.f6.params.toList ++ Rows.fnExactCutAroundSpec.plain.varTypes Try.prog).any (Try.prog.loopsFrom ·)) : Bool) = true := by kernel_rfl
theorem jf17_fnExactCutAround : ((Rows.fnExactCutAroundRow.wideKeys == (Try.f6.params.toList ++ Rows.fnExactCutAroundSpec.plain.varTypes Try.prog ++ Try.f6.resultTypes.toList).any (Try.prog.wideKeysFrom ·)) : Bool) = true := by kernel_rfl
theorem jf18_fnExactCutAround : (Rows.fnExactCutAroundSpec.vars.all (Try.prog.varReadable ·) : Bool) = true := by kernel_rfl
theorem jf19_fnExactCutAround : (Try.f6.resultTypes.all (fun t => Try.prog.readableRec t && decide (t < Try.prog.types.size)) : Bool) = true := by kernel_rfl
theorem jf20_fnExactCutAround : ((Rows.fnExactCutAroundRow.ifacesOut == Try.f6.resultTypes.toList.any (Try.prog.ifacesRec ·)) : Bool) = true := by kernel_rfl
theorem jf21_fnExactCutAround : ((Rows.fnExactCutAroundRow.loopsOut == Try.f6.resultTypes.toList.any (Try.prog.loopsFrom ·)) : Bool) = true := by kernel_rfl
theorem jf22_fnExactCutAround : ((Rows.fnExactCutAroundRow.plainKeys == Try.prog.plainKeys) : Bool) = true := by kernel_rfl
theorem jf23_fnExactCutAround : (Rows.fnExactCutAroundRow.shortTexts.isNone : Bool) = true := by kernel_rfl
theorem jf24_fnExactCutAround : (Try.prog.stopsHeard : Bool) = true := by kernel_rfl
theorem jf25_fnExactCutAround : (Try.prog.mayEnter : Bool) = true := by kernel_rfl
theorem jf26_fnExactCutAround : ((Rows.fnExactCutAroundRow.lifted == Try.prog.liftsFinal) : Bool) = true := by kernel_rfl
theorem jf27_fnExactCutAround : ((Try.prog.make == some Rows.fnExactCutAroundRow.make) : Bool) = true := by kernel_rfl
theorem jf28_fnExactCutAround : ((Rows.fnExactCutAroundRow.kinds == (if Rows.fnExactCutAroundRow.domain.isEmpty then [] else Try.f6.params.toList.map fun t => match Try.prog.underlying t with | some (.int k) => some k | _ => none)) : Bool) = true := by kernel_rfl
theorem jf29_fnExactCutAround : ((Rows.fnExactCutAroundRow.pinned == Rows.fnExactCutAroundRow.pinnedBy) : Bool) = true := by kernel_rfl
theorem jf30_fnExactCutAround : ((Rows.fnExactCutAroundRow.veiled == (Try.f6.params.toList ++ Rows.fnExactCutAroundSpec.plain.varTypes Try.prog ++ Try.f6.resultTypes.toList).any (Try.prog.veiledRec ·)) : Bool) = true := by kernel_rfl
theorem jf31_fnExactCutAround : (Rows.fnExactCutAroundRow.veiledFits Try.prog Try.f6.params.toList (Try.f6.params.toList ++ Rows.fnExactCutAroundSpec.plain.varTypes Try.prog ++ Try.f6.resultTypes.toList) : Bool) = true := by kernel_rfl
set_option maxRecDepth 100000 in
theorem facts_fnExactCutAround : joinedFacts Try.prog 6 Try.f6 Rows.fnExactCutAroundSpec Rows.fnExactCutAroundRow = true := by unfold joinedFacts; exact (and_mk_fnExactCutAround (and_mk_fnExactCutAround (and_mk_fnExactCutAround (and_mk_fnExactCutAround (and_mk_fnExactCutAround (and_mk_fnExactCutAround (and_mk_fnExactCutAround (and_mk_fnExactCutAround (and_mk_fnExactCutAround (and_mk_fnExactCutAround (and_mk_fnExactCutAround (and_mk_fnExactCutAround (and_mk_fnExactCutAround (and_mk_fnExactCutAround (and_mk_fnExactCutAround (and_mk_fnExactCutAround (and_mk_fnExactCutAround (and_mk_fnExactCutAround (and_mk_fnExactCutAround (and_mk_fnExactCutAround (and_mk_fnExactCutAround (and_mk_fnExactCutAround (and_mk_fnExactCutAround (and_mk_fnExactCutAround (and_mk_fnExactCutAround (and_mk_fnExactCutAround (and_mk_fnExactCutAround (and_mk_fnExactCutAround (and_mk_fnExactCutAround (and_mk_fnExactCutAround (and_mk_fnExactCutAround jf0_fnExactCutAround jf1_fnExactCutAround) jf2_fnExactCutAround) jf3_fnExactCutAround) jf4_fnExactCutAround) jf5_fnExactCutAround) jf6_fnExactCutAround) jf7_fnExactCutAround) jf8_fnExactCutAround) jf9_fnExactCutAround) jf10_fnExactCutAround) jf11_fnExactCutAround) jf12_fnExactCutAround) jf13_fnExactCutAround) jf14_fnExactCutAround) jf15_fnExactCutAround) jf16_fnExactCutAround) jf17_fnExactCutAround) jf18_fnExactCutAround) jf19_fnExactCutAround) jf20_fnExactCutAround) jf21_fnExactCutAround) jf22_fnExactCutAround) jf23_fnExactCutAround) jf24_fnExactCutAround) jf25_fnExactCutAround) jf26_fnExactCutAround) jf27_fnExactCutAround) jf28_fnExactCutAround) jf29_fnExactCutAround) jf30_fnExactCutAround) jf31_fnExactCutAround)
def v83 (e : GEvent) : List Value := [.int .i64 e.Thread, .int .i64 e.Kind, .int .i64 e.Obj, .int .i64 e.Lock, .int .i64 e.Pc]
instance : Inhabited GEvent := ⟨⟨0, 0, 0, 0, 0⟩⟩
set_option maxRecDepth 100000 in
theorem v83_el {H : Type} {enc : TypeId × Value → H} {w : World} (fuel : Nat) (cs : List Value) (x : DataW H × List MemPlace) (h : DataW.trod enc Try.prog w 0 (fun _ => true) true fuel 83 cs = some x) : ∃ a, cs = v83 a := by
  obtain ⟨xs, n, _, _, hlc, hlx, hf⟩ := DataW.trod_struct (tiOf_und ty83) h
  have h5 : Try.prog.cellsOf 83 = 5 := by kernel_rfl
  have h1_3 : Try.prog.cellsOf 3 = 1 := by kernel_rfl
  rw [h5] at hlc
  have hx : ∀ i, i < 5 → xs[i]? = some (xs[i]?.getD default) := fun i hi => by
    have : i < xs.length := by rw [hlx]; exact hi
    simp [this]
  have f0 : DataW.trod enc Try.prog w 0 (fun _ => true) true n 3 ((cs.drop 0).take (Try.prog.cellsOf 3)) = xs[0]? := hf 0 _ rfl
  have f1 : DataW.trod enc Try.prog w 0 (fun _ => true) true n 3 ((cs.drop 1).take (Try.prog.cellsOf 3)) = xs[1]? := hf 1 _ rfl
  have f2 : DataW.trod enc Try.prog w 0 (fun _ => true) true n 3 ((cs.drop 2).take (Try.prog.cellsOf 3)) = xs[2]? := hf 2 _ rfl
  have f3 : DataW.trod enc Try.prog w 0 (fun _ => true) true n 3 ((cs.drop 3).take (Try.prog.cellsOf 3)) = xs[3]? := hf 3 _ rfl
  have f4 : DataW.trod enc Try.prog w 0 (fun _ => true) true n 3 ((cs.drop 4).take (Try.prog.cellsOf 3)) = xs[4]? := hf 4 _ rfl
  rw [hx _ (by omega)] at f0 f1 f2 f3 f4
  rw [h1_3] at f0
  rw [h1_3] at f1
  rw [h1_3] at f2
  rw [h1_3] at f3
  rw [h1_3] at f4
  obtain ⟨n0, e0, _⟩ := DataW.trod_int (tiOf_und ty3) f0
  obtain ⟨n1, e1, _⟩ := DataW.trod_int (tiOf_und ty3) f1
  obtain ⟨n2, e2, _⟩ := DataW.trod_int (tiOf_und ty3) f2
  obtain ⟨n3, e3, _⟩ := DataW.trod_int (tiOf_und ty3) f3
  obtain ⟨n4, e4, _⟩ := DataW.trod_int (tiOf_und ty3) f4
  match cs, hlc with
  | [c0, c1, c2, c3, c4], _ =>
    simp at e0 e1 e2 e3 e4
    subst e0 e1 e2 e3 e4
    exact ⟨⟨n0, n1, n2, n3, n4⟩, rfl⟩
set_option maxRecDepth 100000 in
theorem lifted (os : Os) (started : os.Started) (H : Type) (enc : TypeId × Value → H) :
    ReturnsInHanded {} Try.checked os 6 .any (Rows.fnExactCutAroundSpec.pre6 enc Try.prog Try.f6 Rows.fnExactCutAroundRow.domain false) (Rows.fnExactCutAroundSpec.post enc Try.prog Try.f6 false true false false) := by
  refine returnsInHanded_of_change (C := Try.checked) own_knob started (by kernel_rfl) Try.func6
    (ChangeSpec.witness6 (enc := enc) (C := Try.checked) false ⟨#[], #[.slice none 0 0, .int .i64 0], []⟩ 8 (by kernel_rfl) (by kernel_rfl) (by kernel_rfl) (by kernel_rfl)) ?_
  intro W base args ds gs before hval0 hW hcnd _
  have hval : ∀ (j : Nat) t v, Try.f6.params[j]? = some t → args[j]? = some v → Value.okWide Try.prog W .any base t v := hval0
  have hW' := hW
  obtain ⟨p, q, hA0, hV, rfl, hfz, hnd⟩ := hW
  have hA : DataW.TrodAll enc Try.prog W 0 (fun _ => true) true Try.f6.params.toList args.toList ds p := hA0
  rw [Try.params6] at hA hval
  obtain ⟨v0, vs0, d0, ds0, p0, q0, hargs, rfl, rfl, h0, r0⟩ := trodAll_cons hA
  obtain ⟨v1, vs1, d1, ds1, p1, q1, rfl, rfl, rfl, h1, r1⟩ := trodAll_cons r0
  obtain ⟨rfl, rfl, rfl⟩ := trodAll_nil r1
  obtain rfl : args = #[v0, v1] := by cases args; simp_all
  obtain ⟨rfl, rfl⟩ := trodVars_none hV
  have k0 := h0
  have lt0 : ∀ x ∈ p0, x.block < W.heap.size := by obtain ⟨m, hm⟩ := k0; exact DataW.trod_lt m _ _ _ hm
  have k1 := h1
  have lt1 : ∀ x ∈ p1, x.block < W.heap.size := by obtain ⟨m, hm⟩ := k1; exact DataW.trod_lt m _ _ _ hm
  have hok0 := okWide_slice (tiOf_und ty31) (hval 0 _ v0 rfl rfl)
  obtain ⟨x0, hl0, rep0⟩ := open_rows v83 (tiOf_und ty31) (sz := 5) (by kernel_rfl) (by decide) (fun _ => rfl) (fun x u hu => by simp [v83] at hu; rcases hu with rfl | rfl | rfl | rfl | rfl <;> rfl) v83_el h0 hok0
  obtain ⟨x1, e1, _, _, wf1⟩ := open_int (tiOf_und ty3) (hval 1 _ v1 rfl rfl) k1
  subst e1
  have rep1 : rep W (fun b => b < W.heap.size) (.lit (.int .i64 x1)) (.int .i64 x1) [] := by simp [rep]
  have hm := (laws_FnExactCutAround_m (law_CutAround x0 x1 hl0 wf1)).2 W (fun b => b < W.heap.size) [v0, (.int .i64 x1)] (by simp only [repL]; exact ⟨_, _, [], [], rfl, rfl, rep0, ⟨_, [], [], [], rfl, rfl, rep1, rfl, rfl⟩⟩) (fun _ h => h)
  clear hA0 hval0
  refine hm.mono fun e W' ⟨v, fp, he, bel, hr, _⟩ => ?_
  subst he
  obtain rfl : v = .bool true := by simp only [rep] at hr; exact hr.2
  exact ⟨_, rfl, _, _, _, [], _, [], hW', trodAll_mk1 (shut_bool (tiOf_und ty4) _), (trodAll_cons_mk (Below.trod laid_out (by kernel_rfl) (of_decide_eq_true (by kernel_rfl)) k0 bel lt0) (trodAll_cons_mk (Below.trod laid_out (by kernel_rfl) (of_decide_eq_true (by kernel_rfl)) k1 bel lt1) trodAll_mk0)), rfl, bel.frame _, fun h => by cases h⟩
theorem named : Try.prog.funcNamed Rows.fnExactCutAroundRow.func = some 6 := by kernel_rfl
theorem fnExactCutAround_proved : Rows.FnExactCutAroundSaid :=
  OpenClaim.holds_of_wide 6 Try.f6 rfl rfl rfl rfl rfl rfl rfl ⟨rfl, rfl, rfl, rfl, rfl⟩ rfl rfl rfl rfl rfl named Try.func6 facts_fnExactCutAround
    (of_decide_eq_true (by kernel_rfl)) (by unfold Func.isWrapper; first | (rw [if_pos (by decide +kernel)]; kernel_rfl) | (rw [if_neg (by decide +kernel)]; exact ⟨rfl, rfl⟩))
    (fun os started H enc _ => lifted os started H enc)
end Go.Proofs.Ytefcdjocfjpjgaa
