/- The program's RunThreads returns what the reference's returns, for all arguments; no condition. -/

import Derived.Test.YtjcaompblpglcaaGreatTW
import Derived.Test.YtjcaompblpglcaaGreatRT
import Derived.Test.YtjcaompblpglcaaGreatRows
import Derived.WalkKit
import Derived.ProofKit
import Derived.OpenShut
import Derived.ShutString
import Derived.ChangeOld
import Derived.Below
set_option linter.unusedVariables false
namespace Go.Proofs.YtjcaompblpglcaaGreat
open Go Go.T
open Go.ChangeShapes Go.WideShapes Go.ChangeAt Go.RowKit
open Go.ChangeMaps (open_string shut_string)
theorem own_knob : ownKnob Tryz.prog.godebug = none := by kernel_rfl
theorem laid_out : laidOutB Tryz.prog = true := by kernel_rfl
theorem and_mk_fnExactRunThreads {a b : Bool} (h : a = true) (k : b = true) : (a && b) = true := by rw [h, k]; rfl
theorem jf0_fnExactRunThreads : (Rows.fnExactRunThreadsRow.wf (OpenSpec.ofChange Rows.fnExactRunThreadsSpec) : Bool) = true := by kernel_rfl
theorem jf1_fnExactRunThreads : (laidOutB Tryz.prog : Bool) = true := by kernel_rfl
theorem jf2_fnExactRunThreads : (mapsRowed Tryz.prog : Bool) = true := by kernel_rfl
theorem jf3_fnExactRunThreads : (Tryz.f6.params.all (Tryz.prog.readableRec ·) : Bool) = true := by kernel_rfl
theorem jf4_fnExactRunThreads : (namedTie Tryz.prog Rows.fnExactRunThreadsRow.named Rows.fnExactRunThreadsSpec.vars : Bool) = true := by kernel_rfl
theorem jf5_fnExactRunThreads : ((Rows.fnExactRunThreadsRow.stops == []) : Bool) = true := by kernel_rfl
theorem jf6_fnExactRunThreads : ((Tryz.prog.stops == []) : Bool) = true := by kernel_rfl
theorem jf7_fnExactRunThreads : ((Rows.fnExactRunThreadsRow.knobs == []) : Bool) = true := by kernel_rfl
theorem jf8_fnExactRunThreads : ((Tryz.prog.stopKnobs == []) : Bool) = true := by kernel_rfl
theorem jf9_fnExactRunThreads : ((Rows.fnExactRunThreadsRow.inPlace == Tryz.prog.inPlace 6) : Bool) = true := by kernel_rfl
theorem jf10_fnExactRunThreads : ((Rows.fnExactRunThreadsRow.unfollowed == Tryz.prog.unfollowed 6) : Bool) = true := by kernel_rfl
theorem jf11_fnExactRunThreads : ((Rows.fnExactRunThreadsRow.recurses == Tryz.prog.recurses 6) : Bool) = true := by kernel_rfl
theorem jf12_fnExactRunThreads : ((Rows.fnExactRunThreadsRow.named == Tryz.prog.varsNamed 6) : Bool) = true := by kernel_rfl
theorem jf13_fnExactRunThreads : ((Rows.fnExactRunThreadsRow.maps == (Tryz.f6.params.toList ++ Rows.fnExactRunThreadsSpec.plain.varTypes Tryz.prog).any (Tryz.prog.mapsRec ·)) : Bool) = true := by kernel_rfl
theorem jf14_fnExactRunThreads : ((Rows.fnExactRunThreadsRow.ifaces == (Tryz.f6.params.toList ++ Rows.fnExactRunThreadsSpec.plain.varTypes Tryz.prog).any (Tryz.prog.ifacesRec ·)) : Bool) = true := by kernel_rfl
theorem jf15_fnExactRunThreads : ((Rows.fnExactRunThreadsRow.mapsOut == Tryz.prog.mapsAmong Tryz.f6.resultTypes.toList) : Bool) = true := by kernel_rfl
theorem jf16_fnExactRunThreads : ((Rows.fnExactRunThreadsRow.loops == (Tryz.f6.params.toList ++ Rows.fnExactRunThreadsSpec.plain.varTypes Tryz.prog).any (Tryz.prog.loopsFrom ·)) : Bool) = true := by kernel_rfl
theorem jf17_fnExactRunThreads : ((Rows.fnExactRunThreadsRow.wideKeys == (Tryz.f6.params.toList ++ Rows.fnExactRunThreadsSpec.plain.varTypes Tryz.prog ++ Tryz.f6.resultTypes.toList).any (Tryz.prog.wideKeysFrom ·)) : Bool) = true := by kernel_rfl
theorem jf18_fnExactRunThreads : (Rows.fnExactRunThreadsSpec.vars.all (Tryz.prog.varReadable ·) : Bool) = true := by kernel_rfl
theorem jf19_fnExactRunThreads : (Tryz.f6.resultTypes.all (fun t => Tryz.prog.readableRec t && decide (t < Tryz.prog.types.size)) : Bool) = true := by kernel_rfl
theorem jf20_fnExactRunThreads : ((Rows.fnExactRunThreadsRow.ifacesOut == Tryz.f6.resultTypes.toList.any (Tryz.prog.ifacesRec ·)) : Bool) = true := by kernel_rfl
theorem jf21_fnExactRunThreads : ((Rows.fnExactRunThreadsRow.loopsOut == Tryz.f6.resultTypes.toList.any (Tryz.prog.loopsFrom ·)) : Bool) = true := by kernel_rfl
theorem jf22_fnExactRunThreads : ((Rows.fnExactRunThreadsRow.plainKeys == Tryz.prog.plainKeys) : Bool) = true := by kernel_rfl
theorem jf23_fnExactRunThreads : (Rows.fnExactRunThreadsRow.shortTexts.isNone : Bool) = true := by kernel_rfl
theorem jf24_fnExactRunThreads : (Tryz.prog.stopsHeard : Bool) = true := by kernel_rfl
theorem jf25_fnExactRunThreads : (Tryz.prog.mayEnter : Bool) = true := by kernel_rfl
theorem jf26_fnExactRunThreads : ((Rows.fnExactRunThreadsRow.lifted == Tryz.prog.liftsFinal) : Bool) = true := by kernel_rfl
theorem jf27_fnExactRunThreads : ((Tryz.prog.make == some Rows.fnExactRunThreadsRow.make) : Bool) = true := by kernel_rfl
theorem jf28_fnExactRunThreads : ((Rows.fnExactRunThreadsRow.kinds == (if Rows.fnExactRunThreadsRow.domain.isEmpty then [] else Tryz.f6.params.toList.map fun t => match Tryz.prog.underlying t with | some (.int k) => some k | _ => none)) : Bool) = true := by kernel_rfl
theorem jf29_fnExactRunThreads : ((Rows.fnExactRunThreadsRow.pinned == Rows.fnExactRunThreadsRow.pinnedBy) : Bool) = true := by kernel_rfl
theorem jf30_fnExactRunThreads : ((Rows.fnExactRunThreadsRow.veiled == (Tryz.f6.params.toList ++ Rows.fnExactRunThreadsSpec.plain.varTypes Tryz.prog ++ Tryz.f6.resultTypes.toList).any (Tryz.prog.veiledRec ·)) : Bool) = true := by kernel_rfl
theorem jf31_fnExactRunThreads : (Rows.fnExactRunThreadsRow.veiledFits Tryz.prog Tryz.f6.params.toList (Tryz.f6.params.toList ++ Rows.fnExactRunThreadsSpec.plain.varTypes Tryz.prog ++ Tryz.f6.resultTypes.toList) : Bool) = true := by kernel_rfl
set_option maxRecDepth 100000 in
theorem facts_fnExactRunThreads : joinedFacts Tryz.prog 6 Tryz.f6 Rows.fnExactRunThreadsSpec Rows.fnExactRunThreadsRow = true := by unfold joinedFacts; exact (and_mk_fnExactRunThreads (and_mk_fnExactRunThreads (and_mk_fnExactRunThreads (and_mk_fnExactRunThreads (and_mk_fnExactRunThreads (and_mk_fnExactRunThreads (and_mk_fnExactRunThreads (and_mk_fnExactRunThreads (and_mk_fnExactRunThreads (and_mk_fnExactRunThreads (and_mk_fnExactRunThreads (and_mk_fnExactRunThreads (and_mk_fnExactRunThreads (and_mk_fnExactRunThreads (and_mk_fnExactRunThreads (and_mk_fnExactRunThreads (and_mk_fnExactRunThreads (and_mk_fnExactRunThreads (and_mk_fnExactRunThreads (and_mk_fnExactRunThreads (and_mk_fnExactRunThreads (and_mk_fnExactRunThreads (and_mk_fnExactRunThreads (and_mk_fnExactRunThreads (and_mk_fnExactRunThreads (and_mk_fnExactRunThreads (and_mk_fnExactRunThreads (and_mk_fnExactRunThreads (and_mk_fnExactRunThreads (and_mk_fnExactRunThreads (and_mk_fnExactRunThreads jf0_fnExactRunThreads jf1_fnExactRunThreads) jf2_fnExactRunThreads) jf3_fnExactRunThreads) jf4_fnExactRunThreads) jf5_fnExactRunThreads) jf6_fnExactRunThreads) jf7_fnExactRunThreads) jf8_fnExactRunThreads) jf9_fnExactRunThreads) jf10_fnExactRunThreads) jf11_fnExactRunThreads) jf12_fnExactRunThreads) jf13_fnExactRunThreads) jf14_fnExactRunThreads) jf15_fnExactRunThreads) jf16_fnExactRunThreads) jf17_fnExactRunThreads) jf18_fnExactRunThreads) jf19_fnExactRunThreads) jf20_fnExactRunThreads) jf21_fnExactRunThreads) jf22_fnExactRunThreads) jf23_fnExactRunThreads) jf24_fnExactRunThreads) jf25_fnExactRunThreads) jf26_fnExactRunThreads) jf27_fnExactRunThreads) jf28_fnExactRunThreads) jf29_fnExactRunThreads) jf30_fnExactRunThreads) jf31_fnExactRunThreads)
theorem op3 {H : Type} {enc : TypeId × Value → H} {W : World} : Opens enc Tryz.prog W 3 o3 (fun x => (Lit.int .i64 x).wf = true) := (opens_int (tiOf_und ty3)).map id (fun _ => rfl) (fun _ h => h)
theorem op142 {H : Type} {enc : TypeId × Value → H} {W : World} : Opens enc Tryz.prog W 142 o142 (fun x => x < 18446744073709551616) := (opens_float (tiOf_und ty142)).map id (fun _ => rfl) (fun _ h => h)
instance : Inhabited GOp := ⟨⟨0, 0, 0, 0⟩⟩
theorem op213 {H : Type} {enc : TypeId × Value → H} {W : World} : Opens enc Tryz.prog W 213 o213 (fun x => wfGOp x) := by
 have h := opens_struct (enc := enc) (w := W) (tiOf_und ty213) (m := 4) (by kernel_rfl) (L := [(0, 3), (1, 3), (2, 3), (3, 142)]) rfl (opensL_cons (sz := 1) (by kernel_rfl) rfl op3 (opensL_cons (sz := 1) (by kernel_rfl) rfl op3 (opensL_cons (sz := 1) (by kernel_rfl) rfl op3 (opensL_cons (sz := 1) (by kernel_rfl) rfl op142 opensL_nil))))
 exact h.map (fun p => (⟨p.1, p.2.1, p.2.2.1, p.2.2.2.1⟩ : GOp)) (fun _ => rfl) (fun p h => ⟨h.1, h.2.1, h.2.2.1, h.2.2.2.1⟩)
theorem op167 {H : Type} {enc : TypeId × Value → H} {W : World} : Opens enc Tryz.prog W 167 r167 (fun x => x.length ≤ 9223372036854775807 ∧ ∀ y0 ∈ x, wfGOp y0) := (opens_slice (tiOf_und ty167) (sz := 4) (by kernel_rfl) (by decide) op213).map id (fun _ => rfl) (fun _ h => h)
theorem op22 {H : Type} {enc : TypeId × Value → H} {W : World} : Opens enc Tryz.prog W 22 r22 (fun x => x.length ≤ 9223372036854775807 ∧ ∀ y0 ∈ x, y0.length ≤ 9223372036854775807 ∧ ∀ y1 ∈ y0, wfGOp y1) := (opens_slice (tiOf_und ty22) (sz := 1) (by kernel_rfl) (by decide) op167).map id (fun _ => rfl) (fun _ h => h)
instance : Inhabited GProg := ⟨⟨0, 0, 0, []⟩⟩
theorem op24 {H : Type} {enc : TypeId × Value → H} {W : World} : Opens enc Tryz.prog W 24 r24 (fun x => wfGProg x) := by
 have h := opens_struct (enc := enc) (w := W) (tiOf_und ty24) (m := 4) (by kernel_rfl) (L := [(0, 3), (1, 3), (2, 3), (3, 22)]) rfl (opensL_cons (sz := 1) (by kernel_rfl) rfl op3 (opensL_cons (sz := 1) (by kernel_rfl) rfl op3 (opensL_cons (sz := 1) (by kernel_rfl) rfl op3 (opensL_cons (sz := 1) (by kernel_rfl) rfl op22 opensL_nil))))
 exact h.map (fun p => (⟨p.1, p.2.1, p.2.2.1, p.2.2.2.1⟩ : GProg)) (fun _ => rfl) (fun p h => ⟨h.1, h.2.1, h.2.2.1, h.2.2.2.1⟩)
theorem op51 {H : Type} {enc : TypeId × Value → H} {W : World} : Opens enc Tryz.prog W 51 r51 (fun x => x.length ≤ 9223372036854775807 ∧ ∀ y0 ∈ x, (Lit.int .i64 y0).wf = true) := (opens_slice (tiOf_und ty51) (sz := 1) (by kernel_rfl) (by decide) op3).map id (fun _ => rfl) (fun _ h => h)
set_option maxRecDepth 100000 in
theorem lifted (os : Os) (started : os.Started) (H : Type) (enc : TypeId × Value → H) :
  ReturnsInHanded {} Tryz.checked os 6 .any (Rows.fnExactRunThreadsSpec.pre6 enc Tryz.prog Tryz.f6 Rows.fnExactRunThreadsRow.domain false) (Rows.fnExactRunThreadsSpec.post enc Tryz.prog Tryz.f6 false true false false) := by
 refine returnsInHanded_of_change (C := Tryz.checked) own_knob started (by kernel_rfl) Tryz.func6
  (ChangeSpec.witness6 (enc := enc) (C := Tryz.checked) false ⟨#[], #[.agg #[.int .i64 0, .int .i64 0, .int .i64 0, .slice none 0 0], .slice none 0 0], []⟩ 8 (by kernel_rfl) (by kernel_rfl) (by kernel_rfl) (by kernel_rfl)) ?_
 intro W base args ds gs before hval0 hW hcnd _
 have hval : ∀ (j : Nat) t v, Tryz.f6.params[j]? = some t → args[j]? = some v → Value.okWide Tryz.prog W .any base t v := hval0
 have hW' := hW
 obtain ⟨p, q, hA0, hV, rfl, hfz, hnd⟩ := hW
 have hA : DataW.TrodAll enc Tryz.prog W 0 (fun _ => true) true Tryz.f6.params.toList args.toList ds p := hA0
 rw [Tryz.params6] at hA hval
 obtain ⟨v0, vs0, d0, ds0, p0, q0, hargs, rfl, rfl, h0, r0⟩ := trodAll_cons hA
 obtain ⟨v1, vs1, d1, ds1, p1, q1, rfl, rfl, rfl, h1, r1⟩ := trodAll_cons r0
 obtain ⟨rfl, rfl, rfl⟩ := trodAll_nil r1
 obtain rfl : args = #[v0, v1] := by cases args; simp_all
 obtain ⟨rfl, rfl⟩ := trodVars_none hV
 have k0 := h0
 have lt0 : ∀ x ∈ p0, x.block < W.heap.size := by obtain ⟨m, hm⟩ := k0; exact DataW.trod_lt m _ _ _ hm
 have k1 := h1
 have lt1 : ∀ x ∈ p1, x.block < W.heap.size := by obtain ⟨m, hm⟩ := k1; exact DataW.trod_lt m _ _ _ hm
 obtain ⟨x0, g0, rep0⟩ := open_agg op24 h0 (okWide_struct (tiOf_und ty24) (hval 0 _ v0 rfl rfl))
 obtain ⟨x1, g1, rep1⟩ := open_slc (f := fun (x : (List Int)) => AV.ro 1 (x.map o3)) op51 h1 (okWide_slice (tiOf_und ty51) (hval 1 _ v1 rfl rfl))
 have hm := (laws_FnExactRunThreads_m (law_RunThreads x0 x1 g0 g1.1)).2 W (fun b => b < W.heap.size) [v0, v1] (by simp only [repL]; exact ⟨_, _, [], [], rfl, rfl, rep0, ⟨_, [], [], [], rfl, rfl, rep1, rfl, rfl⟩⟩) (fun _ h => h)
 clear hA0 hval0
 refine hm.mono fun e W' ⟨v, fp, he, bel, _, hr, _⟩ => ?_
 subst he
 obtain rfl : v = .bool true := by simp only [rep] at hr; exact hr.2
 exact ⟨_, rfl, _, _, _, [], _, [], hW', trodAll_mk1 (shut_bool (tiOf_und ty4) _), (trodAll_cons_mk (Below.trod laid_out (by kernel_rfl) (of_decide_eq_true (by kernel_rfl)) k0 bel lt0) (trodAll_cons_mk (Below.trod laid_out (by kernel_rfl) (of_decide_eq_true (by kernel_rfl)) k1 bel lt1) trodAll_mk0)), rfl, bel.frame _, fun h => by cases h⟩
theorem named : Tryz.prog.funcNamed Rows.fnExactRunThreadsRow.func = some 6 := by kernel_rfl
theorem fnExactRunThreads_proved : Rows.FnExactRunThreadsSaid :=
 OpenClaim.holds_of_wide 6 Tryz.f6 rfl rfl rfl rfl rfl rfl rfl ⟨rfl, rfl, rfl, rfl, rfl⟩ rfl rfl rfl rfl rfl named Tryz.func6 facts_fnExactRunThreads
  (of_decide_eq_true (by kernel_rfl)) (by unfold Func.isWrapper; first | (rw [if_pos (by decide +kernel)]; kernel_rfl) | (rw [if_neg (by decide +kernel)]; exact ⟨rfl, rfl⟩))
  (fun os started H enc _ => lifted os started H enc)
end Go.Proofs.YtjcaompblpglcaaGreat
