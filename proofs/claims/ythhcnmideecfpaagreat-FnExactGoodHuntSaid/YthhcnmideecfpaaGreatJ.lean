/- The program's GoodHunt returns what the reference's returns, for all arguments; no condition. -/

import Derived.Test.YthhcnmideecfpaaGreatTX
import Derived.Test.YthhcnmideecfpaaGreatGH
import Derived.Test.YthhcnmideecfpaaGreatRows
import Derived.WalkKit
import Derived.ProofKit
import Derived.OpenShut
import Derived.ShutString
import Derived.ChangeOld
import Derived.Below
set_option linter.unusedVariables false
namespace Go.Proofs.YthhcnmideecfpaaGreat
open Go Go.T
open Go.ChangeShapes Go.WideShapes Go.ChangeAt Go.RowKit
open Go.ChangeMaps (open_string shut_string)

theorem own_knob : ownKnob Tryz.prog.godebug = none := by kernel_rfl
theorem laid_out : laidOutB Tryz.prog = true := by kernel_rfl
theorem and_mk_fnExactGoodHunt {a b : Bool} (h : a = true) (k : b = true) : (a && b) = true := by rw [h, k]; rfl
theorem jf0_fnExactGoodHunt : (Rows.fnExactGoodHuntRow.wf (OpenSpec.ofChange Rows.fnExactGoodHuntSpec) : Bool) = true := by kernel_rfl
theorem jf1_fnExactGoodHunt : (laidOutB Tryz.prog : Bool) = true := by kernel_rfl
theorem jf2_fnExactGoodHunt : (mapsRowed Tryz.prog : Bool) = true := by kernel_rfl
theorem jf3_fnExactGoodHunt : (Tryz.f3.params.all (Tryz.prog.readableRec ·) : Bool) = true := by kernel_rfl
theorem jf4_fnExactGoodHunt : (namedTie Tryz.prog Rows.fnExactGoodHuntRow.named Rows.fnExactGoodHuntSpec.vars : Bool) = true := by kernel_rfl
theorem jf5_fnExactGoodHunt : ((Rows.fnExactGoodHuntRow.stops == []) : Bool) = true := by kernel_rfl
theorem jf6_fnExactGoodHunt : ((Tryz.prog.stops == []) : Bool) = true := by kernel_rfl
theorem jf7_fnExactGoodHunt : ((Rows.fnExactGoodHuntRow.knobs == []) : Bool) = true := by kernel_rfl
theorem jf8_fnExactGoodHunt : ((Tryz.prog.stopKnobs == []) : Bool) = true := by kernel_rfl
theorem jf9_fnExactGoodHunt : ((Rows.fnExactGoodHuntRow.inPlace == Tryz.prog.inPlace 3) : Bool) = true := by kernel_rfl
theorem jf10_fnExactGoodHunt : ((Rows.fnExactGoodHuntRow.unfollowed == Tryz.prog.unfollowed 3) : Bool) = true := by kernel_rfl
theorem jf11_fnExactGoodHunt : ((Rows.fnExactGoodHuntRow.recurses == Tryz.prog.recurses 3) : Bool) = true := by kernel_rfl
theorem jf12_fnExactGoodHunt : ((Rows.fnExactGoodHuntRow.named == Tryz.prog.varsNamed 3) : Bool) = true := by kernel_rfl
theorem jf13_fnExactGoodHunt : ((Rows.fnExactGoodHuntRow.maps == (Tryz.f3.params.toList ++ Rows.fnExactGoodHuntSpec.plain.varTypes Tryz.prog).any (Tryz.prog.mapsRec ·)) : Bool) = true := by kernel_rfl
theorem jf14_fnExactGoodHunt : ((Rows.fnExactGoodHuntRow.ifaces == (Tryz.f3.params.toList ++ Rows.fnExactGoodHuntSpec.plain.varTypes Tryz.prog).any (Tryz.prog.ifacesRec ·)) : Bool) = true := by kernel_rfl
theorem jf15_fnExactGoodHunt : ((Rows.fnExactGoodHuntRow.mapsOut == Tryz.prog.mapsAmong Tryz.f3.resultTypes.toList) : Bool) = true := by kernel_rfl
theorem jf16_fnExactGoodHunt : ((Rows.fnExactGoodHuntRow.loops == (Tryz.f3.params.toList ++ Rows.fnExactGoodHuntSpec.plain.varTypes Tryz.prog).any (Tryz.prog.loopsFrom ·)) : Bool) = true := by kernel_rfl
theorem jf17_fnExactGoodHunt : ((Rows.fnExactGoodHuntRow.wideKeys == (Tryz.f3.params.toList ++ Rows.fnExactGoodHuntSpec.plain.varTypes Tryz.prog ++ Tryz.f3.resultTypes.toList).any (Tryz.prog.wideKeysFrom ·)) : Bool) = true := by kernel_rfl
theorem jf18_fnExactGoodHunt : (Rows.fnExactGoodHuntSpec.vars.all (Tryz.prog.varReadable ·) : Bool) = true := by kernel_rfl
theorem jf19_fnExactGoodHunt : (Tryz.f3.resultTypes.all (fun t => Tryz.prog.readableRec t && decide (t < Tryz.prog.types.size)) : Bool) = true := by kernel_rfl
theorem jf20_fnExactGoodHunt : ((Rows.fnExactGoodHuntRow.ifacesOut == Tryz.f3.resultTypes.toList.any (Tryz.prog.ifacesRec ·)) : Bool) = true := by kernel_rfl
theorem jf21_fnExactGoodHunt : ((Rows.fnExactGoodHuntRow.loopsOut == Tryz.f3.resultTypes.toList.any (Tryz.prog.loopsFrom ·)) : Bool) = true := by kernel_rfl
theorem jf22_fnExactGoodHunt : ((Rows.fnExactGoodHuntRow.plainKeys == Tryz.prog.plainKeys) : Bool) = true := by kernel_rfl
theorem jf23_fnExactGoodHunt : (Rows.fnExactGoodHuntRow.shortTexts.isNone : Bool) = true := by kernel_rfl
theorem jf24_fnExactGoodHunt : (Tryz.prog.stopsHeard : Bool) = true := by kernel_rfl
theorem jf25_fnExactGoodHunt : (Tryz.prog.mayEnter : Bool) = true := by kernel_rfl
theorem jf26_fnExactGoodHunt : ((Rows.fnExactGoodHuntRow.lifted == Tryz.prog.liftsFinal) : Bool) = true := by kernel_rfl
theorem jf27_fnExactGoodHunt : ((Tryz.prog.make == some Rows.fnExactGoodHuntRow.make) : Bool) = true := by kernel_rfl
theorem jf28_fnExactGoodHunt : ((Rows.fnExactGoodHuntRow.kinds == (if Rows.fnExactGoodHuntRow.domain.isEmpty then [] else Tryz.f3.params.toList.map fun t => match Tryz.prog.underlying t with | some (.int k) => some k | _ => none)) : Bool) = true := by kernel_rfl
theorem jf29_fnExactGoodHunt : ((Rows.fnExactGoodHuntRow.pinned == Rows.fnExactGoodHuntRow.pinnedBy) : Bool) = true := by kernel_rfl
theorem jf30_fnExactGoodHunt : ((Rows.fnExactGoodHuntRow.veiled == (Tryz.f3.params.toList ++ Rows.fnExactGoodHuntSpec.plain.varTypes Tryz.prog ++ Tryz.f3.resultTypes.toList).any (Tryz.prog.veiledRec ·)) : Bool) = true := by kernel_rfl
theorem jf31_fnExactGoodHunt : (Rows.fnExactGoodHuntRow.veiledFits Tryz.prog Tryz.f3.params.toList (Tryz.f3.params.toList ++ Rows.fnExactGoodHuntSpec.plain.varTypes Tryz.prog ++ Tryz.f3.resultTypes.toList) : Bool) = true := by kernel_rfl
set_option maxRecDepth 100000 in
theorem facts_fnExactGoodHunt : joinedFacts Tryz.prog 3 Tryz.f3 Rows.fnExactGoodHuntSpec Rows.fnExactGoodHuntRow = true := by unfold joinedFacts; exact (and_mk_fnExactGoodHunt (and_mk_fnExactGoodHunt (and_mk_fnExactGoodHunt (and_mk_fnExactGoodHunt (and_mk_fnExactGoodHunt (and_mk_fnExactGoodHunt (and_mk_fnExactGoodHunt (and_mk_fnExactGoodHunt (and_mk_fnExactGoodHunt (and_mk_fnExactGoodHunt (and_mk_fnExactGoodHunt (and_mk_fnExactGoodHunt (and_mk_fnExactGoodHunt (and_mk_fnExactGoodHunt (and_mk_fnExactGoodHunt (and_mk_fnExactGoodHunt (and_mk_fnExactGoodHunt (and_mk_fnExactGoodHunt (and_mk_fnExactGoodHunt (and_mk_fnExactGoodHunt (and_mk_fnExactGoodHunt (and_mk_fnExactGoodHunt (and_mk_fnExactGoodHunt (and_mk_fnExactGoodHunt (and_mk_fnExactGoodHunt (and_mk_fnExactGoodHunt (and_mk_fnExactGoodHunt (and_mk_fnExactGoodHunt (and_mk_fnExactGoodHunt (and_mk_fnExactGoodHunt (and_mk_fnExactGoodHunt jf0_fnExactGoodHunt jf1_fnExactGoodHunt) jf2_fnExactGoodHunt) jf3_fnExactGoodHunt) jf4_fnExactGoodHunt) jf5_fnExactGoodHunt) jf6_fnExactGoodHunt) jf7_fnExactGoodHunt) jf8_fnExactGoodHunt) jf9_fnExactGoodHunt) jf10_fnExactGoodHunt) jf11_fnExactGoodHunt) jf12_fnExactGoodHunt) jf13_fnExactGoodHunt) jf14_fnExactGoodHunt) jf15_fnExactGoodHunt) jf16_fnExactGoodHunt) jf17_fnExactGoodHunt) jf18_fnExactGoodHunt) jf19_fnExactGoodHunt) jf20_fnExactGoodHunt) jf21_fnExactGoodHunt) jf22_fnExactGoodHunt) jf23_fnExactGoodHunt) jf24_fnExactGoodHunt) jf25_fnExactGoodHunt) jf26_fnExactGoodHunt) jf27_fnExactGoodHunt) jf28_fnExactGoodHunt) jf29_fnExactGoodHunt) jf30_fnExactGoodHunt) jf31_fnExactGoodHunt)
theorem op3 {H : Type} {enc : TypeId × Value → H} {W : World} : Opens enc Tryz.prog W 3 o3 (fun x => (Lit.int .i64 x).wf = true) := (opens_int (tiOf_und ty3)).map id (fun _ => rfl) (fun _ h => h)
theorem op75 {H : Type} {enc : TypeId × Value → H} {W : World} : Opens enc Tryz.prog W 75 o75 (fun x => x < 18446744073709551616) := (opens_float (tiOf_und ty75)).map id (fun _ => rfl) (fun _ h => h)
instance : Inhabited GOp := ⟨⟨0, 0, 0, 0⟩⟩
theorem op118 {H : Type} {enc : TypeId × Value → H} {W : World} : Opens enc Tryz.prog W 118 o118 (fun x => wfGOp x) := by
  have h := opens_struct (enc := enc) (w := W) (tiOf_und ty118) (m := 4) (by kernel_rfl) (L := [(0, 3), (1, 3), (2, 3), (3, 75)]) rfl (opensL_cons (sz := 1) (by kernel_rfl) rfl op3 (opensL_cons (sz := 1) (by kernel_rfl) rfl op3 (opensL_cons (sz := 1) (by kernel_rfl) rfl op3 (opensL_cons (sz := 1) (by kernel_rfl) rfl op75 opensL_nil))))
  exact h.map (fun p => (⟨p.1, p.2.1, p.2.2.1, p.2.2.2.1⟩ : GOp)) (fun _ => rfl) (fun p h => ⟨h.1, h.2.1, h.2.2.1, h.2.2.2.1⟩)
theorem op104 {H : Type} {enc : TypeId × Value → H} {W : World} : Opens enc Tryz.prog W 104 r104 (fun x => x.length ≤ 9223372036854775807 ∧ ∀ y0 ∈ x, wfGOp y0) := (opens_slice (tiOf_und ty104) (sz := 4) (by kernel_rfl) (by decide) op118).map id (fun _ => rfl) (fun _ h => h)
theorem op22 {H : Type} {enc : TypeId × Value → H} {W : World} : Opens enc Tryz.prog W 22 r22 (fun x => x.length ≤ 9223372036854775807 ∧ ∀ y0 ∈ x, y0.length ≤ 9223372036854775807 ∧ ∀ y1 ∈ y0, wfGOp y1) := (opens_slice (tiOf_und ty22) (sz := 1) (by kernel_rfl) (by decide) op104).map id (fun _ => rfl) (fun _ h => h)
instance : Inhabited GProg := ⟨⟨0, 0, 0, []⟩⟩
theorem op24 {H : Type} {enc : TypeId × Value → H} {W : World} : Opens enc Tryz.prog W 24 r24 (fun x => wfGProg x) := by
  have h := opens_struct (enc := enc) (w := W) (tiOf_und ty24) (m := 4) (by kernel_rfl) (L := [(0, 3), (1, 3), (2, 3), (3, 22)]) rfl (opensL_cons (sz := 1) (by kernel_rfl) rfl op3 (opensL_cons (sz := 1) (by kernel_rfl) rfl op3 (opensL_cons (sz := 1) (by kernel_rfl) rfl op3 (opensL_cons (sz := 1) (by kernel_rfl) rfl op22 opensL_nil))))
  exact h.map (fun p => (⟨p.1, p.2.1, p.2.2.1, p.2.2.2.1⟩ : GProg)) (fun _ => rfl) (fun p h => ⟨h.1, h.2.1, h.2.2.1, h.2.2.2.1⟩)
theorem op47 {H : Type} {enc : TypeId × Value → H} {W : World} : Opens enc Tryz.prog W 47 r47 (fun x => x.length ≤ 9223372036854775807 ∧ ∀ y0 ∈ x, (Lit.int .i64 y0).wf = true) := (opens_slice (tiOf_und ty47) (sz := 1) (by kernel_rfl) (by decide) op3).map id (fun _ => rfl) (fun _ h => h)
instance : Inhabited GPct := ⟨⟨[], []⟩⟩
theorem op70 {H : Type} {enc : TypeId × Value → H} {W : World} : Opens enc Tryz.prog W 70 r70 (fun x => wfGPct x) := by
  have h := opens_struct (enc := enc) (w := W) (tiOf_und ty70) (m := 2) (by kernel_rfl) (L := [(0, 47), (1, 47)]) rfl (opensL_cons (sz := 1) (by kernel_rfl) rfl op47 (opensL_cons (sz := 1) (by kernel_rfl) rfl op47 opensL_nil))
  exact h.map (fun p => (⟨p.1, p.2.1⟩ : GPct)) (fun _ => rfl) (fun p h => ⟨h.1, h.2.1⟩)
theorem op25 {H : Type} {enc : TypeId × Value → H} {W : World} : Opens enc Tryz.prog W 25 r25 (fun x => x.length ≤ 9223372036854775807 ∧ ∀ y0 ∈ x, wfGPct y0) := (opens_slice (tiOf_und ty25) (sz := 2) (by kernel_rfl) (by decide) op70).map id (fun _ => rfl) (fun _ h => h)
instance : Inhabited GPair := ⟨⟨0, 0, 0⟩⟩
theorem op87 {H : Type} {enc : TypeId × Value → H} {W : World} : Opens enc Tryz.prog W 87 o87 (fun x => wfGPair x) := by
  have h := opens_struct (enc := enc) (w := W) (tiOf_und ty87) (m := 3) (by kernel_rfl) (L := [(0, 3), (1, 3), (2, 3)]) rfl (opensL_cons (sz := 1) (by kernel_rfl) rfl op3 (opensL_cons (sz := 1) (by kernel_rfl) rfl op3 (opensL_cons (sz := 1) (by kernel_rfl) rfl op3 opensL_nil)))
  exact h.map (fun p => (⟨p.1, p.2.1, p.2.2.1⟩ : GPair)) (fun _ => rfl) (fun p h => ⟨h.1, h.2.1, h.2.2.1⟩)
theorem op26 {H : Type} {enc : TypeId × Value → H} {W : World} : Opens enc Tryz.prog W 26 r26 (fun x => x.length ≤ 9223372036854775807 ∧ ∀ y0 ∈ x, wfGPair y0) := (opens_slice (tiOf_und ty26) (sz := 3) (by kernel_rfl) (by decide) op87).map id (fun _ => rfl) (fun _ h => h)
theorem op9 {H : Type} {enc : TypeId × Value → H} {W : World} : Opens enc Tryz.prog W 9 o9 (fun x => x.length ≤ 9223372036854775807) := (opens_string (tiOf_und ty9)).map id (fun _ => rfl) (fun _ h => h)
instance : Inhabited GFound := ⟨⟨[], []⟩⟩
theorem op72 {H : Type} {enc : TypeId × Value → H} {W : World} : Opens enc Tryz.prog W 72 r72 (fun x => wfGFound x) := by
  have h := opens_struct (enc := enc) (w := W) (tiOf_und ty72) (m := 2) (by kernel_rfl) (L := [(0, 9), (1, 47)]) rfl (opensL_cons (sz := 1) (by kernel_rfl) rfl op9 (opensL_cons (sz := 1) (by kernel_rfl) rfl op47 opensL_nil))
  exact h.map (fun p => (⟨p.1, p.2.1⟩ : GFound)) (fun _ => rfl) (fun p h => ⟨h.1, h.2.1⟩)
theorem op27 {H : Type} {enc : TypeId × Value → H} {W : World} : Opens enc Tryz.prog W 27 r27 (fun x => x.length ≤ 9223372036854775807 ∧ ∀ y0 ∈ x, wfGFound y0) := (opens_slice (tiOf_und ty27) (sz := 2) (by kernel_rfl) (by decide) op72).map id (fun _ => rfl) (fun _ h => h)
instance : Inhabited GHunt := ⟨⟨default, [], [], [], 0⟩⟩
theorem op29 {H : Type} {enc : TypeId × Value → H} {W : World} : Opens enc Tryz.prog W 29 r29 (fun x => wfGHunt x) := by
  have h := opens_struct (enc := enc) (w := W) (tiOf_und ty29) (m := 8) (by kernel_rfl) (L := [(0, 24), (4, 25), (5, 26), (6, 27), (7, 3)]) rfl (opensL_cons (sz := 4) (by kernel_rfl) rfl op24 (opensL_cons (sz := 1) (by kernel_rfl) rfl op25 (opensL_cons (sz := 1) (by kernel_rfl) rfl op26 (opensL_cons (sz := 1) (by kernel_rfl) rfl op27 (opensL_cons (sz := 1) (by kernel_rfl) rfl op3 opensL_nil)))))
  exact h.map (fun p => (⟨p.1, p.2.1, p.2.2.1, p.2.2.2.1, p.2.2.2.2.1⟩ : GHunt)) (fun _ => rfl) (fun p h => ⟨h.1, h.2.1, h.2.2.1, h.2.2.2.1, h.2.2.2.2.1⟩)
set_option maxRecDepth 100000 in
theorem lifted (os : Os) (started : os.Started) (H : Type) (enc : TypeId × Value → H) :
    ReturnsInHanded {} Tryz.checked os 3 .any (Rows.fnExactGoodHuntSpec.pre6 enc Tryz.prog Tryz.f3 Rows.fnExactGoodHuntRow.domain false) (Rows.fnExactGoodHuntSpec.post enc Tryz.prog Tryz.f3 false true false false) := by
  refine returnsInHanded_of_change (C := Tryz.checked) own_knob started (by kernel_rfl) Tryz.func3
    (ChangeSpec.witness6 (enc := enc) (C := Tryz.checked) false ⟨#[], #[.agg #[.int .i64 0, .int .i64 0, .int .i64 0, .slice none 0 0, .slice none 0 0, .slice none 0 0, .slice none 0 0, .int .i64 0]], []⟩ 8 (by kernel_rfl) (by kernel_rfl) (by kernel_rfl) (by kernel_rfl)) ?_
  intro W base args ds gs before hval0 hW hcnd _
  have hval : ∀ (j : Nat) t v, Tryz.f3.params[j]? = some t → args[j]? = some v → Value.okWide Tryz.prog W .any base t v := hval0
  have hW' := hW
  obtain ⟨p, q, hA0, hV, rfl, hfz, hnd⟩ := hW
  have hA : DataW.TrodAll enc Tryz.prog W 0 (fun _ => true) true Tryz.f3.params.toList args.toList ds p := hA0
  rw [Tryz.params3] at hA hval
  obtain ⟨v0, vs0, d0, ds0, p0, q0, hargs, rfl, rfl, h0, r0⟩ := trodAll_cons hA
  obtain ⟨rfl, rfl, rfl⟩ := trodAll_nil r0
  obtain rfl : args = #[v0] := by cases args; simp_all
  obtain ⟨rfl, rfl⟩ := trodVars_none hV
  have k0 := h0
  have lt0 : ∀ x ∈ p0, x.block < W.heap.size := by obtain ⟨m, hm⟩ := k0; exact DataW.trod_lt m _ _ _ hm
  obtain ⟨x0, g0, rep0⟩ := open_agg op29 h0 (okWide_struct (tiOf_und ty29) (hval 0 _ v0 rfl rfl))
  have hm := (laws_FnExactGoodHunt_m (law_GoodHunt x0 g0)).2 W (fun b => b < W.heap.size) [v0] (by simp only [repL]; exact ⟨_, [], [], [], rfl, rfl, rep0, rfl, rfl⟩) (fun _ h => h)
  clear hA0 hval0
  refine hm.mono fun e W' ⟨v, fp, he, bel, _, hr, _⟩ => ?_
  subst he
  obtain rfl : v = .bool true := by simp only [rep] at hr; exact hr.2
  exact ⟨_, rfl, _, _, _, [], _, [], hW', trodAll_mk1 (shut_bool (tiOf_und ty4) _), (trodAll_cons_mk (Below.trod laid_out (by kernel_rfl) (of_decide_eq_true (by kernel_rfl)) k0 bel lt0) trodAll_mk0), rfl, bel.frame _, fun h => by cases h⟩
theorem named : Tryz.prog.funcNamed Rows.fnExactGoodHuntRow.func = some 3 := by kernel_rfl
theorem fnExactGoodHunt_proved : Rows.FnExactGoodHuntSaid :=
  OpenClaim.holds_of_wide 3 Tryz.f3 rfl rfl rfl rfl rfl rfl rfl ⟨rfl, rfl, rfl, rfl, rfl⟩ rfl rfl rfl rfl rfl named Tryz.func3 facts_fnExactGoodHunt
    (of_decide_eq_true (by kernel_rfl)) (by unfold Func.isWrapper; first | (rw [if_pos (by decide +kernel)]; kernel_rfl) | (rw [if_neg (by decide +kernel)]; exact ⟨rfl, rfl⟩))
    (fun os started H enc _ => lifted os started H enc)
end Go.Proofs.YthhcnmideecfpaaGreat
