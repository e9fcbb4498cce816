/- The program's RunThreads returns what the reference's returns, for all arguments; no condition. -/

import Derived.Test.YtjcaompblpglcaaGreatTW
import Derived.Test.YtjcaompblpglcaaGreatRT
import Derived.Test.YtjcaompblpglcaaGreatRows
import Derived.WalkKit
import Derived.ProofKit
import Derived.OpenShut
import Derived.ShutString
import Derived.ChangeOld
import Derived.Below
set_option linter.unusedVariables false
namespace Go.Proofs.YtjcaompblpglcaaGreat
open Go Go.T
open Go.ChangeShapes Go.WideShapes Go.ChangeAt Go.RowKit
open Go.ChangeMaps (open_string shut_string)
theorem Xfn : ownKnob Tryz.prog.godebug = none := by kernel_rfl
theorem Qzz : laidOutB Tryz.prog = true := by kernel_rfl
theorem Qa3 {a b : Bool} (h : a = true) (k : b = true) : (a && b) = true := by rw [h, k]; rfl
theorem Qmh : (Rows.fnExactRunThreadsRow.wf (OpenSpec.ofChange Rows.fnExactRunThreadsSpec) : Bool) = true := by kernel_rfl
theorem Qml : (laidOutB Tryz.prog : Bool) = true := by kernel_rfl
theorem Qmn : (mapsRowed Tryz.prog : Bool) = true := by kernel_rfl
theorem Qmy : (Tryz.f6.params.all (Tryz.prog.readableRec ·) : Bool) = true := by kernel_rfl
theorem Qmk : (namedTie Tryz.prog Rows.fnExactRunThreadsRow.named Rows.fnExactRunThreadsSpec.vars : Bool) = true := by kernel_rfl
theorem Qnb : ((Rows.fnExactRunThreadsRow.stops == []) : Bool) = true := by kernel_rfl
theorem Qmm : ((Tryz.prog.stops == []) : Bool) = true := by kernel_rfl
theorem Qn2 : ((Rows.fnExactRunThreadsRow.knobs == []) : Bool) = true := by kernel_rfl
theorem Qmg : ((Tryz.prog.stopKnobs == []) : Bool) = true := by kernel_rfl
theorem Qmw : ((Rows.fnExactRunThreadsRow.inPlace == Tryz.prog.inPlace 6) : Bool) = true := by kernel_rfl
theorem Qm9 : ((Rows.fnExactRunThreadsRow.unfollowed == Tryz.prog.unfollowed 6) : Bool) = true := by kernel_rfl
theorem Qmb : ((Rows.fnExactRunThreadsRow.recurses == Tryz.prog.recurses 6) : Bool) = true := by kernel_rfl
theorem Qm7 : ((Rows.fnExactRunThreadsRow.named == Tryz.prog.varsNamed 6) : Bool) = true := by kernel_rfl
theorem Qlr : ((Rows.fnExactRunThreadsRow.maps == (Tryz.f6.params.toList ++ Rows.fnExactRunThreadsSpec.plain.varTypes Tryz.prog).any (Tryz.prog.mapsRec ·)) : Bool) = true := by kernel_rfl
theorem Qme : ((Rows.fnExactRunThreadsRow.ifaces == (Tryz.f6.params.toList ++ Rows.fnExactRunThreadsSpec.plain.varTypes Tryz.prog).any (Tryz.prog.ifacesRec ·)) : Bool) = true := by kernel_rfl
theorem Qm3 : ((Rows.fnExactRunThreadsRow.mapsOut == Tryz.prog.mapsAmong Tryz.f6.resultTypes.toList) : Bool) = true := by kernel_rfl
theorem Qlq : ((Rows.fnExactRunThreadsRow.loops == (Tryz.f6.params.toList ++ Rows.fnExactRunThreadsSpec.plain.varTypes Tryz.prog).any (Tryz.prog.loopsFrom ·)) : Bool) = true := by kernel_rfl
theorem Qlz : ((Rows.fnExactRunThreadsRow.wideKeys == (Tryz.f6.params.toList ++ Rows.fnExactRunThreadsSpec.plain.varTypes Tryz.prog ++ Tryz.f6.resultTypes.toList).any (Tryz.prog.wideKeysFrom ·)) : Bool) = true := by kernel_rfl
theorem Qls : (Rows.fnExactRunThreadsSpec.vars.all (Tryz.prog.varReadable ·) : Bool) = true := by kernel_rfl
theorem Qma : (Tryz.f6.resultTypes.all (fun t => Tryz.prog.readableRec t && decide (t < Tryz.prog.types.size)) : Bool) = true := by kernel_rfl
theorem Qlw : ((Rows.fnExactRunThreadsRow.ifacesOut == Tryz.f6.resultTypes.toList.any (Tryz.prog.ifacesRec ·)) : Bool) = true := by kernel_rfl
theorem Qm8 : ((Rows.fnExactRunThreadsRow.loopsOut == Tryz.f6.resultTypes.toList.any (Tryz.prog.loopsFrom ·)) : Bool) = true := by kernel_rfl
theorem Qmd : ((Rows.fnExactRunThreadsRow.plainKeys == Tryz.prog.plainKeys) : Bool) = true := by kernel_rfl
theorem Qmc : (Rows.fnExactRunThreadsRow.shortTexts.isNone : Bool) = true := by kernel_rfl
theorem Qm0 : (Tryz.prog.stopsHeard : Bool) = true := by kernel_rfl
theorem Qlt : (Tryz.prog.mayEnter : Bool) = true := by kernel_rfl
theorem Qm4 : ((Rows.fnExactRunThreadsRow.lifted == Tryz.prog.liftsFinal) : Bool) = true := by kernel_rfl
theorem Qlx : ((Tryz.prog.make == some Rows.fnExactRunThreadsRow.make) : Bool) = true := by kernel_rfl
theorem Qmf : ((Rows.fnExactRunThreadsRow.kinds == (if Rows.fnExactRunThreadsRow.domain.isEmpty then [] else Tryz.f6.params.toList.map fun t => match Tryz.prog.underlying t with | some (.int k) => some k | _ => none)) : Bool) = true := by kernel_rfl
theorem Qm5 : ((Rows.fnExactRunThreadsRow.pinned == Rows.fnExactRunThreadsRow.pinnedBy) : Bool) = true := by kernel_rfl
theorem Qm1 : ((Rows.fnExactRunThreadsRow.veiled == (Tryz.f6.params.toList ++ Rows.fnExactRunThreadsSpec.plain.varTypes Tryz.prog ++ Tryz.f6.resultTypes.toList).any (Tryz.prog.veiledRec ·)) : Bool) = true := by kernel_rfl
theorem Qlp : (Rows.fnExactRunThreadsRow.veiledFits Tryz.prog Tryz.f6.params.toList (Tryz.f6.params.toList ++ Rows.fnExactRunThreadsSpec.plain.varTypes Tryz.prog ++ Tryz.f6.resultTypes.toList) : Bool) = true := by kernel_rfl
set_option maxRecDepth 100000 in
theorem Qlg : joinedFacts Tryz.prog 6 Tryz.f6 Rows.fnExactRunThreadsSpec Rows.fnExactRunThreadsRow = true := by unfold joinedFacts; exact (Qa3 (Qa3 (Qa3 (Qa3 (Qa3 (Qa3 (Qa3 (Qa3 (Qa3 (Qa3 (Qa3 (Qa3 (Qa3 (Qa3 (Qa3 (Qa3 (Qa3 (Qa3 (Qa3 (Qa3 (Qa3 (Qa3 (Qa3 (Qa3 (Qa3 (Qa3 (Qa3 (Qa3 (Qa3 (Qa3 (Qa3 Qmh Qml) Qmn) Qmy) Qmk) Qnb) Qmm) Qn2) Qmg) Qmw) Qm9) Qmb) Qm7) Qlr) Qme) Qm3) Qlq) Qlz) Qls) Qma) Qlw) Qm8) Qmd) Qmc) Qm0) Qlt) Qm4) Qlx) Qmf) Qm5) Qm1) Qlp)
theorem op3 {H : Type} {enc : TypeId × Value → H} {W : World} : Qlb enc Tryz.prog W 3 o3 (fun x => (Lit.int .i64 x).wf = true) := (Xdo (Qau ty3)).map id (fun _ => rfl) (fun _ h => h)
theorem op142 {H : Type} {enc : TypeId × Value → H} {W : World} : Qlb enc Tryz.prog W 142 Qae (fun x => x < 18446744073709551616) := (Qz7 (Qau Qne)).map id (fun _ => rfl) (fun _ h => h)
instance : Inhabited GOp := ⟨⟨0, 0, 0, 0⟩⟩
theorem op213 {H : Type} {enc : TypeId × Value → H} {W : World} : Qlb enc Tryz.prog W 213 Qtr (fun x => Qwx x) := by
 have h := Qr2 (enc := enc) (w := W) (Qau Xkh) (m := 4) (by kernel_rfl) (L := [(0, 3), (1, 3), (2, 3), (3, 142)]) rfl (Qg3 (sz := 1) (by kernel_rfl) rfl op3 (Qg3 (sz := 1) (by kernel_rfl) rfl op3 (Qg3 (sz := 1) (by kernel_rfl) rfl op3 (Qg3 (sz := 1) (by kernel_rfl) rfl op142 Quu))))
 exact h.map (fun p => (⟨p.1, p.2.1, p.2.2.1, p.2.2.2.1⟩ : GOp)) (fun _ => rfl) (fun p h => ⟨h.1, h.2.1, h.2.2.1, h.2.2.2.1⟩)
theorem op167 {H : Type} {enc : TypeId × Value → H} {W : World} : Qlb enc Tryz.prog W 167 Qqd (fun x => x.length ≤ 9223372036854775807 ∧ ∀ y0 ∈ x, Qwx y0) := (Qp0 (Qau Xl5) (sz := 4) (by kernel_rfl) (by decide) op213).map id (fun _ => rfl) (fun _ h => h)
theorem op22 {H : Type} {enc : TypeId × Value → H} {W : World} : Qlb enc Tryz.prog W 22 r22 (fun x => x.length ≤ 9223372036854775807 ∧ ∀ y0 ∈ x, y0.length ≤ 9223372036854775807 ∧ ∀ y1 ∈ y0, Qwx y1) := (Qp0 (Qau ty22) (sz := 1) (by kernel_rfl) (by decide) op167).map id (fun _ => rfl) (fun _ h => h)
instance : Inhabited Qaf := ⟨⟨0, 0, 0, []⟩⟩
theorem op24 {H : Type} {enc : TypeId × Value → H} {W : World} : Qlb enc Tryz.prog W 24 r24 (fun x => Qqj x) := by
 have h := Qr2 (enc := enc) (w := W) (Qau ty24) (m := 4) (by kernel_rfl) (L := [(0, 3), (1, 3), (2, 3), (3, 22)]) rfl (Qg3 (sz := 1) (by kernel_rfl) rfl op3 (Qg3 (sz := 1) (by kernel_rfl) rfl op3 (Qg3 (sz := 1) (by kernel_rfl) rfl op3 (Qg3 (sz := 1) (by kernel_rfl) rfl op22 Quu))))
 exact h.map (fun p => (⟨p.1, p.2.1, p.2.2.1, p.2.2.2.1⟩ : Qaf)) (fun _ => rfl) (fun p h => ⟨h.1, h.2.1, h.2.2.1, h.2.2.2.1⟩)
theorem op51 {H : Type} {enc : TypeId × Value → H} {W : World} : Qlb enc Tryz.prog W 51 r51 (fun x => x.length ≤ 9223372036854775807 ∧ ∀ y0 ∈ x, (Lit.int .i64 y0).wf = true) := (Qp0 (Qau ty51) (sz := 1) (by kernel_rfl) (by decide) op3).map id (fun _ => rfl) (fun _ h => h)
set_option maxRecDepth 100000 in
theorem lifted (os : Os) (started : os.Started) (H : Type) (enc : TypeId × Value → H) :
  ReturnsInHanded {} Tryz.checked os 6 .any (Rows.fnExactRunThreadsSpec.pre6 enc Tryz.prog Tryz.f6 Rows.fnExactRunThreadsRow.domain false) (Rows.fnExactRunThreadsSpec.post enc Tryz.prog Tryz.f6 false true false false) := by
 refine returnsInHanded_of_change (C := Tryz.checked) Xfn started (by kernel_rfl) Tryz.func6
  (ChangeSpec.witness6 (enc := enc) (C := Tryz.checked) false ⟨#[], #[.agg #[.int .i64 0, .int .i64 0, .int .i64 0, .slice none 0 0], .slice none 0 0], []⟩ 8 (by kernel_rfl) (by kernel_rfl) (by kernel_rfl) (by kernel_rfl)) ?_
 intro W base args ds gs before hval0 hW hcnd _
 have hval : ∀ (j : Nat) t v, Tryz.f6.params[j]? = some t → args[j]? = some v → Value.okWide Tryz.prog W .any base t v := hval0
 have hW' := hW
 obtain ⟨p, q, hA0, hV, rfl, hfz, hnd⟩ := hW
 have hA : DataW.TrodAll enc Tryz.prog W 0 (fun _ => true) true Tryz.f6.params.toList args.toList ds p := hA0
 rw [Tryz.params6] at hA hval
 obtain ⟨v0, vs0, d0, ds0, p0, q0, hargs, rfl, rfl, h0, r0⟩ := trodAll_cons hA
 obtain ⟨v1, vs1, d1, ds1, p1, q1, rfl, rfl, rfl, h1, r1⟩ := trodAll_cons r0
 obtain ⟨rfl, rfl, rfl⟩ := trodAll_nil r1
 obtain rfl : args = #[v0, v1] := by cases args; simp_all
 obtain ⟨rfl, rfl⟩ := trodVars_none hV
 have k0 := h0
 have lt0 : ∀ x ∈ p0, x.block < W.heap.size := by obtain ⟨m, hm⟩ := k0; exact DataW.trod_lt m _ _ _ hm
 have k1 := h1
 have lt1 : ∀ x ∈ p1, x.block < W.heap.size := by obtain ⟨m, hm⟩ := k1; exact DataW.trod_lt m _ _ _ hm
 obtain ⟨x0, g0, rep0⟩ := Xf3 op24 h0 (okWide_struct (Qau ty24) (hval 0 _ v0 rfl rfl))
 obtain ⟨x1, g1, rep1⟩ := Xer (f := fun (x : (List Int)) => AV.ro 1 (x.map o3)) op51 h1 (okWide_slice (Qau ty51) (hval 1 _ v1 rfl rfl))
 have hm := (Qks (Qu3 x0 x1 g0 g1.1)).2 W (fun b => b < W.heap.size) [v0, v1] (by simp only [Qf5]; exact ⟨_, _, [], [], rfl, rfl, rep0, ⟨_, [], [], [], rfl, rfl, rep1, rfl, rfl⟩⟩) (fun _ h => h)
 clear hA0 hval0
 refine hm.mono fun e W' ⟨v, fp, he, bel, _, hr, _⟩ => ?_
 subst he
 obtain rfl : v = .bool true := by simp only [rep] at hr; exact hr.2
 exact ⟨_, rfl, _, _, _, [], _, [], hW', trodAll_mk1 (shut_bool (Qau ty4) _), (trodAll_cons_mk (Below.trod Qzz (by kernel_rfl) (of_decide_eq_true (by kernel_rfl)) k0 bel lt0) (trodAll_cons_mk (Below.trod Qzz (by kernel_rfl) (of_decide_eq_true (by kernel_rfl)) k1 bel lt1) trodAll_mk0)), rfl, bel.frame _, fun h => by cases h⟩
theorem named : Tryz.prog.funcNamed Rows.fnExactRunThreadsRow.func = some 6 := by kernel_rfl
theorem fnExactRunThreads_proved : Rows.FnExactRunThreadsSaid :=
 OpenClaim.holds_of_wide 6 Tryz.f6 rfl rfl rfl rfl rfl rfl rfl ⟨rfl, rfl, rfl, rfl, rfl⟩ rfl rfl rfl rfl rfl named Tryz.func6 Qlg
  (of_decide_eq_true (by kernel_rfl)) (by unfold Func.isWrapper; first | (rw [if_pos (by decide +kernel)]; kernel_rfl) | (rw [if_neg (by decide +kernel)]; exact ⟨rfl, rfl⟩))
  (fun os started H enc _ => lifted os started H enc)
end Go.Proofs.YtjcaompblpglcaaGreat
