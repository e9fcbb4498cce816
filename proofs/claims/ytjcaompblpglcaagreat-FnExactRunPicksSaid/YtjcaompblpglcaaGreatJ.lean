/- The program's RunPicks returns what the reference's returns, for all arguments; no condition. -/

import Derived.Test.YtjcaompblpglcaaGreatTW
import Derived.Test.YtjcaompblpglcaaGreatRP
import Derived.Test.YtjcaompblpglcaaGreatRows
import Derived.WalkKit
import Derived.ProofKit
import Derived.OpenShut
import Derived.ShutString
import Derived.ChangeOld
import Derived.Below
set_option linter.unusedVariables false
namespace Go.Proofs.YtjcaompblpglcaaGreat
open Go Go.T
open Go.ChangeShapes Go.WideShapes Go.ChangeAt Go.RowKit
open Go.ChangeMaps (open_string shut_string)
theorem Xg1 : ownKnob Tryz.prog.godebug = none := by kernel_rfl
theorem Qvr : laidOutB Tryz.prog = true := by kernel_rfl
theorem Qa6 {a b : Bool} (h : a = true) (k : b = true) : (a && b) = true := by rw [h, k]; rfl
theorem Qp5 : (Rows.fnExactRunPicksRow.wf (OpenSpec.ofChange Rows.fnExactRunPicksSpec) : Bool) = true := by kernel_rfl
theorem Qp7 : (laidOutB Tryz.prog : Bool) = true := by kernel_rfl
theorem Qov : (mapsRowed Tryz.prog : Bool) = true := by kernel_rfl
theorem Qoi : (Tryz.f7.params.all (Tryz.prog.readableRec ·) : Bool) = true := by kernel_rfl
theorem Qow : (namedTie Tryz.prog Rows.fnExactRunPicksRow.named Rows.fnExactRunPicksSpec.vars : Bool) = true := by kernel_rfl
theorem Qp0 : ((Rows.fnExactRunPicksRow.stops == []) : Bool) = true := by kernel_rfl
theorem Qop : ((Tryz.prog.stops == []) : Bool) = true := by kernel_rfl
theorem Qp1 : ((Rows.fnExactRunPicksRow.knobs == []) : Bool) = true := by kernel_rfl
theorem Qou : ((Tryz.prog.stopKnobs == []) : Bool) = true := by kernel_rfl
theorem Qoq : ((Rows.fnExactRunPicksRow.inPlace == Tryz.prog.inPlace 7) : Bool) = true := by kernel_rfl
theorem Qn9 : ((Rows.fnExactRunPicksRow.unfollowed == Tryz.prog.unfollowed 7) : Bool) = true := by kernel_rfl
theorem Qnf : ((Rows.fnExactRunPicksRow.recurses == Tryz.prog.recurses 7) : Bool) = true := by kernel_rfl
theorem Qnb : ((Rows.fnExactRunPicksRow.named == Tryz.prog.varsNamed 7) : Bool) = true := by kernel_rfl
theorem Qnw : ((Rows.fnExactRunPicksRow.maps == (Tryz.f7.params.toList ++ Rows.fnExactRunPicksSpec.plain.varTypes Tryz.prog).any (Tryz.prog.mapsRec ·)) : Bool) = true := by kernel_rfl
theorem Qnk : ((Rows.fnExactRunPicksRow.ifaces == (Tryz.f7.params.toList ++ Rows.fnExactRunPicksSpec.plain.varTypes Tryz.prog).any (Tryz.prog.ifacesRec ·)) : Bool) = true := by kernel_rfl
theorem Qnp : ((Rows.fnExactRunPicksRow.mapsOut == Tryz.prog.mapsAmong Tryz.f7.resultTypes.toList) : Bool) = true := by kernel_rfl
theorem Qnr : ((Rows.fnExactRunPicksRow.loops == (Tryz.f7.params.toList ++ Rows.fnExactRunPicksSpec.plain.varTypes Tryz.prog).any (Tryz.prog.loopsFrom ·)) : Bool) = true := by kernel_rfl
theorem Qnh : ((Rows.fnExactRunPicksRow.wideKeys == (Tryz.f7.params.toList ++ Rows.fnExactRunPicksSpec.plain.varTypes Tryz.prog ++ Tryz.f7.resultTypes.toList).any (Tryz.prog.wideKeysFrom ·)) : Bool) = true := by kernel_rfl
theorem Qnq : (Rows.fnExactRunPicksSpec.vars.all (Tryz.prog.varReadable ·) : Bool) = true := by kernel_rfl
theorem Qnd : (Tryz.f7.resultTypes.all (fun t => Tryz.prog.readableRec t && decide (t < Tryz.prog.types.size)) : Bool) = true := by kernel_rfl
theorem Qnl : ((Rows.fnExactRunPicksRow.ifacesOut == Tryz.f7.resultTypes.toList.any (Tryz.prog.ifacesRec ·)) : Bool) = true := by kernel_rfl
theorem Qng : ((Rows.fnExactRunPicksRow.loopsOut == Tryz.f7.resultTypes.toList.any (Tryz.prog.loopsFrom ·)) : Bool) = true := by kernel_rfl
theorem Qnu : ((Rows.fnExactRunPicksRow.plainKeys == Tryz.prog.plainKeys) : Bool) = true := by kernel_rfl
theorem Qny : (Rows.fnExactRunPicksRow.shortTexts.isNone : Bool) = true := by kernel_rfl
theorem Qnc : (Tryz.prog.stopsHeard : Bool) = true := by kernel_rfl
theorem Qnv : (Tryz.prog.mayEnter : Bool) = true := by kernel_rfl
theorem Qne : ((Rows.fnExactRunPicksRow.lifted == Tryz.prog.liftsFinal) : Bool) = true := by kernel_rfl
theorem Qnt : ((Tryz.prog.make == some Rows.fnExactRunPicksRow.make) : Bool) = true := by kernel_rfl
theorem Qnz : ((Rows.fnExactRunPicksRow.kinds == (if Rows.fnExactRunPicksRow.domain.isEmpty then [] else Tryz.f7.params.toList.map fun t => match Tryz.prog.underlying t with | some (.int k) => some k | _ => none)) : Bool) = true := by kernel_rfl
theorem Qnn : ((Rows.fnExactRunPicksRow.pinned == Rows.fnExactRunPicksRow.pinnedBy) : Bool) = true := by kernel_rfl
theorem Qns : ((Rows.fnExactRunPicksRow.veiled == (Tryz.f7.params.toList ++ Rows.fnExactRunPicksSpec.plain.varTypes Tryz.prog ++ Tryz.f7.resultTypes.toList).any (Tryz.prog.veiledRec ·)) : Bool) = true := by kernel_rfl
theorem Qnx : (Rows.fnExactRunPicksRow.veiledFits Tryz.prog Tryz.f7.params.toList (Tryz.f7.params.toList ++ Rows.fnExactRunPicksSpec.plain.varTypes Tryz.prog ++ Tryz.f7.resultTypes.toList) : Bool) = true := by kernel_rfl
set_option maxRecDepth 100000 in
theorem Qms : joinedFacts Tryz.prog 7 Tryz.f7 Rows.fnExactRunPicksSpec Rows.fnExactRunPicksRow = true := by unfold joinedFacts; exact (Qa6 (Qa6 (Qa6 (Qa6 (Qa6 (Qa6 (Qa6 (Qa6 (Qa6 (Qa6 (Qa6 (Qa6 (Qa6 (Qa6 (Qa6 (Qa6 (Qa6 (Qa6 (Qa6 (Qa6 (Qa6 (Qa6 (Qa6 (Qa6 (Qa6 (Qa6 (Qa6 (Qa6 (Qa6 (Qa6 (Qa6 Qp5 Qp7) Qov) Qoi) Qow) Qp0) Qop) Qp1) Qou) Qoq) Qn9) Qnf) Qnb) Qnw) Qnk) Qnp) Qnr) Qnh) Qnq) Qnd) Qnl) Qng) Qnu) Qny) Qnc) Qnv) Qne) Qnt) Qnz) Qnn) Qns) Qnx)
theorem op3 {H : Type} {enc : TypeId × Value → H} {W : World} : Qlc enc Tryz.prog W 3 o3 (fun x => (Lit.int .i64 x).wf = true) := (Xdg (Qau ty3)).map id (fun _ => rfl) (fun _ h => h)
theorem op142 {H : Type} {enc : TypeId × Value → H} {W : World} : Qlc enc Tryz.prog W 142 Qae (fun x => x < 18446744073709551616) := (Qzb (Qau Qma)).map id (fun _ => rfl) (fun _ h => h)
instance : Inhabited GOp := ⟨⟨0, 0, 0, 0⟩⟩
theorem op213 {H : Type} {enc : TypeId × Value → H} {W : World} : Qlc enc Tryz.prog W 213 Qty (fun x => Qx9 x) := by
 have h := Qrd (enc := enc) (w := W) (Qau Xk0) (m := 4) (by kernel_rfl) (L := [(0, 3), (1, 3), (2, 3), (3, 142)]) rfl (Qg5 (sz := 1) (by kernel_rfl) rfl op3 (Qg5 (sz := 1) (by kernel_rfl) rfl op3 (Qg5 (sz := 1) (by kernel_rfl) rfl op3 (Qg5 (sz := 1) (by kernel_rfl) rfl op142 Quv))))
 exact h.map (fun p => (⟨p.1, p.2.1, p.2.2.1, p.2.2.2.1⟩ : GOp)) (fun _ => rfl) (fun p h => ⟨h.1, h.2.1, h.2.2.1, h.2.2.2.1⟩)
theorem op167 {H : Type} {enc : TypeId × Value → H} {W : World} : Qlc enc Tryz.prog W 167 Qqw (fun x => x.length ≤ 9223372036854775807 ∧ ∀ y0 ∈ x, Qx9 y0) := (Qp3 (Qau Xk5) (sz := 4) (by kernel_rfl) (by decide) op213).map id (fun _ => rfl) (fun _ h => h)
theorem op22 {H : Type} {enc : TypeId × Value → H} {W : World} : Qlc enc Tryz.prog W 22 r22 (fun x => x.length ≤ 9223372036854775807 ∧ ∀ y0 ∈ x, y0.length ≤ 9223372036854775807 ∧ ∀ y1 ∈ y0, Qx9 y1) := (Qp3 (Qau ty22) (sz := 1) (by kernel_rfl) (by decide) op167).map id (fun _ => rfl) (fun _ h => h)
instance : Inhabited Qaf := ⟨⟨0, 0, 0, []⟩⟩
theorem op24 {H : Type} {enc : TypeId × Value → H} {W : World} : Qlc enc Tryz.prog W 24 r24 (fun x => Qqe x) := by
 have h := Qrd (enc := enc) (w := W) (Qau ty24) (m := 4) (by kernel_rfl) (L := [(0, 3), (1, 3), (2, 3), (3, 22)]) rfl (Qg5 (sz := 1) (by kernel_rfl) rfl op3 (Qg5 (sz := 1) (by kernel_rfl) rfl op3 (Qg5 (sz := 1) (by kernel_rfl) rfl op3 (Qg5 (sz := 1) (by kernel_rfl) rfl op22 Quv))))
 exact h.map (fun p => (⟨p.1, p.2.1, p.2.2.1, p.2.2.2.1⟩ : Qaf)) (fun _ => rfl) (fun p h => ⟨h.1, h.2.1, h.2.2.1, h.2.2.2.1⟩)
theorem op51 {H : Type} {enc : TypeId × Value → H} {W : World} : Qlc enc Tryz.prog W 51 r51 (fun x => x.length ≤ 9223372036854775807 ∧ ∀ y0 ∈ x, (Lit.int .i64 y0).wf = true) := (Qp3 (Qau ty51) (sz := 1) (by kernel_rfl) (by decide) op3).map id (fun _ => rfl) (fun _ h => h)
set_option maxRecDepth 100000 in
theorem lifted (os : Os) (started : os.Started) (H : Type) (enc : TypeId × Value → H) :
  ReturnsInHanded {} Tryz.checked os 7 .any (Rows.fnExactRunPicksSpec.pre6 enc Tryz.prog Tryz.f7 Rows.fnExactRunPicksRow.domain false) (Rows.fnExactRunPicksSpec.post enc Tryz.prog Tryz.f7 false true false false) := by
 refine returnsInHanded_of_change (C := Tryz.checked) Xg1 started (by kernel_rfl) Tryz.func7
  (ChangeSpec.witness6 (enc := enc) (C := Tryz.checked) false ⟨#[], #[.agg #[.int .i64 0, .int .i64 0, .int .i64 0, .slice none 0 0], .slice none 0 0, .int .i64 0], []⟩ 8 (by kernel_rfl) (by kernel_rfl) (by kernel_rfl) (by kernel_rfl)) ?_
 intro W base args ds gs before hval0 hW hcnd _
 have hval : ∀ (j : Nat) t v, Tryz.f7.params[j]? = some t → args[j]? = some v → Value.okWide Tryz.prog W .any base t v := hval0
 have hW' := hW
 obtain ⟨p, q, hA0, hV, rfl, hfz, hnd⟩ := hW
 have hA : DataW.TrodAll enc Tryz.prog W 0 (fun _ => true) true Tryz.f7.params.toList args.toList ds p := hA0
 rw [Tryz.params7] at hA hval
 obtain ⟨v0, vs0, d0, ds0, p0, q0, hargs, rfl, rfl, h0, r0⟩ := trodAll_cons hA
 obtain ⟨v1, vs1, d1, ds1, p1, q1, rfl, rfl, rfl, h1, r1⟩ := trodAll_cons r0
 obtain ⟨v2, vs2, d2, ds2, p2, q2, rfl, rfl, rfl, h2, r2⟩ := trodAll_cons r1
 obtain ⟨rfl, rfl, rfl⟩ := trodAll_nil r2
 obtain rfl : args = #[v0, v1, v2] := by cases args; simp_all
 obtain ⟨rfl, rfl⟩ := trodVars_none hV
 have k0 := h0
 have lt0 : ∀ x ∈ p0, x.block < W.heap.size := by obtain ⟨m, hm⟩ := k0; exact DataW.trod_lt m _ _ _ hm
 have k1 := h1
 have lt1 : ∀ x ∈ p1, x.block < W.heap.size := by obtain ⟨m, hm⟩ := k1; exact DataW.trod_lt m _ _ _ hm
 have k2 := h2
 have lt2 : ∀ x ∈ p2, x.block < W.heap.size := by obtain ⟨m, hm⟩ := k2; exact DataW.trod_lt m _ _ _ hm
 obtain ⟨x0, g0, rep0⟩ := Xg4 op24 h0 (okWide_struct (Qau ty24) (hval 0 _ v0 rfl rfl))
 obtain ⟨x1, g1, rep1⟩ := Xfu (f := fun (x : (List Int)) => AV.ro 1 (x.map o3)) op51 h1 (okWide_slice (Qau ty51) (hval 1 _ v1 rfl rfl))
 obtain ⟨x2, e2, _, _, wf2⟩ := open_int (Qau ty3) (hval 2 _ v2 rfl rfl) k2
 subst e2
 have rep2 : rep W (fun b => b < W.heap.size) (.lit (.int .i64 x2)) (.int .i64 x2) [] := by simp [rep]
 have hm := (Qlu (Qxr x0 x1 x2 g0 g1.1 wf2)).2 W (fun b => b < W.heap.size) [v0, v1, (.int .i64 x2)] (by simp only [Qfc]; exact ⟨_, _, [], [], rfl, rfl, rep0, ⟨_, _, [], [], rfl, rfl, rep1, ⟨_, [], [], [], rfl, rfl, rep2, rfl, rfl⟩⟩⟩) (fun _ h => h)
 clear hA0 hval0
 refine hm.mono fun e W' ⟨v, fp, he, bel, _, hr, _⟩ => ?_
 subst he
 obtain rfl : v = .bool true := by simp only [rep] at hr; exact hr.2
 exact ⟨_, rfl, _, _, _, [], _, [], hW', trodAll_mk1 (shut_bool (Qau ty4) _), (trodAll_cons_mk (Below.trod Qvr (by kernel_rfl) (of_decide_eq_true (by kernel_rfl)) k0 bel lt0) (trodAll_cons_mk (Below.trod Qvr (by kernel_rfl) (of_decide_eq_true (by kernel_rfl)) k1 bel lt1) (trodAll_cons_mk (Below.trod Qvr (by kernel_rfl) (of_decide_eq_true (by kernel_rfl)) k2 bel lt2) trodAll_mk0))), rfl, bel.frame _, fun h => by cases h⟩
theorem named : Tryz.prog.funcNamed Rows.fnExactRunPicksRow.func = some 7 := by kernel_rfl
theorem fnExactRunPicks_proved : Rows.FnExactRunPicksSaid :=
 OpenClaim.holds_of_wide 7 Tryz.f7 rfl rfl rfl rfl rfl rfl rfl ⟨rfl, rfl, rfl, rfl, rfl⟩ rfl rfl rfl rfl rfl named Tryz.func7 Qms
  (of_decide_eq_true (by kernel_rfl)) (by unfold Func.isWrapper; first | (rw [if_pos (by decide +kernel)]; kernel_rfl) | (rw [if_neg (by decide +kernel)]; exact ⟨rfl, rfl⟩))
  (fun os started H enc _ => lifted os started H enc)
end Go.Proofs.YtjcaompblpglcaaGreat
