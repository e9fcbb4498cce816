/- The program's IsRun returns what the reference's returns, for all arguments; no condition. -/

import Derived.Test.YtemmdkcpcjidmaaGreatTW
import Derived.Test.YtemmdkcpcjidmaaGreatISb
import Derived.Test.YtemmdkcpcjidmaaGreatRows
import Derived.WalkKit
import Derived.ProofKit
import Derived.OpenShut
import Derived.ShutString
import Derived.ChangeOld
import Derived.Below
set_option linter.unusedVariables false
namespace Go.Proofs.YtemmdkcpcjidmaaGreat
open Go Go.T
open Go.ChangeShapes Go.WideShapes Go.ChangeAt Go.RowKit
open Go.ChangeMaps (open_string shut_string)
theorem Xhb : ownKnob Tryz.prog.godebug = none := by kernel_rfl
theorem Xbd : laidOutB Tryz.prog = true := by kernel_rfl
theorem Qa7 {a b : Bool} (h : a = true) (k : b = true) : (a && b) = true := by rw [h, k]; rfl
theorem Qs8 : (Rows.fnExactIsRunRow.wf (OpenSpec.ofChange Rows.fnExactIsRunSpec) : Bool) = true := by kernel_rfl
theorem Qs0 : (laidOutB Tryz.prog : Bool) = true := by kernel_rfl
theorem Qs9 : (mapsRowed Tryz.prog : Bool) = true := by kernel_rfl
theorem Qrz : (Tryz.f3.params.all (Tryz.prog.readableRec ·) : Bool) = true := by kernel_rfl
theorem Qsf : (namedTie Tryz.prog Rows.fnExactIsRunRow.named Rows.fnExactIsRunSpec.vars : Bool) = true := by kernel_rfl
theorem Qsh : ((Rows.fnExactIsRunRow.stops == []) : Bool) = true := by kernel_rfl
theorem Qs4 : ((Tryz.prog.stops == []) : Bool) = true := by kernel_rfl
theorem Qry : ((Rows.fnExactIsRunRow.knobs == []) : Bool) = true := by kernel_rfl
theorem Qs5 : ((Tryz.prog.stopKnobs == []) : Bool) = true := by kernel_rfl
theorem Qsd : ((Rows.fnExactIsRunRow.inPlace == Tryz.prog.inPlace 3) : Bool) = true := by kernel_rfl
theorem Qq8 : ((Rows.fnExactIsRunRow.unfollowed == Tryz.prog.unfollowed 3) : Bool) = true := by kernel_rfl
theorem Qpy : ((Rows.fnExactIsRunRow.recurses == Tryz.prog.recurses 3) : Bool) = true := by kernel_rfl
theorem Qqn : ((Rows.fnExactIsRunRow.named == Tryz.prog.varsNamed 3) : Bool) = true := by kernel_rfl
theorem Qqd : ((Rows.fnExactIsRunRow.maps == (Tryz.f3.params.toList ++ Rows.fnExactIsRunSpec.plain.varTypes Tryz.prog).any (Tryz.prog.mapsRec ·)) : Bool) = true := by kernel_rfl
theorem Qqk : ((Rows.fnExactIsRunRow.ifaces == (Tryz.f3.params.toList ++ Rows.fnExactIsRunSpec.plain.varTypes Tryz.prog).any (Tryz.prog.ifacesRec ·)) : Bool) = true := by kernel_rfl
theorem Qqs : ((Rows.fnExactIsRunRow.mapsOut == Tryz.prog.mapsAmong Tryz.f3.resultTypes.toList) : Bool) = true := by kernel_rfl
theorem Qq0 : ((Rows.fnExactIsRunRow.loops == (Tryz.f3.params.toList ++ Rows.fnExactIsRunSpec.plain.varTypes Tryz.prog).any (Tryz.prog.loopsFrom ·)) : Bool) = true := by kernel_rfl
theorem Qqf : ((Rows.fnExactIsRunRow.wideKeys == (Tryz.f3.params.toList ++ Rows.fnExactIsRunSpec.plain.varTypes Tryz.prog ++ Tryz.f3.resultTypes.toList).any (Tryz.prog.wideKeysFrom ·)) : Bool) = true := by kernel_rfl
theorem Qqo : (Rows.fnExactIsRunSpec.vars.all (Tryz.prog.varReadable ·) : Bool) = true := by kernel_rfl
theorem Qr1 : (Tryz.f3.resultTypes.all (fun t => Tryz.prog.readableRec t && decide (t < Tryz.prog.types.size)) : Bool) = true := by kernel_rfl
theorem Qqx : ((Rows.fnExactIsRunRow.ifacesOut == Tryz.f3.resultTypes.toList.any (Tryz.prog.ifacesRec ·)) : Bool) = true := by kernel_rfl
theorem Qqb : ((Rows.fnExactIsRunRow.loopsOut == Tryz.f3.resultTypes.toList.any (Tryz.prog.loopsFrom ·)) : Bool) = true := by kernel_rfl
theorem Qqm : ((Rows.fnExactIsRunRow.plainKeys == Tryz.prog.plainKeys) : Bool) = true := by kernel_rfl
theorem Qqy : (Rows.fnExactIsRunRow.shortTexts.isNone : Bool) = true := by kernel_rfl
theorem Qqe : (Tryz.prog.stopsHeard : Bool) = true := by kernel_rfl
theorem Qq5 : (Tryz.prog.mayEnter : Bool) = true := by kernel_rfl
theorem Qqt : ((Rows.fnExactIsRunRow.lifted == Tryz.prog.liftsFinal) : Bool) = true := by kernel_rfl
theorem Qqu : ((Tryz.prog.make == some Rows.fnExactIsRunRow.make) : Bool) = true := by kernel_rfl
theorem Qql : ((Rows.fnExactIsRunRow.kinds == (if Rows.fnExactIsRunRow.domain.isEmpty then [] else Tryz.f3.params.toList.map fun t => match Tryz.prog.underlying t with | some (.int k) => some k | _ => none)) : Bool) = true := by kernel_rfl
theorem Qqh : ((Rows.fnExactIsRunRow.pinned == Rows.fnExactIsRunRow.pinnedBy) : Bool) = true := by kernel_rfl
theorem Qq6 : ((Rows.fnExactIsRunRow.veiled == (Tryz.f3.params.toList ++ Rows.fnExactIsRunSpec.plain.varTypes Tryz.prog ++ Tryz.f3.resultTypes.toList).any (Tryz.prog.veiledRec ·)) : Bool) = true := by kernel_rfl
theorem Qqc : (Rows.fnExactIsRunRow.veiledFits Tryz.prog Tryz.f3.params.toList (Tryz.f3.params.toList ++ Rows.fnExactIsRunSpec.plain.varTypes Tryz.prog ++ Tryz.f3.resultTypes.toList) : Bool) = true := by kernel_rfl
set_option maxRecDepth 100000 in
theorem Qow : joinedFacts Tryz.prog 3 Tryz.f3 Rows.fnExactIsRunSpec Rows.fnExactIsRunRow = true := by unfold joinedFacts; exact (Qa7 (Qa7 (Qa7 (Qa7 (Qa7 (Qa7 (Qa7 (Qa7 (Qa7 (Qa7 (Qa7 (Qa7 (Qa7 (Qa7 (Qa7 (Qa7 (Qa7 (Qa7 (Qa7 (Qa7 (Qa7 (Qa7 (Qa7 (Qa7 (Qa7 (Qa7 (Qa7 (Qa7 (Qa7 (Qa7 (Qa7 Qs8 Qs0) Qs9) Qrz) Qsf) Qsh) Qs4) Qry) Qs5) Qsd) Qq8) Qpy) Qqn) Qqd) Qqk) Qqs) Qq0) Qqf) Qqo) Qr1) Qqx) Qqb) Qqm) Qqy) Qqe) Qq5) Qqt) Qqu) Qql) Qqh) Qq6) Qqc)
theorem op3 {H : Type} {enc : TypeId × Value → H} {W : World} : Qjc enc Tryz.prog W 3 o3 (fun x => (Lit.int .i64 x).wf = true) := (Xew (Qap ty3)).map id (fun _ => rfl) (fun _ h => h)
theorem Xma {H : Type} {enc : TypeId × Value → H} {W : World} : Qjc enc Tryz.prog W 132 Qae (fun x => x < 18446744073709551616) := (Qzr (Qap Qp6)).map id (fun _ => rfl) (fun _ h => h)
instance : Inhabited GOp := ⟨⟨0, 0, 0, 0⟩⟩
theorem op200 {H : Type} {enc : TypeId × Value → H} {W : World} : Qjc enc Tryz.prog W 200 Quo (fun x => Qyz x) := by
 have h := Qh8 (enc := enc) (w := W) (Qap Xmi) (m := 4) (by kernel_rfl) (L := [(0, 3), (1, 3), (2, 3), (3, 132)]) rfl (Qb4 (sz := 1) (by kernel_rfl) rfl op3 (Qb4 (sz := 1) (by kernel_rfl) rfl op3 (Qb4 (sz := 1) (by kernel_rfl) rfl op3 (Qb4 (sz := 1) (by kernel_rfl) rfl Xma Qjp))))
 exact h.map (fun p => (⟨p.1, p.2.1, p.2.2.1, p.2.2.2.1⟩ : GOp)) (fun _ => rfl) (fun p h => ⟨h.1, h.2.1, h.2.2.1, h.2.2.2.1⟩)
theorem op151 {H : Type} {enc : TypeId × Value → H} {W : World} : Qjc enc Tryz.prog W 151 Qq4 (fun x => x.length ≤ 9223372036854775807 ∧ ∀ y0 ∈ x, Qyz y0) := (Qhy (Qap Xmp) (sz := 4) (by kernel_rfl) (by decide) op200).map id (fun _ => rfl) (fun _ h => h)
theorem op22 {H : Type} {enc : TypeId × Value → H} {W : World} : Qjc enc Tryz.prog W 22 r22 (fun x => x.length ≤ 9223372036854775807 ∧ ∀ y0 ∈ x, y0.length ≤ 9223372036854775807 ∧ ∀ y1 ∈ y0, Qyz y1) := (Qhy (Qap ty22) (sz := 1) (by kernel_rfl) (by decide) op151).map id (fun _ => rfl) (fun _ h => h)
instance : Inhabited Qah := ⟨⟨0, 0, 0, []⟩⟩
theorem op24 {H : Type} {enc : TypeId × Value → H} {W : World} : Qjc enc Tryz.prog W 24 r24 (fun x => Qoc x) := by
 have h := Qh8 (enc := enc) (w := W) (Qap ty24) (m := 4) (by kernel_rfl) (L := [(0, 3), (1, 3), (2, 3), (3, 22)]) rfl (Qb4 (sz := 1) (by kernel_rfl) rfl op3 (Qb4 (sz := 1) (by kernel_rfl) rfl op3 (Qb4 (sz := 1) (by kernel_rfl) rfl op3 (Qb4 (sz := 1) (by kernel_rfl) rfl op22 Qjp))))
 exact h.map (fun p => (⟨p.1, p.2.1, p.2.2.1, p.2.2.2.1⟩ : Qah)) (fun _ => rfl) (fun p h => ⟨h.1, h.2.1, h.2.2.1, h.2.2.2.1⟩)
instance : Inhabited Qab := ⟨⟨0, 0, 0, 0, 0⟩⟩
theorem op161 {H : Type} {enc : TypeId × Value → H} {W : World} : Qjc enc Tryz.prog W 161 Qss (fun x => Qwu x) := by
 have h := Qh8 (enc := enc) (w := W) (Qap Xme) (m := 5) (by kernel_rfl) (L := [(0, 3), (1, 3), (2, 3), (3, 3), (4, 3)]) rfl (Qb4 (sz := 1) (by kernel_rfl) rfl op3 (Qb4 (sz := 1) (by kernel_rfl) rfl op3 (Qb4 (sz := 1) (by kernel_rfl) rfl op3 (Qb4 (sz := 1) (by kernel_rfl) rfl op3 (Qb4 (sz := 1) (by kernel_rfl) rfl op3 Qjp)))))
 exact h.map (fun p => (⟨p.1, p.2.1, p.2.2.1, p.2.2.2.1, p.2.2.2.2.1⟩ : Qab)) (fun _ => rfl) (fun p h => ⟨h.1, h.2.1, h.2.2.1, h.2.2.2.1, h.2.2.2.2.1⟩)
theorem op25 {H : Type} {enc : TypeId × Value → H} {W : World} : Qjc enc Tryz.prog W 25 r25 (fun x => x.length ≤ 9223372036854775807 ∧ ∀ y0 ∈ x, Qwu y0) := (Qhy (Qap ty25) (sz := 5) (by kernel_rfl) (by decide) op161).map id (fun _ => rfl) (fun _ h => h)
theorem op26 {H : Type} {enc : TypeId × Value → H} {W : World} : Qjc enc Tryz.prog W 26 r26 (fun x => x.length ≤ 9223372036854775807 ∧ ∀ y0 ∈ x, (Lit.int .i64 y0).wf = true) := (Qhy (Qap ty26) (sz := 1) (by kernel_rfl) (by decide) op3).map id (fun _ => rfl) (fun _ h => h)
theorem op28 {H : Type} {enc : TypeId × Value → H} {W : World} : Qjc enc Tryz.prog W 28 r28 (fun x => x.length ≤ 9223372036854775807 ∧ ∀ y0 ∈ x, y0 < 18446744073709551616) := (Qhy (Qap ty28) (sz := 1) (by kernel_rfl) (by decide) Xma).map id (fun _ => rfl) (fun _ h => h)
instance : Inhabited Qa0 := ⟨⟨0, 0, 0, 0, 0, []⟩⟩
theorem op198 {H : Type} {enc : TypeId × Value → H} {W : World} : Qjc enc Tryz.prog W 198 Qnq (fun x => Qmv x) := by
 have h := Qh8 (enc := enc) (w := W) (Qap Xm9) (m := 6) (by kernel_rfl) (L := [(0, 3), (1, 3), (2, 3), (3, 3), (4, 3), (5, 28)]) rfl (Qb4 (sz := 1) (by kernel_rfl) rfl op3 (Qb4 (sz := 1) (by kernel_rfl) rfl op3 (Qb4 (sz := 1) (by kernel_rfl) rfl op3 (Qb4 (sz := 1) (by kernel_rfl) rfl op3 (Qb4 (sz := 1) (by kernel_rfl) rfl op3 (Qb4 (sz := 1) (by kernel_rfl) rfl op28 Qjp))))))
 exact h.map (fun p => (⟨p.1, p.2.1, p.2.2.1, p.2.2.2.1, p.2.2.2.2.1, p.2.2.2.2.2.1⟩ : Qa0)) (fun _ => rfl) (fun p h => ⟨h.1, h.2.1, h.2.2.1, h.2.2.2.1, h.2.2.2.2.1, h.2.2.2.2.2.1⟩)
theorem op27 {H : Type} {enc : TypeId × Value → H} {W : World} : Qjc enc Tryz.prog W 27 r27 (fun x => x.length ≤ 9223372036854775807 ∧ ∀ y0 ∈ x, Qmv y0) := (Qhy (Qap ty27) (sz := 6) (by kernel_rfl) (by decide) op198).map id (fun _ => rfl) (fun _ h => h)
instance : Inhabited Qa1 := ⟨⟨[], [], [], 0⟩⟩
theorem op30 {H : Type} {enc : TypeId × Value → H} {W : World} : Qjc enc Tryz.prog W 30 r30 (fun x => Qsm x) := by
 have h := Qh8 (enc := enc) (w := W) (Qap ty30) (m := 4) (by kernel_rfl) (L := [(0, 27), (1, 28), (2, 26), (3, 3)]) rfl (Qb4 (sz := 1) (by kernel_rfl) rfl op27 (Qb4 (sz := 1) (by kernel_rfl) rfl op28 (Qb4 (sz := 1) (by kernel_rfl) rfl op26 (Qb4 (sz := 1) (by kernel_rfl) rfl op3 Qjp))))
 exact h.map (fun p => (⟨p.1, p.2.1, p.2.2.1, p.2.2.2.1⟩ : Qa1)) (fun _ => rfl) (fun p h => ⟨h.1, h.2.1, h.2.2.1, h.2.2.2.1⟩)
instance : Inhabited Qcg := ⟨⟨0, [], [], default⟩⟩
theorem op32 {H : Type} {enc : TypeId × Value → H} {W : World} : Qjc enc Tryz.prog W 32 r32 (fun x => Qys x) := by
 have h := Qh8 (enc := enc) (w := W) (Qap ty32) (m := 7) (by kernel_rfl) (L := [(0, 3), (1, 25), (2, 26), (3, 30)]) rfl (Qb4 (sz := 1) (by kernel_rfl) rfl op3 (Qb4 (sz := 1) (by kernel_rfl) rfl op25 (Qb4 (sz := 1) (by kernel_rfl) rfl op26 (Qb4 (sz := 4) (by kernel_rfl) rfl op30 Qjp))))
 exact h.map (fun p => (⟨p.1, p.2.1, p.2.2.1, p.2.2.2.1⟩ : Qcg)) (fun _ => rfl) (fun p h => ⟨h.1, h.2.1, h.2.2.1, h.2.2.2.1⟩)
set_option maxRecDepth 100000 in
theorem lifted (os : Os) (started : os.Started) (H : Type) (enc : TypeId × Value → H) :
  ReturnsInHanded {} Tryz.checked os 3 .any (Rows.fnExactIsRunSpec.pre6 enc Tryz.prog Tryz.f3 Rows.fnExactIsRunRow.domain false) (Rows.fnExactIsRunSpec.post enc Tryz.prog Tryz.f3 false true false false) := by
 refine returnsInHanded_of_change (C := Tryz.checked) Xhb started (by kernel_rfl) Tryz.func3
  (ChangeSpec.witness6 (enc := enc) (C := Tryz.checked) false ⟨#[], #[.agg #[.int .i64 0, .int .i64 0, .int .i64 0, .slice none 0 0], .agg #[.int .i64 0, .slice none 0 0, .slice none 0 0, .slice none 0 0, .slice none 0 0, .slice none 0 0, .int .i64 0]], []⟩ 8 (by kernel_rfl) (by kernel_rfl) (by kernel_rfl) (by kernel_rfl)) ?_
 intro W base args ds gs before hval0 hW hcnd _
 have hval : ∀ (j : Nat) t v, Tryz.f3.params[j]? = some t → args[j]? = some v → Value.okWide Tryz.prog W .any base t v := hval0
 have hW' := hW
 obtain ⟨p, q, hA0, hV, rfl, hfz, hnd⟩ := hW
 have hA : DataW.TrodAll enc Tryz.prog W 0 (fun _ => true) true Tryz.f3.params.toList args.toList ds p := hA0
 rw [Tryz.params3] at hA hval
 obtain ⟨v0, vs0, d0, ds0, p0, q0, hargs, rfl, rfl, h0, r0⟩ := trodAll_cons hA
 obtain ⟨v1, vs1, d1, ds1, p1, q1, rfl, rfl, rfl, h1, r1⟩ := trodAll_cons r0
 obtain ⟨rfl, rfl, rfl⟩ := trodAll_nil r1
 obtain rfl : args = #[v0, v1] := by cases args; simp_all
 obtain ⟨rfl, rfl⟩ := trodVars_none hV
 have k0 := h0
 have lt0 : ∀ x ∈ p0, x.block < W.heap.size := by obtain ⟨m, hm⟩ := k0; exact DataW.trod_lt m _ _ _ hm
 have k1 := h1
 have lt1 : ∀ x ∈ p1, x.block < W.heap.size := by obtain ⟨m, hm⟩ := k1; exact DataW.trod_lt m _ _ _ hm
 obtain ⟨x0, g0, rep0⟩ := Xaj op24 h0 (okWide_struct (Qap ty24) (hval 0 _ v0 rfl rfl))
 obtain ⟨x1, g1, rep1⟩ := Xaj op32 h1 (okWide_struct (Qap ty32) (hval 1 _ v1 rfl rfl))
 have hm := (Qo3 (Xdy x0 x1 g0 g1)).2 W (fun b => b < W.heap.size) [v0, v1] (by simp only [Qff]; exact ⟨_, _, [], [], rfl, rfl, rep0, ⟨_, [], [], [], rfl, rfl, rep1, rfl, rfl⟩⟩) (fun _ h => h)
 clear hA0 hval0
 refine hm.mono fun e W' ⟨v, fp, he, bel, _, hr, _⟩ => ?_
 subst he
 obtain rfl : v = .bool true := by simp only [rep] at hr; exact hr.2
 exact ⟨_, rfl, _, _, _, [], _, [], hW', trodAll_mk1 (shut_bool (Qap ty4) _), (trodAll_cons_mk (Below.trod Xbd (by kernel_rfl) (of_decide_eq_true (by kernel_rfl)) k0 bel lt0) (trodAll_cons_mk (Below.trod Xbd (by kernel_rfl) (of_decide_eq_true (by kernel_rfl)) k1 bel lt1) trodAll_mk0)), rfl, bel.frame _, fun h => by cases h⟩
theorem named : Tryz.prog.funcNamed Rows.fnExactIsRunRow.func = some 3 := by kernel_rfl
theorem fnExactIsRun_proved : Rows.FnExactIsRunSaid :=
 OpenClaim.holds_of_wide 3 Tryz.f3 rfl rfl rfl rfl rfl rfl rfl ⟨rfl, rfl, rfl, rfl, rfl⟩ rfl rfl rfl rfl rfl named Tryz.func3 Qow
  (of_decide_eq_true (by kernel_rfl)) (by unfold Func.isWrapper; first | (rw [if_pos (by decide +kernel)]; kernel_rfl) | (rw [if_neg (by decide +kernel)]; exact ⟨rfl, rfl⟩))
  (fun os started H enc _ => lifted os started H enc)
end Go.Proofs.YtemmdkcpcjidmaaGreat
