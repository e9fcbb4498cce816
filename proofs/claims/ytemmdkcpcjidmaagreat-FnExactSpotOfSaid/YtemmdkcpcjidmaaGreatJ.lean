/- The program's SpotOf returns what the reference's returns, for all arguments; no condition. -/

import Derived.Test.YtemmdkcpcjidmaaGreatTW
import Derived.Test.YtemmdkcpcjidmaaGreatSPb
import Derived.Test.YtemmdkcpcjidmaaGreatRows
import Derived.WalkKit
import Derived.ProofKit
import Derived.OpenShut
import Derived.ShutString
import Derived.ChangeOld
import Derived.Below
set_option linter.unusedVariables false
namespace Go.Proofs.YtemmdkcpcjidmaaGreat
open Go Go.T
open Go.ChangeShapes Go.WideShapes Go.ChangeAt Go.RowKit
open Go.ChangeMaps (open_string shut_string)
theorem Xhq : ownKnob Tryz.prog.godebug = none := by kernel_rfl
theorem Qx5 : laidOutB Tryz.prog = true := by kernel_rfl
theorem Qa7 {a b : Bool} (h : a = true) (k : b = true) : (a && b) = true := by rw [h, k]; rfl
theorem Qqy : (Rows.fnExactSpotOfRow.wf (OpenSpec.ofChange Rows.fnExactSpotOfSpec) : Bool) = true := by kernel_rfl
theorem Qr3 : (laidOutB Tryz.prog : Bool) = true := by kernel_rfl
theorem Qr2 : (mapsRowed Tryz.prog : Bool) = true := by kernel_rfl
theorem Qr1 : (Tryz.f4.params.all (Tryz.prog.readableRec ·) : Bool) = true := by kernel_rfl
theorem Qrl : (namedTie Tryz.prog Rows.fnExactSpotOfRow.named Rows.fnExactSpotOfSpec.vars : Bool) = true := by kernel_rfl
theorem Qr0 : ((Rows.fnExactSpotOfRow.stops == []) : Bool) = true := by kernel_rfl
theorem Qqr : ((Tryz.prog.stops == []) : Bool) = true := by kernel_rfl
theorem Qrh : ((Rows.fnExactSpotOfRow.knobs == []) : Bool) = true := by kernel_rfl
theorem Qqt : ((Tryz.prog.stopKnobs == []) : Bool) = true := by kernel_rfl
theorem Qr8 : ((Rows.fnExactSpotOfRow.inPlace == Tryz.prog.inPlace 4) : Bool) = true := by kernel_rfl
theorem Qoy : ((Rows.fnExactSpotOfRow.unfollowed == Tryz.prog.unfollowed 4) : Bool) = true := by kernel_rfl
theorem Qpm : ((Rows.fnExactSpotOfRow.recurses == Tryz.prog.recurses 4) : Bool) = true := by kernel_rfl
theorem Qpl : ((Rows.fnExactSpotOfRow.named == Tryz.prog.varsNamed 4) : Bool) = true := by kernel_rfl
theorem Qqd : ((Rows.fnExactSpotOfRow.maps == (Tryz.f4.params.toList ++ Rows.fnExactSpotOfSpec.plain.varTypes Tryz.prog).any (Tryz.prog.mapsRec ·)) : Bool) = true := by kernel_rfl
theorem Qp8 : ((Rows.fnExactSpotOfRow.ifaces == (Tryz.f4.params.toList ++ Rows.fnExactSpotOfSpec.plain.varTypes Tryz.prog).any (Tryz.prog.ifacesRec ·)) : Bool) = true := by kernel_rfl
theorem Qp5 : ((Rows.fnExactSpotOfRow.mapsOut == Tryz.prog.mapsAmong Tryz.f4.resultTypes.toList) : Bool) = true := by kernel_rfl
theorem Qq5 : ((Rows.fnExactSpotOfRow.loops == (Tryz.f4.params.toList ++ Rows.fnExactSpotOfSpec.plain.varTypes Tryz.prog).any (Tryz.prog.loopsFrom ·)) : Bool) = true := by kernel_rfl
theorem Qpr : ((Rows.fnExactSpotOfRow.wideKeys == (Tryz.f4.params.toList ++ Rows.fnExactSpotOfSpec.plain.varTypes Tryz.prog ++ Tryz.f4.resultTypes.toList).any (Tryz.prog.wideKeysFrom ·)) : Bool) = true := by kernel_rfl
theorem Qou : (Rows.fnExactSpotOfSpec.vars.all (Tryz.prog.varReadable ·) : Bool) = true := by kernel_rfl
theorem Qq2 : (Tryz.f4.resultTypes.all (fun t => Tryz.prog.readableRec t && decide (t < Tryz.prog.types.size)) : Bool) = true := by kernel_rfl
theorem Qpt : ((Rows.fnExactSpotOfRow.ifacesOut == Tryz.f4.resultTypes.toList.any (Tryz.prog.ifacesRec ·)) : Bool) = true := by kernel_rfl
theorem Qpj : ((Rows.fnExactSpotOfRow.loopsOut == Tryz.f4.resultTypes.toList.any (Tryz.prog.loopsFrom ·)) : Bool) = true := by kernel_rfl
theorem Qpa : ((Rows.fnExactSpotOfRow.plainKeys == Tryz.prog.plainKeys) : Bool) = true := by kernel_rfl
theorem Qqe : (Rows.fnExactSpotOfRow.shortTexts.isNone : Bool) = true := by kernel_rfl
theorem Qq4 : (Tryz.prog.stopsHeard : Bool) = true := by kernel_rfl
theorem Qps : (Tryz.prog.mayEnter : Bool) = true := by kernel_rfl
theorem Qph : ((Rows.fnExactSpotOfRow.lifted == Tryz.prog.liftsFinal) : Bool) = true := by kernel_rfl
theorem Qpx : ((Tryz.prog.make == some Rows.fnExactSpotOfRow.make) : Bool) = true := by kernel_rfl
theorem Qqf : ((Rows.fnExactSpotOfRow.kinds == (if Rows.fnExactSpotOfRow.domain.isEmpty then [] else Tryz.f4.params.toList.map fun t => match Tryz.prog.underlying t with | some (.int k) => some k | _ => none)) : Bool) = true := by kernel_rfl
theorem Qqk : ((Rows.fnExactSpotOfRow.pinned == Rows.fnExactSpotOfRow.pinnedBy) : Bool) = true := by kernel_rfl
theorem Qp3 : ((Rows.fnExactSpotOfRow.veiled == (Tryz.f4.params.toList ++ Rows.fnExactSpotOfSpec.plain.varTypes Tryz.prog ++ Tryz.f4.resultTypes.toList).any (Tryz.prog.veiledRec ·)) : Bool) = true := by kernel_rfl
theorem Qpw : (Rows.fnExactSpotOfRow.veiledFits Tryz.prog Tryz.f4.params.toList (Tryz.f4.params.toList ++ Rows.fnExactSpotOfSpec.plain.varTypes Tryz.prog ++ Tryz.f4.resultTypes.toList) : Bool) = true := by kernel_rfl
set_option maxRecDepth 100000 in
theorem Qog : joinedFacts Tryz.prog 4 Tryz.f4 Rows.fnExactSpotOfSpec Rows.fnExactSpotOfRow = true := by unfold joinedFacts; exact (Qa7 (Qa7 (Qa7 (Qa7 (Qa7 (Qa7 (Qa7 (Qa7 (Qa7 (Qa7 (Qa7 (Qa7 (Qa7 (Qa7 (Qa7 (Qa7 (Qa7 (Qa7 (Qa7 (Qa7 (Qa7 (Qa7 (Qa7 (Qa7 (Qa7 (Qa7 (Qa7 (Qa7 (Qa7 (Qa7 (Qa7 Qqy Qr3) Qr2) Qr1) Qrl) Qr0) Qqr) Qrh) Qqt) Qr8) Qoy) Qpm) Qpl) Qqd) Qp8) Qp5) Qq5) Qpr) Qou) Qq2) Qpt) Qpj) Qpa) Qqe) Qq4) Qps) Qph) Qpx) Qqf) Qqk) Qp3) Qpw)
theorem op3 {H : Type} {enc : TypeId × Value → H} {W : World} : Qj8 enc Tryz.prog W 3 o3 (fun x => (Lit.int .i64 x).wf = true) := (Xfz (Qap ty3)).map id (fun _ => rfl) (fun _ h => h)
theorem Xmc {H : Type} {enc : TypeId × Value → H} {W : World} : Qj8 enc Tryz.prog W 132 Qae (fun x => x < 18446744073709551616) := (Xag (Qap Qpq)).map id (fun _ => rfl) (fun _ h => h)
instance : Inhabited GOp := ⟨⟨0, 0, 0, 0⟩⟩
theorem op200 {H : Type} {enc : TypeId × Value → H} {W : World} : Qj8 enc Tryz.prog W 200 Quy (fun x => Qy9 x) := by
 have h := Qh6 (enc := enc) (w := W) (Qap Xng) (m := 4) (by kernel_rfl) (L := [(0, 3), (1, 3), (2, 3), (3, 132)]) rfl (Qb4 (sz := 1) (by kernel_rfl) rfl op3 (Qb4 (sz := 1) (by kernel_rfl) rfl op3 (Qb4 (sz := 1) (by kernel_rfl) rfl op3 (Qb4 (sz := 1) (by kernel_rfl) rfl Xmc Qjn))))
 exact h.map (fun p => (⟨p.1, p.2.1, p.2.2.1, p.2.2.2.1⟩ : GOp)) (fun _ => rfl) (fun p h => ⟨h.1, h.2.1, h.2.2.1, h.2.2.2.1⟩)
theorem op151 {H : Type} {enc : TypeId × Value → H} {W : World} : Qj8 enc Tryz.prog W 151 Qr4 (fun x => x.length ≤ 9223372036854775807 ∧ ∀ y0 ∈ x, Qy9 y0) := (Qhx (Qap Xna) (sz := 4) (by kernel_rfl) (by decide) op200).map id (fun _ => rfl) (fun _ h => h)
theorem op22 {H : Type} {enc : TypeId × Value → H} {W : World} : Qj8 enc Tryz.prog W 22 r22 (fun x => x.length ≤ 9223372036854775807 ∧ ∀ y0 ∈ x, y0.length ≤ 9223372036854775807 ∧ ∀ y1 ∈ y0, Qy9 y1) := (Qhx (Qap ty22) (sz := 1) (by kernel_rfl) (by decide) op151).map id (fun _ => rfl) (fun _ h => h)
instance : Inhabited Qag := ⟨⟨0, 0, 0, []⟩⟩
theorem op24 {H : Type} {enc : TypeId × Value → H} {W : World} : Qj8 enc Tryz.prog W 24 r24 (fun x => Qom x) := by
 have h := Qh6 (enc := enc) (w := W) (Qap ty24) (m := 4) (by kernel_rfl) (L := [(0, 3), (1, 3), (2, 3), (3, 22)]) rfl (Qb4 (sz := 1) (by kernel_rfl) rfl op3 (Qb4 (sz := 1) (by kernel_rfl) rfl op3 (Qb4 (sz := 1) (by kernel_rfl) rfl op3 (Qb4 (sz := 1) (by kernel_rfl) rfl op22 Qjn))))
 exact h.map (fun p => (⟨p.1, p.2.1, p.2.2.1, p.2.2.2.1⟩ : Qag)) (fun _ => rfl) (fun p h => ⟨h.1, h.2.1, h.2.2.1, h.2.2.2.1⟩)
instance : Inhabited Qab := ⟨⟨0, 0, 0, 0, 0⟩⟩
theorem op161 {H : Type} {enc : TypeId × Value → H} {W : World} : Qj8 enc Tryz.prog W 161 Qul (fun x => Qxd x) := by
 have h := Qh6 (enc := enc) (w := W) (Qap Xmm) (m := 5) (by kernel_rfl) (L := [(0, 3), (1, 3), (2, 3), (3, 3), (4, 3)]) rfl (Qb4 (sz := 1) (by kernel_rfl) rfl op3 (Qb4 (sz := 1) (by kernel_rfl) rfl op3 (Qb4 (sz := 1) (by kernel_rfl) rfl op3 (Qb4 (sz := 1) (by kernel_rfl) rfl op3 (Qb4 (sz := 1) (by kernel_rfl) rfl op3 Qjn)))))
 exact h.map (fun p => (⟨p.1, p.2.1, p.2.2.1, p.2.2.2.1, p.2.2.2.2.1⟩ : Qab)) (fun _ => rfl) (fun p h => ⟨h.1, h.2.1, h.2.2.1, h.2.2.2.1, h.2.2.2.2.1⟩)
theorem op25 {H : Type} {enc : TypeId × Value → H} {W : World} : Qj8 enc Tryz.prog W 25 r25 (fun x => x.length ≤ 9223372036854775807 ∧ ∀ y0 ∈ x, Qxd y0) := (Qhx (Qap ty25) (sz := 5) (by kernel_rfl) (by decide) op161).map id (fun _ => rfl) (fun _ h => h)
theorem op26 {H : Type} {enc : TypeId × Value → H} {W : World} : Qj8 enc Tryz.prog W 26 r26 (fun x => x.length ≤ 9223372036854775807 ∧ ∀ y0 ∈ x, (Lit.int .i64 y0).wf = true) := (Qhx (Qap ty26) (sz := 1) (by kernel_rfl) (by decide) op3).map id (fun _ => rfl) (fun _ h => h)
theorem op28 {H : Type} {enc : TypeId × Value → H} {W : World} : Qj8 enc Tryz.prog W 28 r28 (fun x => x.length ≤ 9223372036854775807 ∧ ∀ y0 ∈ x, y0 < 18446744073709551616) := (Qhx (Qap ty28) (sz := 1) (by kernel_rfl) (by decide) Xmc).map id (fun _ => rfl) (fun _ h => h)
instance : Inhabited Qa0 := ⟨⟨0, 0, 0, 0, 0, []⟩⟩
theorem op198 {H : Type} {enc : TypeId × Value → H} {W : World} : Qj8 enc Tryz.prog W 198 Qnu (fun x => Qmv x) := by
 have h := Qh6 (enc := enc) (w := W) (Qap Xnd) (m := 6) (by kernel_rfl) (L := [(0, 3), (1, 3), (2, 3), (3, 3), (4, 3), (5, 28)]) rfl (Qb4 (sz := 1) (by kernel_rfl) rfl op3 (Qb4 (sz := 1) (by kernel_rfl) rfl op3 (Qb4 (sz := 1) (by kernel_rfl) rfl op3 (Qb4 (sz := 1) (by kernel_rfl) rfl op3 (Qb4 (sz := 1) (by kernel_rfl) rfl op3 (Qb4 (sz := 1) (by kernel_rfl) rfl op28 Qjn))))))
 exact h.map (fun p => (⟨p.1, p.2.1, p.2.2.1, p.2.2.2.1, p.2.2.2.2.1, p.2.2.2.2.2.1⟩ : Qa0)) (fun _ => rfl) (fun p h => ⟨h.1, h.2.1, h.2.2.1, h.2.2.2.1, h.2.2.2.2.1, h.2.2.2.2.2.1⟩)
theorem op27 {H : Type} {enc : TypeId × Value → H} {W : World} : Qj8 enc Tryz.prog W 27 r27 (fun x => x.length ≤ 9223372036854775807 ∧ ∀ y0 ∈ x, Qmv y0) := (Qhx (Qap ty27) (sz := 6) (by kernel_rfl) (by decide) op198).map id (fun _ => rfl) (fun _ h => h)
instance : Inhabited Qa1 := ⟨⟨[], [], [], 0⟩⟩
theorem op30 {H : Type} {enc : TypeId × Value → H} {W : World} : Qj8 enc Tryz.prog W 30 r30 (fun x => Qss x) := by
 have h := Qh6 (enc := enc) (w := W) (Qap ty30) (m := 4) (by kernel_rfl) (L := [(0, 27), (1, 28), (2, 26), (3, 3)]) rfl (Qb4 (sz := 1) (by kernel_rfl) rfl op27 (Qb4 (sz := 1) (by kernel_rfl) rfl op28 (Qb4 (sz := 1) (by kernel_rfl) rfl op26 (Qb4 (sz := 1) (by kernel_rfl) rfl op3 Qjn))))
 exact h.map (fun p => (⟨p.1, p.2.1, p.2.2.1, p.2.2.2.1⟩ : Qa1)) (fun _ => rfl) (fun p h => ⟨h.1, h.2.1, h.2.2.1, h.2.2.2.1⟩)
instance : Inhabited Qbx := ⟨⟨0, [], [], default⟩⟩
theorem op32 {H : Type} {enc : TypeId × Value → H} {W : World} : Qj8 enc Tryz.prog W 32 r32 (fun x => Qyy x) := by
 have h := Qh6 (enc := enc) (w := W) (Qap ty32) (m := 7) (by kernel_rfl) (L := [(0, 3), (1, 25), (2, 26), (3, 30)]) rfl (Qb4 (sz := 1) (by kernel_rfl) rfl op3 (Qb4 (sz := 1) (by kernel_rfl) rfl op25 (Qb4 (sz := 1) (by kernel_rfl) rfl op26 (Qb4 (sz := 4) (by kernel_rfl) rfl op30 Qjn))))
 exact h.map (fun p => (⟨p.1, p.2.1, p.2.2.1, p.2.2.2.1⟩ : Qbx)) (fun _ => rfl) (fun p h => ⟨h.1, h.2.1, h.2.2.1, h.2.2.2.1⟩)
set_option maxRecDepth 100000 in
theorem lifted (os : Os) (started : os.Started) (H : Type) (enc : TypeId × Value → H) :
  ReturnsInHanded {} Tryz.checked os 4 .any (Rows.fnExactSpotOfSpec.pre6 enc Tryz.prog Tryz.f4 Rows.fnExactSpotOfRow.domain false) (Rows.fnExactSpotOfSpec.post enc Tryz.prog Tryz.f4 false true false false) := by
 refine returnsInHanded_of_change (C := Tryz.checked) Xhq started (by kernel_rfl) Tryz.func4
  (ChangeSpec.witness6 (enc := enc) (C := Tryz.checked) false ⟨#[], #[.agg #[.int .i64 0, .int .i64 0, .int .i64 0, .slice none 0 0], .agg #[.int .i64 0, .slice none 0 0, .slice none 0 0, .slice none 0 0, .slice none 0 0, .slice none 0 0, .int .i64 0], .int .i64 0], []⟩ 8 (by kernel_rfl) (by kernel_rfl) (by kernel_rfl) (by kernel_rfl)) ?_
 intro W base args ds gs before hval0 hW hcnd _
 have hval : ∀ (j : Nat) t v, Tryz.f4.params[j]? = some t → args[j]? = some v → Value.okWide Tryz.prog W .any base t v := hval0
 have hW' := hW
 obtain ⟨p, q, hA0, hV, rfl, hfz, hnd⟩ := hW
 have hA : DataW.TrodAll enc Tryz.prog W 0 (fun _ => true) true Tryz.f4.params.toList args.toList ds p := hA0
 rw [Tryz.params4] at hA hval
 obtain ⟨v0, vs0, d0, ds0, p0, q0, hargs, rfl, rfl, h0, r0⟩ := trodAll_cons hA
 obtain ⟨v1, vs1, d1, ds1, p1, q1, rfl, rfl, rfl, h1, r1⟩ := trodAll_cons r0
 obtain ⟨v2, vs2, d2, ds2, p2, q2, rfl, rfl, rfl, h2, r2⟩ := trodAll_cons r1
 obtain ⟨rfl, rfl, rfl⟩ := trodAll_nil r2
 obtain rfl : args = #[v0, v1, v2] := by cases args; simp_all
 obtain ⟨rfl, rfl⟩ := trodVars_none hV
 have k0 := h0
 have lt0 : ∀ x ∈ p0, x.block < W.heap.size := by obtain ⟨m, hm⟩ := k0; exact DataW.trod_lt m _ _ _ hm
 have k1 := h1
 have lt1 : ∀ x ∈ p1, x.block < W.heap.size := by obtain ⟨m, hm⟩ := k1; exact DataW.trod_lt m _ _ _ hm
 have k2 := h2
 have lt2 : ∀ x ∈ p2, x.block < W.heap.size := by obtain ⟨m, hm⟩ := k2; exact DataW.trod_lt m _ _ _ hm
 obtain ⟨x0, g0, rep0⟩ := Xbq op24 h0 (okWide_struct (Qap ty24) (hval 0 _ v0 rfl rfl))
 obtain ⟨x1, g1, rep1⟩ := Xbq op32 h1 (okWide_struct (Qap ty32) (hval 1 _ v1 rfl rfl))
 obtain ⟨x2, e2, _, _, wf2⟩ := open_int (Qap ty3) (hval 2 _ v2 rfl rfl) k2
 subst e2
 have rep2 : rep W (fun b => b < W.heap.size) (.lit (.int .i64 x2)) (.int .i64 x2) [] := by simp [rep]
 have hm := (Qnr (Xc1 x0 x1 x2 g0 g1 wf2)).2 W (fun b => b < W.heap.size) [v0, v1, (.int .i64 x2)] (by simp only [Qfb]; exact ⟨_, _, [], [], rfl, rfl, rep0, ⟨_, _, [], [], rfl, rfl, rep1, ⟨_, [], [], [], rfl, rfl, rep2, rfl, rfl⟩⟩⟩) (fun _ h => h)
 clear hA0 hval0
 refine hm.mono fun e W' ⟨v, fp, he, bel, _, hr, _⟩ => ?_
 subst he
 obtain rfl : v = .bool true := by simp only [rep] at hr; exact hr.2
 exact ⟨_, rfl, _, _, _, [], _, [], hW', trodAll_mk1 (shut_bool (Qap ty4) _), (trodAll_cons_mk (Below.trod Qx5 (by kernel_rfl) (of_decide_eq_true (by kernel_rfl)) k0 bel lt0) (trodAll_cons_mk (Below.trod Qx5 (by kernel_rfl) (of_decide_eq_true (by kernel_rfl)) k1 bel lt1) (trodAll_cons_mk (Below.trod Qx5 (by kernel_rfl) (of_decide_eq_true (by kernel_rfl)) k2 bel lt2) trodAll_mk0))), rfl, bel.frame _, fun h => by cases h⟩
theorem named : Tryz.prog.funcNamed Rows.fnExactSpotOfRow.func = some 4 := by kernel_rfl
theorem fnExactSpotOf_proved : Rows.FnExactSpotOfSaid :=
 OpenClaim.holds_of_wide 4 Tryz.f4 rfl rfl rfl rfl rfl rfl rfl ⟨rfl, rfl, rfl, rfl, rfl⟩ rfl rfl rfl rfl rfl named Tryz.func4 Qog
  (of_decide_eq_true (by kernel_rfl)) (by unfold Func.isWrapper; first | (rw [if_pos (by decide +kernel)]; kernel_rfl) | (rw [if_neg (by decide +kernel)]; exact ⟨rfl, rfl⟩))
  (fun os started H enc _ => lifted os started H enc)
end Go.Proofs.YtemmdkcpcjidmaaGreat
