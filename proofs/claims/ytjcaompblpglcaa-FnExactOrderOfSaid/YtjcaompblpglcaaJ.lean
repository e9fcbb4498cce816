/- The program's OrderOf returns what the reference's returns, for all arguments; no condition. -/

import Derived.Test.YtjcaompblpglcaaTW
import Derived.Test.YtjcaompblpglcaaOR4
import Derived.Test.YtjcaompblpglcaaRows
import Derived.WalkKit
import Derived.ProofKit
import Derived.OpenShut
import Derived.ShutString
import Derived.ChangeOld
import Derived.Below
set_option linter.unusedVariables false
namespace Go.Proofs.Ytjcaompblpglcaa
open Go Go.T
open Go.ChangeShapes Go.WideShapes Go.ChangeAt Go.RowKit
open Go.ChangeMaps (open_string shut_string)
theorem Qzf : ownKnob Try.prog.godebug = none := by kernel_rfl
theorem Qyx : laidOutB Try.prog = true := by kernel_rfl
theorem Qa1 {a b : Bool} (h : a = true) (k : b = true) : (a && b) = true := by rw [h, k]; rfl
theorem Qkm : (Rows.fnExactOrderOfRow.wf (OpenSpec.ofChange Rows.fnExactOrderOfSpec) : Bool) = true := by kernel_rfl
theorem Ql1 : (laidOutB Try.prog : Bool) = true := by kernel_rfl
theorem Qk5 : (mapsRowed Try.prog : Bool) = true := by kernel_rfl
theorem Ql5 : (Try.f3.params.all (Try.prog.readableRec ·) : Bool) = true := by kernel_rfl
theorem Ql3 : (namedTie Try.prog Rows.fnExactOrderOfRow.named Rows.fnExactOrderOfSpec.vars : Bool) = true := by kernel_rfl
theorem Qk6 : ((Rows.fnExactOrderOfRow.stops == []) : Bool) = true := by kernel_rfl
theorem Ql0 : ((Try.prog.stops == []) : Bool) = true := by kernel_rfl
theorem Qkw : ((Rows.fnExactOrderOfRow.knobs == []) : Bool) = true := by kernel_rfl
theorem Qko : ((Try.prog.stopKnobs == []) : Bool) = true := by kernel_rfl
theorem Qkl : ((Rows.fnExactOrderOfRow.inPlace == Try.prog.inPlace 3) : Bool) = true := by kernel_rfl
theorem Qjb : ((Rows.fnExactOrderOfRow.unfollowed == Try.prog.unfollowed 3) : Bool) = true := by kernel_rfl
theorem Qju : ((Rows.fnExactOrderOfRow.recurses == Try.prog.recurses 3) : Bool) = true := by kernel_rfl
theorem Qjl : ((Rows.fnExactOrderOfRow.named == Try.prog.varsNamed 3) : Bool) = true := by kernel_rfl
theorem Qjq : ((Rows.fnExactOrderOfRow.maps == (Try.f3.params.toList ++ Rows.fnExactOrderOfSpec.plain.varTypes Try.prog).any (Try.prog.mapsRec ·)) : Bool) = true := by kernel_rfl
theorem Qk1 : ((Rows.fnExactOrderOfRow.ifaces == (Try.f3.params.toList ++ Rows.fnExactOrderOfSpec.plain.varTypes Try.prog).any (Try.prog.ifacesRec ·)) : Bool) = true := by kernel_rfl
theorem Qjz : ((Rows.fnExactOrderOfRow.mapsOut == Try.prog.mapsAmong Try.f3.resultTypes.toList) : Bool) = true := by kernel_rfl
theorem Qj8 : ((Rows.fnExactOrderOfRow.loops == (Try.f3.params.toList ++ Rows.fnExactOrderOfSpec.plain.varTypes Try.prog).any (Try.prog.loopsFrom ·)) : Bool) = true := by kernel_rfl
theorem Qjk : ((Rows.fnExactOrderOfRow.wideKeys == (Try.f3.params.toList ++ Rows.fnExactOrderOfSpec.plain.varTypes Try.prog ++ Try.f3.resultTypes.toList).any (Try.prog.wideKeysFrom ·)) : Bool) = true := by kernel_rfl
theorem Qjy : (Rows.fnExactOrderOfSpec.vars.all (Try.prog.varReadable ·) : Bool) = true := by kernel_rfl
theorem Qjj : (Try.f3.resultTypes.all (fun t => Try.prog.readableRec t && decide (t < Try.prog.types.size)) : Bool) = true := by kernel_rfl
theorem Qje : ((Rows.fnExactOrderOfRow.ifacesOut == Try.f3.resultTypes.toList.any (Try.prog.ifacesRec ·)) : Bool) = true := by kernel_rfl
theorem Qj7 : ((Rows.fnExactOrderOfRow.loopsOut == Try.f3.resultTypes.toList.any (Try.prog.loopsFrom ·)) : Bool) = true := by kernel_rfl
theorem Qjh : ((Rows.fnExactOrderOfRow.plainKeys == Try.prog.plainKeys) : Bool) = true := by kernel_rfl
theorem Qjv : (Rows.fnExactOrderOfRow.shortTexts.isNone : Bool) = true := by kernel_rfl
theorem Qjs : (Try.prog.stopsHeard : Bool) = true := by kernel_rfl
theorem Qjw : (Try.prog.mayEnter : Bool) = true := by kernel_rfl
theorem Qj4 : ((Rows.fnExactOrderOfRow.lifted == Try.prog.liftsFinal) : Bool) = true := by kernel_rfl
theorem Qj9 : ((Try.prog.make == some Rows.fnExactOrderOfRow.make) : Bool) = true := by kernel_rfl
theorem Qk2 : ((Rows.fnExactOrderOfRow.kinds == (if Rows.fnExactOrderOfRow.domain.isEmpty then [] else Try.f3.params.toList.map fun t => match Try.prog.underlying t with | some (.int k) => some k | _ => none)) : Bool) = true := by kernel_rfl
theorem Qjf : ((Rows.fnExactOrderOfRow.pinned == Rows.fnExactOrderOfRow.pinnedBy) : Bool) = true := by kernel_rfl
theorem Qj6 : ((Rows.fnExactOrderOfRow.veiled == (Try.f3.params.toList ++ Rows.fnExactOrderOfSpec.plain.varTypes Try.prog ++ Try.f3.resultTypes.toList).any (Try.prog.veiledRec ·)) : Bool) = true := by kernel_rfl
theorem Qja : (Rows.fnExactOrderOfRow.veiledFits Try.prog Try.f3.params.toList (Try.f3.params.toList ++ Rows.fnExactOrderOfSpec.plain.varTypes Try.prog ++ Try.f3.resultTypes.toList) : Bool) = true := by kernel_rfl
set_option maxRecDepth 100000 in
theorem Qiq : joinedFacts Try.prog 3 Try.f3 Rows.fnExactOrderOfSpec Rows.fnExactOrderOfRow = true := by unfold joinedFacts; exact (Qa1 (Qa1 (Qa1 (Qa1 (Qa1 (Qa1 (Qa1 (Qa1 (Qa1 (Qa1 (Qa1 (Qa1 (Qa1 (Qa1 (Qa1 (Qa1 (Qa1 (Qa1 (Qa1 (Qa1 (Qa1 (Qa1 (Qa1 (Qa1 (Qa1 (Qa1 (Qa1 (Qa1 (Qa1 (Qa1 (Qa1 Qkm Ql1) Qk5) Ql5) Ql3) Qk6) Ql0) Qkw) Qko) Qkl) Qjb) Qju) Qjl) Qjq) Qk1) Qjz) Qj8) Qjk) Qjy) Qjj) Qje) Qj7) Qjh) Qjv) Qjs) Qjw) Qj4) Qj9) Qk2) Qjf) Qj6) Qja)
theorem op3 {H : Type} {enc : TypeId × Value → H} {W : World} : Qlk enc Try.prog W 3 o3 (fun x => (Lit.int .i64 x).wf = true) := (Qxn (Qag ty3)).map id (fun _ => rfl) (fun _ h => h)
instance : Inhabited Qa0 := ⟨⟨0, 0, 0, 0, 0⟩⟩
theorem op44 {H : Type} {enc : TypeId × Value → H} {W : World} : Qlk enc Try.prog W 44 o44 (fun x => Quv x) := by
 have h := Qsx (enc := enc) (w := W) (Qag ty44) (m := 5) (by kernel_rfl) (L := [(0, 3), (1, 3), (2, 3), (3, 3), (4, 3)]) rfl (Qfs (sz := 1) (by kernel_rfl) rfl op3 (Qfs (sz := 1) (by kernel_rfl) rfl op3 (Qfs (sz := 1) (by kernel_rfl) rfl op3 (Qfs (sz := 1) (by kernel_rfl) rfl op3 (Qfs (sz := 1) (by kernel_rfl) rfl op3 Qvw)))))
 exact h.map (fun p => (⟨p.1, p.2.1, p.2.2.1, p.2.2.2.1, p.2.2.2.2.1⟩ : Qa0)) (fun _ => rfl) (fun p h => ⟨h.1, h.2.1, h.2.2.1, h.2.2.2.1, h.2.2.2.2.1⟩)
theorem op22 {H : Type} {enc : TypeId × Value → H} {W : World} : Qlk enc Try.prog W 22 r22 (fun x => x.length ≤ 9223372036854775807 ∧ ∀ y0 ∈ x, Quv y0) := (Qtt (Qag ty22) (sz := 5) (by kernel_rfl) (by decide) op44).map id (fun _ => rfl) (fun _ h => h)
set_option maxRecDepth 100000 in
theorem lifted (os : Os) (started : os.Started) (H : Type) (enc : TypeId × Value → H) :
  ReturnsInHanded {} Try.checked os 3 .any (Rows.fnExactOrderOfSpec.pre6 enc Try.prog Try.f3 Rows.fnExactOrderOfRow.domain false) (Rows.fnExactOrderOfSpec.post enc Try.prog Try.f3 false true false false) := by
 refine returnsInHanded_of_change (C := Try.checked) Qzf started (by kernel_rfl) Try.func3
  (ChangeSpec.witness6 (enc := enc) (C := Try.checked) false ⟨#[], #[.slice none 0 0], []⟩ 8 (by kernel_rfl) (by kernel_rfl) (by kernel_rfl) (by kernel_rfl)) ?_
 intro W base args ds gs before hval0 hW hcnd _
 have hval : ∀ (j : Nat) t v, Try.f3.params[j]? = some t → args[j]? = some v → Value.okWide Try.prog W .any base t v := hval0
 have hW' := hW
 obtain ⟨p, q, hA0, hV, rfl, hfz, hnd⟩ := hW
 have hA : DataW.TrodAll enc Try.prog W 0 (fun _ => true) true Try.f3.params.toList args.toList ds p := hA0
 rw [Try.params3] at hA hval
 obtain ⟨v0, vs0, d0, ds0, p0, q0, hargs, rfl, rfl, h0, r0⟩ := trodAll_cons hA
 obtain ⟨rfl, rfl, rfl⟩ := trodAll_nil r0
 obtain rfl : args = #[v0] := by cases args; simp_all
 obtain ⟨rfl, rfl⟩ := trodVars_none hV
 have k0 := h0
 have lt0 : ∀ x ∈ p0, x.block < W.heap.size := by obtain ⟨m, hm⟩ := k0; exact DataW.trod_lt m _ _ _ hm
 obtain ⟨x0, g0, rep0⟩ := Qzg (f := fun (x : (List Qa0)) => AV.ro 5 (x.map o44)) op22 h0 (okWide_slice (Qag ty22) (hval 0 _ v0 rfl rfl))
 have hm := (Qi4 (Qto x0 g0.1)).2 W (fun b => b < W.heap.size) [v0] (by simp only [Qcy]; exact ⟨_, [], [], [], rfl, rfl, rep0, rfl, rfl⟩) (fun _ h => h)
 clear hA0 hval0
 refine hm.mono fun e W' ⟨v, fp, he, bel, _, hr, _⟩ => ?_
 subst he
 obtain rfl : v = .bool true := by simp only [rep] at hr; exact hr.2
 exact ⟨_, rfl, _, _, _, [], _, [], hW', trodAll_mk1 (shut_bool (Qag ty4) _), (trodAll_cons_mk (Below.trod Qyx (by kernel_rfl) (of_decide_eq_true (by kernel_rfl)) k0 bel lt0) trodAll_mk0), rfl, bel.frame _, fun h => by cases h⟩
theorem named : Try.prog.funcNamed Rows.fnExactOrderOfRow.func = some 3 := by kernel_rfl
theorem fnExactOrderOf_proved : Rows.FnExactOrderOfSaid :=
 OpenClaim.holds_of_wide 3 Try.f3 rfl rfl rfl rfl rfl rfl rfl ⟨rfl, rfl, rfl, rfl, rfl⟩ rfl rfl rfl rfl rfl named Try.func3 Qiq
  (of_decide_eq_true (by kernel_rfl)) (by unfold Func.isWrapper; first | (rw [if_pos (by decide +kernel)]; kernel_rfl) | (rw [if_neg (by decide +kernel)]; exact ⟨rfl, rfl⟩))
  (fun os started H enc _ => lifted os started H enc)
end Go.Proofs.Ytjcaompblpglcaa
