/- UM: part of the layer and the walks that the claims of this seat stand on; no condition of its own. -/
import Derived.Test.YtefcdjocfjpjgaaTT
import Derived.Test.YtefcdjocfjpjgaaUL
import Derived.Test.YtefcdjocfjpjgaaUN
import Derived.Test.YtefcdjocfjpjgaaRows
import Derived.WalkKit
import Derived.ProofKit
import Derived.OpenShut
import Derived.ShutString
import Derived.ChangeOld
import Derived.Below
set_option linter.unusedVariables false
namespace Go.Proofs.Ytefcdjocfjpjgaa
open Go Go.T
open Go.ChangeShapes Go.WideShapes Go.ChangeAt Go.RowKit
open Go.ChangeMaps (open_string shut_string)

theorem own_Try : ownKnob Try.prog.godebug = none := by kernel_rfl
theorem laidOut_Try : laidOutB Try.prog = true := by kernel_rfl

def evV (e : Ev) : List Value := [.int .i64 e.th, .int .i64 e.kd, .int .i64 e.ob, .int .i64 e.lk, .int .i64 e.pc]
instance : Inhabited Ev := ⟨⟨0, 0, 0, 0, 0⟩⟩
set_option maxRecDepth 100000 in
theorem evV_el {H : Type} {enc : TypeId × Value → H} {w : World} (fuel : Nat) (cs : List Value) (x : DataW H × List MemPlace) (h : DataW.trod enc Try.prog w 0 (fun _ => true) true fuel 83 cs = some x) : ∃ a, cs = evV a := by
  obtain ⟨xs, n, _, _, hlc, hlx, hf⟩ := DataW.trod_struct (tiOf_und ty83) h
  have h5 : Try.prog.cellsOf 83 = 5 := by kernel_rfl
  have h1 : Try.prog.cellsOf 3 = 1 := by kernel_rfl
  rw [h5] at hlc
  have hx : ∀ i, i < 5 → xs[i]? = some (xs[i]?.getD default) := fun i hi => by
    have : i < xs.length := by rw [hlx]; exact hi
    simp [this]
  have f0 : DataW.trod enc Try.prog w 0 (fun _ => true) true n 3 ((cs.drop 0).take (Try.prog.cellsOf 3)) = xs[0]? := hf 0 _ rfl
  have f1 : DataW.trod enc Try.prog w 0 (fun _ => true) true n 3 ((cs.drop 1).take (Try.prog.cellsOf 3)) = xs[1]? := hf 1 _ rfl
  have f2 : DataW.trod enc Try.prog w 0 (fun _ => true) true n 3 ((cs.drop 2).take (Try.prog.cellsOf 3)) = xs[2]? := hf 2 _ rfl
  have f3 : DataW.trod enc Try.prog w 0 (fun _ => true) true n 3 ((cs.drop 3).take (Try.prog.cellsOf 3)) = xs[3]? := hf 3 _ rfl
  have f4 : DataW.trod enc Try.prog w 0 (fun _ => true) true n 3 ((cs.drop 4).take (Try.prog.cellsOf 3)) = xs[4]? := hf 4 _ rfl
  rw [hx _ (by omega)] at f0 f1 f2 f3 f4
  rw [h1] at f0 f1 f2 f3 f4
  obtain ⟨n0, e0, _⟩ := DataW.trod_int (tiOf_und ty3) f0
  obtain ⟨n1, e1, _⟩ := DataW.trod_int (tiOf_und ty3) f1
  obtain ⟨n2, e2, _⟩ := DataW.trod_int (tiOf_und ty3) f2
  obtain ⟨n3, e3, _⟩ := DataW.trod_int (tiOf_und ty3) f3
  obtain ⟨n4, e4, _⟩ := DataW.trod_int (tiOf_und ty3) f4
  match cs, hlc with
  | [c0, c1, c2, c3, c4], _ =>
    simp at e0 e1 e2 e3 e4
    subst e0 e1 e2 e3 e4
    exact ⟨⟨n0, n1, n2, n3, n4⟩, rfl⟩

set_option maxRecDepth 100000 in
theorem lifted_next (os : Os) (started : os.Started) (H : Type) (enc : TypeId × Value → H) :
    ReturnsInHanded {} Try.checked os 7 .any (Rows.fnExactNextAfterSpec.pre6 enc Try.prog Try.f7 Rows.fnExactNextAfterRow.domain false) (Rows.fnExactNextAfterSpec.post enc Try.prog Try.f7 false true false false) := by
  refine returnsInHanded_of_change (C := Try.checked) own_Try started (by kernel_rfl) Try.func7
    (ChangeSpec.witness6 (enc := enc) (C := Try.checked) false ⟨#[], #[.slice none 0 0], []⟩ 8 (by kernel_rfl) (by kernel_rfl) (by kernel_rfl) (by kernel_rfl)) ?_
  intro W base args ds gs before hval0 hW hcnd _
  have hval : ∀ (j : Nat) t v, Try.f7.params[j]? = some t → args[j]? = some v → Value.okWide Try.prog W .any base t v := hval0
  have hW' := hW
  obtain ⟨p, q, hA0, hV, rfl, hfz, hnd⟩ := hW
  have hA : DataW.TrodAll enc Try.prog W 0 (fun _ => true) true Try.f7.params.toList args.toList ds p := hA0
  rw [Try.params7] at hA hval
  obtain ⟨v0, vs0, d0, ds0, p0, q0, hargs, rfl, rfl, h0, r0⟩ := trodAll_cons hA
  obtain ⟨rfl, rfl, rfl⟩ := trodAll_nil r0
  obtain rfl : args = #[v0] := by cases args; simp_all
  obtain ⟨rfl, rfl⟩ := trodVars_none hV
  have hok := okWide_slice (tiOf_und ty31) (hval 0 _ v0 rfl rfl)
  have k0 := h0
  have lt0 : ∀ x ∈ p0, x.block < W.heap.size := by obtain ⟨m, hm⟩ := k0; exact DataW.trod_lt m _ _ _ hm
  obtain ⟨t, htl, hrep⟩ := open_rows evV (tiOf_und ty31) (sz := 5) (by kernel_rfl) (by decide) (fun _ => rfl) (fun x u hu => by simp [evV] at hu; rcases hu with rfl | rfl | rfl | rfl | rfl <;> rfl) evV_el h0 hok
  have hm := (lawNext_meets t htl).2 W (fun b => b < W.heap.size) [v0] (by simp only [repL]; exact ⟨v0, [], [], [], rfl, rfl, hrep, rfl, rfl⟩) (fun _ h => h)
  clear hA0 hval0
  refine hm.mono fun e W' ⟨v, fp, he, bel, hr, _⟩ => ?_
  subst he
  obtain rfl : v = .bool true := by simp only [rep] at hr; exact hr.2
  exact ⟨_, rfl, _, _, _, [], _, [], hW', trodAll_mk1 (shut_bool (tiOf_und ty4) _), (trodAll_cons_mk (Below.trod laidOut_Try (by kernel_rfl) (of_decide_eq_true (by kernel_rfl)) k0 bel lt0) trodAll_mk0), rfl, bel.frame _, fun h => by cases h⟩

theorem named_next : Try.prog.funcNamed Rows.fnExactNextAfterRow.func = some 7 := by kernel_rfl
theorem fnExactNextAfter_proved : Rows.FnExactNextAfterSaid :=
  OpenClaim.holds_of_wide 7 Try.f7 rfl rfl rfl rfl rfl rfl rfl ⟨rfl, rfl, rfl, rfl, rfl⟩ rfl rfl rfl rfl rfl named_next Try.func7 facts_fnExactNextAfter
    (of_decide_eq_true (by kernel_rfl)) (by unfold Func.isWrapper; first | (rw [if_pos (by decide +kernel)]; kernel_rfl) | (rw [if_neg (by decide +kernel)]; exact ⟨rfl, rfl⟩))
    (fun os started H enc _ => lifted_next os started H enc)
end Go.Proofs.Ytefcdjocfjpjgaa
