/- Functions as plain data, and that the code comes to them; no condition. -/

import Derived.Test.YthhcnmideecfpaaGreatGT
import Derived.Test.YthhcnmideecfpaaGreatSA
import Derived.Ground.SlgmProg
import Derived.Test.YthhcnmideecfpaaGreatSB
set_option linter.unusedVariables false
set_option maxRecDepth 100000
namespace Go.Proofs.YthhcnmideecfpaaGreat
open Go Go.T
noncomputable def body27 : Code := match Tryz.f27.body with | some c => c | none => .skip
noncomputable def impl_in (p1 : Int) (p2 : Int) (p3 : Int) : Option Bool :=
  if (decide (p2 ≤ p1)) = true then
    some (decide (p1 ≤ p3))
  else
    some false
theorem impl_in_m {p1 : Int} {p2 : Int} {p3 : Int} {r : Bool} (h : impl_in p1 p2 p3 = some r) : Meets Tryz.prog 27 [(I p1), (I p2), (I p3)] (B r) := by
  refine meets_ofC Θ_ok Tryz.func27 rfl (c := body27) (by kernel_rfl) (Nat.le_of_ble_eq_true rfl) ?_
  intro E hP hn hx
  replace hn : E.n = 15 := hn
  have hm : E.P.follows .mixedOrders = true := by rw [hP]; exact mixed
  have hΘ : TOK E.P Θ := by rw [hP]; exact Θ_ok
  unfold impl_in at h
  show WAt E body27 (FQ (RetE Θ Tryz.f27.results.toList [] [] (B r) E)) [] ⟨[(0, (I p1)), (1, (I p2)), (2, (I p3))], [], [JJ]⟩
  rcases itS h with ⟨c4, h⟩ | ⟨c5, h⟩
  · have h := Option.some.inj h
    subst h
    exact go_ret hΘ hm hP hn (hs := [⟨4, .no, some (B true)⟩]) (rh := []) (ph := .raw) (ps := [(B (decide (p2 ≤ p1))) = (B true), (B (decide (p1 ≤ p3))) = (B (decide (p1 ≤ p3))), litA (B (decide (p1 ≤ p3))) = true]) (by kernel_rfl) ⟨(litB c4), rfl, rfl, trivial⟩
  · have h := Option.some.inj h
    subst h
    exact go_ret hΘ hm hP hn (hs := [⟨4, .no, some (B false)⟩]) (rh := []) (ph := .raw) (ps := [(B (decide (p2 ≤ p1))) = (B false), (B false) = (B false), litA (B false) = true]) (by kernel_rfl) ⟨(litB c5), rfl, rfl, trivial⟩
noncomputable def body83 : Code := match Tryz.f83.body with | some c => c | none => .skip
noncomputable def impl_Op_names_j0  (p1 : GOp) (v3 : Bool) : Option Int :=
  if v3 = true then
    some 1
  else
    if (p1.Code == 16) = true then
      some 2
    else
      some 0
theorem impl_Op_names_j0_m {E : Env} (hP : E.P = Tryz.prog) (hn : E.n = 16) (hx : ∀ p, p ∈ E.fx → p.1 ∈ ([] : List Nat)) (p1 : GOp)  (v3 : Bool) (r : Int) (h : impl_Op_names_j0 p1 v3 = some r) : WAt E body83 (FQ (RetE Θ Tryz.f83.results.toList [] [] (I r) E)) [true, false, true, false, true] ⟨[(4, (I p1.Code)), (5, (B v3))], [], [JJ]⟩ := by
  have hm : E.P.follows .mixedOrders = true := by rw [hP]; exact mixed
  have hΘ : TOK E.P Θ := by rw [hP]; exact Θ_ok
  unfold impl_Op_names_j0 at h
  rcases itS h with ⟨c4, h⟩ | ⟨c5, h⟩
  · have h := Option.some.inj h
    subst h
    exact go_ret hΘ hm hP hn (hs := [⟨0, .br true, none⟩]) (rh := []) (ph := .raw) (ps := [v3 = true, (I 1) = (I 1), litA (I 1) = true]) (by kernel_rfl) ⟨c4, rfl, rfl, trivial⟩
  · rcases itS h with ⟨c6, h⟩ | ⟨c7, h⟩
    · have h := Option.some.inj h
      subst h
      exact go_ret hΘ hm hP hn (hs := [⟨0, .br false, none⟩, ⟨3, .br true, none⟩]) (rh := []) (ph := .raw) (ps := [v3 = false, (p1.Code == 16) = true, (I 2) = (I 2), litA (I 2) = true]) (by kernel_rfl) ⟨c5, c6, rfl, rfl, trivial⟩
    · have h := Option.some.inj h
      subst h
      exact go_ret hΘ hm hP hn (hs := [⟨0, .br false, none⟩, ⟨3, .br false, none⟩]) (rh := []) (ph := .raw) (ps := [v3 = false, (p1.Code == 16) = false, (I 0) = (I 0), litA (I 0) = true]) (by kernel_rfl) ⟨c5, c7, rfl, rfl, trivial⟩
noncomputable def impl_Op_names (p1 : GOp) : Option Int :=
  if (p1.Code == 2) = true then
    impl_Op_names_j0 p1 (p1.Code == 2)
  else
    if (p1.Code == 3) = true then
      impl_Op_names_j0 p1 (p1.Code == 3)
    else
      if (p1.Code == 10) = true then
        impl_Op_names_j0 p1 (p1.Code == 10)
      else
        if (p1.Code == 11) = true then
          impl_Op_names_j0 p1 (p1.Code == 11)
        else
          if (p1.Code == 12) = true then
            impl_Op_names_j0 p1 (p1.Code == 12)
          else
            if (p1.Code == 13) = true then
              impl_Op_names_j0 p1 (p1.Code == 13)
            else
              if (p1.Code == 14) = true then
                impl_Op_names_j0 p1 (p1.Code == 14)
              else
                impl_Op_names_j0 p1 (p1.Code == 17)
theorem impl_Op_names_m {p1 : GOp} {r : Int} (h : impl_Op_names p1 = some r) : Meets Tryz.prog 83 [(AV.agg ((o77 p1)))] (I r) := by
  refine meets_ofC Θ_ok Tryz.func83 rfl (c := body83) (by kernel_rfl) (Nat.le_of_ble_eq_true rfl) ?_
  intro E hP hn hx
  replace hn : E.n = 16 := hn
  have hm : E.P.follows .mixedOrders = true := by rw [hP]; exact mixed
  have hΘ : TOK E.P Θ := by rw [hP]; exact Θ_ok
  unfold impl_Op_names at h
  show WAt E body83 (FQ (RetE Θ Tryz.f83.results.toList [] [] (I r) E)) [] ⟨[(0, (AV.agg ((o77 p1))))], [], [JJ]⟩
  rcases itS h with ⟨c2, h⟩ | ⟨c8, h⟩
  · exact go_to hΘ hm hx hP hn (hs := [⟨0, .new 1001, none⟩, ⟨6, .br true, none⟩]) (π := []) (ts := [4, 5]) (kp := []) (ps := [(p1.Code == 2) = true]) (by kernel_rfl) ⟨c2, trivial⟩ (impl_Op_names_j0_m hP hn hx p1 (p1.Code == 2) _ h)
  · rcases itS h with ⟨c9, h⟩ | ⟨c10, h⟩
    · exact go_to hΘ hm hx hP hn (hs := [⟨0, .new 1001, none⟩, ⟨6, .br false, none⟩, ⟨9, .br true, none⟩]) (π := []) (ts := [4, 5]) (kp := []) (ps := [(p1.Code == 2) = false, (p1.Code == 3) = true]) (by kernel_rfl) ⟨c8, c9, trivial⟩ (impl_Op_names_j0_m hP hn hx p1 (p1.Code == 3) _ h)
    · rcases itS h with ⟨c11, h⟩ | ⟨c12, h⟩
      · exact go_to hΘ hm hx hP hn (hs := [⟨0, .new 1001, none⟩, ⟨6, .br false, none⟩, ⟨9, .br false, none⟩, ⟨12, .br true, none⟩]) (π := []) (ts := [4, 5]) (kp := []) (ps := [(p1.Code == 2) = false, (p1.Code == 3) = false, (p1.Code == 10) = true]) (by kernel_rfl) ⟨c8, c10, c11, trivial⟩ (impl_Op_names_j0_m hP hn hx p1 (p1.Code == 10) _ h)
      · rcases itS h with ⟨c13, h⟩ | ⟨c14, h⟩
        · exact go_to hΘ hm hx hP hn (hs := [⟨0, .new 1001, none⟩, ⟨6, .br false, none⟩, ⟨9, .br false, none⟩, ⟨12, .br false, none⟩, ⟨15, .br true, none⟩]) (π := []) (ts := [4, 5]) (kp := []) (ps := [(p1.Code == 2) = false, (p1.Code == 3) = false, (p1.Code == 10) = false, (p1.Code == 11) = true]) (by kernel_rfl) ⟨c8, c10, c12, c13, trivial⟩ (impl_Op_names_j0_m hP hn hx p1 (p1.Code == 11) _ h)
        · rcases itS h with ⟨c15, h⟩ | ⟨c16, h⟩
          · exact go_to hΘ hm hx hP hn (hs := [⟨0, .new 1001, none⟩, ⟨6, .br false, none⟩, ⟨9, .br false, none⟩, ⟨12, .br false, none⟩, ⟨15, .br false, none⟩, ⟨18, .br true, none⟩]) (π := []) (ts := [4, 5]) (kp := []) (ps := [(p1.Code == 2) = false, (p1.Code == 3) = false, (p1.Code == 10) = false, (p1.Code == 11) = false, (p1.Code == 12) = true]) (by kernel_rfl) ⟨c8, c10, c12, c14, c15, trivial⟩ (impl_Op_names_j0_m hP hn hx p1 (p1.Code == 12) _ h)
          · rcases itS h with ⟨c17, h⟩ | ⟨c18, h⟩
            · exact go_to hΘ hm hx hP hn (hs := [⟨0, .new 1001, none⟩, ⟨6, .br false, none⟩, ⟨9, .br false, none⟩, ⟨12, .br false, none⟩, ⟨15, .br false, none⟩, ⟨18, .br false, none⟩, ⟨21, .br true, none⟩]) (π := []) (ts := [4, 5]) (kp := []) (ps := [(p1.Code == 2) = false, (p1.Code == 3) = false, (p1.Code == 10) = false, (p1.Code == 11) = false, (p1.Code == 12) = false, (p1.Code == 13) = true]) (by kernel_rfl) ⟨c8, c10, c12, c14, c16, c17, trivial⟩ (impl_Op_names_j0_m hP hn hx p1 (p1.Code == 13) _ h)
            · rcases itS h with ⟨c19, h⟩ | ⟨c20, h⟩
              · exact go_to hΘ hm hx hP hn (hs := [⟨0, .new 1001, none⟩, ⟨6, .br false, none⟩, ⟨9, .br false, none⟩, ⟨12, .br false, none⟩, ⟨15, .br false, none⟩, ⟨18, .br false, none⟩, ⟨21, .br false, none⟩, ⟨24, .br true, none⟩]) (π := []) (ts := [4, 5]) (kp := []) (ps := [(p1.Code == 2) = false, (p1.Code == 3) = false, (p1.Code == 10) = false, (p1.Code == 11) = false, (p1.Code == 12) = false, (p1.Code == 13) = false, (p1.Code == 14) = true]) (by kernel_rfl) ⟨c8, c10, c12, c14, c16, c18, c19, trivial⟩ (impl_Op_names_j0_m hP hn hx p1 (p1.Code == 14) _ h)
              · exact go_to hΘ hm hx hP hn (hs := [⟨0, .new 1001, none⟩, ⟨6, .br false, none⟩, ⟨9, .br false, none⟩, ⟨12, .br false, none⟩, ⟨15, .br false, none⟩, ⟨18, .br false, none⟩, ⟨21, .br false, none⟩, ⟨24, .br false, none⟩]) (π := []) (ts := [4, 5]) (kp := []) (ps := [(p1.Code == 2) = false, (p1.Code == 3) = false, (p1.Code == 10) = false, (p1.Code == 11) = false, (p1.Code == 12) = false, (p1.Code == 13) = false, (p1.Code == 14) = false]) (by kernel_rfl) ⟨c8, c10, c12, c14, c16, c18, c20, trivial⟩ (impl_Op_names_j0_m hP hn hx p1 (p1.Code == 17) _ h)
section
open Go.RowKit
theorem bits_run (m : Nat) (w : World) : (callFunc 92 #[.float .f64 m]).run Tryz.prog w = .ok (.value (.int .u64 (m : Int))) w := by
  rw [run_callFunc_extern Tryz.func92 (by kernel_rfl) (by kernel_rfl) (by kernel_rfl) (e := Extern.MathFloatBits.float64bits) (by kernel_rfl)]; rfl
theorem same_calls (m n : Nat) (w : World) : Calls Tryz.prog 84 #[.float .f64 m, .float .f64 n] w fun e w' => e = .returned (.bool (sameN m n)) ∧ w' = w := by
  have hB := bits_run
  have hi : ((m : Int) == (n : Int)) = (m == n) := by rw [Bool.eq_iff_iff, beq_iff_eq, beq_iff_eq]; exact ⟨fun h => by omega, fun h => by omega⟩
  have hs : sameN m n = ((fNaN m && fNaN n) || m == n) := rfl
  rw [hs]
  go_enter Tryz.func84, Tryz.ntmps84
  go_wp2
  all_goals first
    | (rename_i K ha
       rw [hB, Oper.upon_value]
       refine ha _ _ ?_
       clear ha
       go_wp2
       rename_i K2 ha2
       rw [hB, Oper.upon_value]
       refine ha2 _ _ ?_
       clear ha2
       go_wp2)
    | skip
  all_goals
    have c1 := nan_cmp m
    have c2 := nan_cmp n
    have d1 : FloatKind.f64.format.order m m = some .eq ↔ fNaN m = false := by rw [← c1]; simp
    have d2 : FloatKind.f64.format.order n n = some .eq ↔ fNaN n = false := by rw [← c2]; simp
    go_ret
    cases h1 : fNaN m <;> cases h2 : fNaN n <;> simp_all
end
noncomputable def impl_SameNum (p1 : Nat) (p2 : Nat) : Option Bool :=
  some (sameN p1 p2)
theorem impl_SameNum_m {p1 : Nat} {p2 : Nat} {r : Bool} (h : impl_SameNum p1 p2 = some r) : Meets Tryz.prog 84 [(FK p1), (FK p2)] (B r) := by
  cases h
  exact meets_same (Go.Proofs.enters_of Tryz.func84 rfl rfl) same_calls
noncomputable def body71 : Code := match Tryz.f71.body with | some c => c | none => .skip
noncomputable def impl_Op_fits (p1 : GOp) : Option Bool :=
  Option.bind (impl_Op_names p1) fun r2 =>
  Option.bind (impl_in p1.Code 1 17) fun r3 =>
  if r3 = true then
    if (decide (r2 > 0)) = true then
      if (decide (r2 > 1)) = true then
        if (p1.Code == 1) = true then
          some true
        else
          Option.bind (impl_SameNum p1.V 0) fun r9 =>
          some r9
      else
        if (p1.B == 0) = true then
          if (p1.Code == 1) = true then
            some true
          else
            Option.bind (impl_SameNum p1.V 0) fun r14 =>
            some r14
        else
          some false
    else
      if (p1.A == 0) = true then
        if (decide (r2 > 1)) = true then
          if (p1.Code == 1) = true then
            some true
          else
            Option.bind (impl_SameNum p1.V 0) fun r21 =>
            some r21
        else
          if (p1.B == 0) = true then
            if (p1.Code == 1) = true then
              some true
            else
              Option.bind (impl_SameNum p1.V 0) fun r30 =>
              some r30
          else
            some false
      else
        some false
  else
    some false
theorem impl_Op_fits_m {p1 : GOp} {r : Bool} (h : impl_Op_fits p1 = some r) : Meets Tryz.prog 71 [(AV.agg ((o77 p1)))] (B r) := by
  refine meets_ofC Θ_ok Tryz.func71 rfl (c := body71) (by kernel_rfl) (Nat.le_of_ble_eq_true rfl) ?_
  intro E hP hn hx
  replace hn : E.n = 37 := hn
  have hm : E.P.follows .mixedOrders = true := by rw [hP]; exact mixed
  have hΘ : TOK E.P Θ := by rw [hP]; exact Θ_ok
  unfold impl_Op_fits at h
  show WAt E body71 (FQ (RetE Θ Tryz.f71.results.toList [] [] (B r) E)) [] ⟨[(0, (AV.agg ((o77 p1))))], [], [JJ]⟩
  obtain ⟨r2, hr2, h⟩ := bnS h
  obtain ⟨r3, hr3, h⟩ := bnS h
  rcases itS h with ⟨c4, h⟩ | ⟨c33, h⟩
  · rcases itS h with ⟨c5, h⟩ | ⟨c16, h⟩
    · rcases itS h with ⟨c6, h⟩ | ⟨c10, h⟩
      · rcases itS h with ⟨c7, h⟩ | ⟨c8, h⟩
        · have h := Option.some.inj h
          subst h
          exact go_ret hΘ hm hP hn (hs := [⟨0, .new 1001, none⟩, ⟨3, .callV [[]] (I r2), none⟩, ⟨7, .callV [] (B r3), none⟩, ⟨8, .no, some (B true)⟩, ⟨11, .no, some (B true)⟩, ⟨20, .no, some (B true)⟩, ⟨30, .no, some (B true)⟩]) (rh := []) (ph := .raw) (ps := [Meets Tryz.prog 83 [(AV.agg ((o77 p1)))] (I r2), litA (I r2) = true, Meets Tryz.prog 27 [(I p1.Code), (I 1), (I 17)] (B r3), litA (B r3) = true, (B r3) = (B true), (B (decide (r2 > 0))) = (B true), (B (decide (r2 > 1))) = (B true), (B (p1.Code == 1)) = (B true), (B true) = (B true), litA (B true) = true]) (by kernel_rfl) ⟨(impl_Op_names_m hr2), rfl, (impl_in_m hr3), rfl, (litB c4), (litB c5), (litB c6), (litB c7), rfl, rfl, trivial⟩
        · obtain ⟨r9, hr9, h⟩ := bnS h
          have h := Option.some.inj h
          subst h
          exact go_ret hΘ hm hP hn (hs := [⟨0, .new 1001, none⟩, ⟨3, .callV [[]] (I r2), none⟩, ⟨7, .callV [] (B r3), none⟩, ⟨8, .no, some (B true)⟩, ⟨11, .no, some (B true)⟩, ⟨20, .no, some (B true)⟩, ⟨30, .no, some (B false)⟩, ⟨33, .callV [] (B r9), none⟩]) (rh := []) (ph := .raw) (ps := [Meets Tryz.prog 83 [(AV.agg ((o77 p1)))] (I r2), litA (I r2) = true, Meets Tryz.prog 27 [(I p1.Code), (I 1), (I 17)] (B r3), litA (B r3) = true, (B r3) = (B true), (B (decide (r2 > 0))) = (B true), (B (decide (r2 > 1))) = (B true), (B (p1.Code == 1)) = (B false), Meets Tryz.prog 84 [(FK p1.V), (FK 0)] (B r9), litA (B r9) = true, (B r9) = (B r9), litA (B r9) = true]) (by kernel_rfl) ⟨(impl_Op_names_m hr2), rfl, (impl_in_m hr3), rfl, (litB c4), (litB c5), (litB c6), (litB c8), (impl_SameNum_m hr9), rfl, rfl, rfl, trivial⟩
      · rcases itS h with ⟨c11, h⟩ | ⟨c15, h⟩
        · rcases itS h with ⟨c12, h⟩ | ⟨c13, h⟩
          · have h := Option.some.inj h
            subst h
            exact go_ret hΘ hm hP hn (hs := [⟨0, .new 1001, none⟩, ⟨3, .callV [[]] (I r2), none⟩, ⟨7, .callV [] (B r3), none⟩, ⟨8, .no, some (B true)⟩, ⟨11, .no, some (B true)⟩, ⟨20, .no, some (B false)⟩, ⟨26, .no, some (B true)⟩, ⟨30, .no, some (B true)⟩]) (rh := []) (ph := .raw) (ps := [Meets Tryz.prog 83 [(AV.agg ((o77 p1)))] (I r2), litA (I r2) = true, Meets Tryz.prog 27 [(I p1.Code), (I 1), (I 17)] (B r3), litA (B r3) = true, (B r3) = (B true), (B (decide (r2 > 0))) = (B true), (B (decide (r2 > 1))) = (B false), (B (p1.B == 0)) = (B true), (B (p1.Code == 1)) = (B true), (B true) = (B true), litA (B true) = true]) (by kernel_rfl) ⟨(impl_Op_names_m hr2), rfl, (impl_in_m hr3), rfl, (litB c4), (litB c5), (litB c10), (litB c11), (litB c12), rfl, rfl, trivial⟩
          · obtain ⟨r14, hr14, h⟩ := bnS h
            have h := Option.some.inj h
            subst h
            exact go_ret hΘ hm hP hn (hs := [⟨0, .new 1001, none⟩, ⟨3, .callV [[]] (I r2), none⟩, ⟨7, .callV [] (B r3), none⟩, ⟨8, .no, some (B true)⟩, ⟨11, .no, some (B true)⟩, ⟨20, .no, some (B false)⟩, ⟨26, .no, some (B true)⟩, ⟨30, .no, some (B false)⟩, ⟨33, .callV [] (B r14), none⟩]) (rh := []) (ph := .raw) (ps := [Meets Tryz.prog 83 [(AV.agg ((o77 p1)))] (I r2), litA (I r2) = true, Meets Tryz.prog 27 [(I p1.Code), (I 1), (I 17)] (B r3), litA (B r3) = true, (B r3) = (B true), (B (decide (r2 > 0))) = (B true), (B (decide (r2 > 1))) = (B false), (B (p1.B == 0)) = (B true), (B (p1.Code == 1)) = (B false), Meets Tryz.prog 84 [(FK p1.V), (FK 0)] (B r14), litA (B r14) = true, (B r14) = (B r14), litA (B r14) = true]) (by kernel_rfl) ⟨(impl_Op_names_m hr2), rfl, (impl_in_m hr3), rfl, (litB c4), (litB c5), (litB c10), (litB c11), (litB c13), (impl_SameNum_m hr14), rfl, rfl, rfl, trivial⟩
        · have h := Option.some.inj h
          subst h
          exact go_ret hΘ hm hP hn (hs := [⟨0, .new 1001, none⟩, ⟨3, .callV [[]] (I r2), none⟩, ⟨7, .callV [] (B r3), none⟩, ⟨8, .no, some (B true)⟩, ⟨11, .no, some (B true)⟩, ⟨20, .no, some (B false)⟩, ⟨26, .no, some (B false)⟩]) (rh := []) (ph := .raw) (ps := [Meets Tryz.prog 83 [(AV.agg ((o77 p1)))] (I r2), litA (I r2) = true, Meets Tryz.prog 27 [(I p1.Code), (I 1), (I 17)] (B r3), litA (B r3) = true, (B r3) = (B true), (B (decide (r2 > 0))) = (B true), (B (decide (r2 > 1))) = (B false), (B (p1.B == 0)) = (B false), (B false) = (B false), litA (B false) = true]) (by kernel_rfl) ⟨(impl_Op_names_m hr2), rfl, (impl_in_m hr3), rfl, (litB c4), (litB c5), (litB c10), (litB c15), rfl, rfl, trivial⟩
    · rcases itS h with ⟨c17, h⟩ | ⟨c32, h⟩
      · rcases itS h with ⟨c18, h⟩ | ⟨c22, h⟩
        · rcases itS h with ⟨c19, h⟩ | ⟨c20, h⟩
          · have h := Option.some.inj h
            subst h
            exact go_ret hΘ hm hP hn (hs := [⟨0, .new 1001, none⟩, ⟨3, .callV [[]] (I r2), none⟩, ⟨7, .callV [] (B r3), none⟩, ⟨8, .no, some (B true)⟩, ⟨11, .no, some (B false)⟩, ⟨17, .no, some (B true)⟩, ⟨20, .no, some (B true)⟩, ⟨30, .no, some (B true)⟩]) (rh := []) (ph := .raw) (ps := [Meets Tryz.prog 83 [(AV.agg ((o77 p1)))] (I r2), litA (I r2) = true, Meets Tryz.prog 27 [(I p1.Code), (I 1), (I 17)] (B r3), litA (B r3) = true, (B r3) = (B true), (B (decide (r2 > 0))) = (B false), (B (p1.A == 0)) = (B true), (B (decide (r2 > 1))) = (B true), (B (p1.Code == 1)) = (B true), (B true) = (B true), litA (B true) = true]) (by kernel_rfl) ⟨(impl_Op_names_m hr2), rfl, (impl_in_m hr3), rfl, (litB c4), (litB c16), (litB c17), (litB c18), (litB c19), rfl, rfl, trivial⟩
          · obtain ⟨r21, hr21, h⟩ := bnS h
            have h := Option.some.inj h
            subst h
            exact go_ret hΘ hm hP hn (hs := [⟨0, .new 1001, none⟩, ⟨3, .callV [[]] (I r2), none⟩, ⟨7, .callV [] (B r3), none⟩, ⟨8, .no, some (B true)⟩, ⟨11, .no, some (B false)⟩, ⟨17, .no, some (B true)⟩, ⟨20, .no, some (B true)⟩, ⟨30, .no, some (B false)⟩, ⟨33, .callV [] (B r21), none⟩]) (rh := []) (ph := .raw) (ps := [Meets Tryz.prog 83 [(AV.agg ((o77 p1)))] (I r2), litA (I r2) = true, Meets Tryz.prog 27 [(I p1.Code), (I 1), (I 17)] (B r3), litA (B r3) = true, (B r3) = (B true), (B (decide (r2 > 0))) = (B false), (B (p1.A == 0)) = (B true), (B (decide (r2 > 1))) = (B true), (B (p1.Code == 1)) = (B false), Meets Tryz.prog 84 [(FK p1.V), (FK 0)] (B r21), litA (B r21) = true, (B r21) = (B r21), litA (B r21) = true]) (by kernel_rfl) ⟨(impl_Op_names_m hr2), rfl, (impl_in_m hr3), rfl, (litB c4), (litB c16), (litB c17), (litB c18), (litB c20), (impl_SameNum_m hr21), rfl, rfl, rfl, trivial⟩
        · rcases itS h with ⟨c23, h⟩ | ⟨c31, h⟩
          · rcases itS h with ⟨c24, h⟩ | ⟨c25, h⟩
            · have h := Option.some.inj h
              subst h
              exact go_ret hΘ hm hP hn (hs := [⟨0, .new 1001, none⟩, ⟨3, .callV [[]] (I r2), none⟩, ⟨7, .callV [] (B r3), none⟩, ⟨8, .no, some (B true)⟩, ⟨11, .no, some (B false)⟩, ⟨17, .no, some (B true)⟩, ⟨20, .no, some (B false)⟩, ⟨26, .no, some (B true)⟩, ⟨30, .no, some (B true)⟩]) (rh := []) (ph := .raw) (ps := [Meets Tryz.prog 83 [(AV.agg ((o77 p1)))] (I r2), litA (I r2) = true, Meets Tryz.prog 27 [(I p1.Code), (I 1), (I 17)] (B r3), litA (B r3) = true, (B r3) = (B true), (B (decide (r2 > 0))) = (B false), (B (p1.A == 0)) = (B true), (B (decide (r2 > 1))) = (B false), (B (p1.B == 0)) = (B true), (B (p1.Code == 1)) = (B true), (B true) = (B true), litA (B true) = true]) (by kernel_rfl) ⟨(impl_Op_names_m hr2), rfl, (impl_in_m hr3), rfl, (litB c4), (litB c16), (litB c17), (litB c22), (litB c23), (litB c24), rfl, rfl, trivial⟩
            · obtain ⟨r30, hr30, h⟩ := bnS h
              have h := Option.some.inj h
              subst h
              exact go_ret hΘ hm hP hn (hs := [⟨0, .new 1001, none⟩, ⟨3, .callV [[]] (I r2), none⟩, ⟨7, .callV [] (B r3), none⟩, ⟨8, .no, some (B true)⟩, ⟨11, .no, some (B false)⟩, ⟨17, .no, some (B true)⟩, ⟨20, .no, some (B false)⟩, ⟨26, .no, some (B true)⟩, ⟨30, .no, some (B false)⟩, ⟨33, .callV [] (B r30), none⟩]) (rh := []) (ph := .raw) (ps := [Meets Tryz.prog 83 [(AV.agg ((o77 p1)))] (I r2), litA (I r2) = true, Meets Tryz.prog 27 [(I p1.Code), (I 1), (I 17)] (B r3), litA (B r3) = true, (B r3) = (B true), (B (decide (r2 > 0))) = (B false), (B (p1.A == 0)) = (B true), (B (decide (r2 > 1))) = (B false), (B (p1.B == 0)) = (B true), (B (p1.Code == 1)) = (B false), Meets Tryz.prog 84 [(FK p1.V), (FK 0)] (B r30), litA (B r30) = true, (B r30) = (B r30), litA (B r30) = true]) (by kernel_rfl) ⟨(impl_Op_names_m hr2), rfl, (impl_in_m hr3), rfl, (litB c4), (litB c16), (litB c17), (litB c22), (litB c23), (litB c25), (impl_SameNum_m hr30), rfl, rfl, rfl, trivial⟩
          · have h := Option.some.inj h
            subst h
            exact go_ret hΘ hm hP hn (hs := [⟨0, .new 1001, none⟩, ⟨3, .callV [[]] (I r2), none⟩, ⟨7, .callV [] (B r3), none⟩, ⟨8, .no, some (B true)⟩, ⟨11, .no, some (B false)⟩, ⟨17, .no, some (B true)⟩, ⟨20, .no, some (B false)⟩, ⟨26, .no, some (B false)⟩]) (rh := []) (ph := .raw) (ps := [Meets Tryz.prog 83 [(AV.agg ((o77 p1)))] (I r2), litA (I r2) = true, Meets Tryz.prog 27 [(I p1.Code), (I 1), (I 17)] (B r3), litA (B r3) = true, (B r3) = (B true), (B (decide (r2 > 0))) = (B false), (B (p1.A == 0)) = (B true), (B (decide (r2 > 1))) = (B false), (B (p1.B == 0)) = (B false), (B false) = (B false), litA (B false) = true]) (by kernel_rfl) ⟨(impl_Op_names_m hr2), rfl, (impl_in_m hr3), rfl, (litB c4), (litB c16), (litB c17), (litB c22), (litB c31), rfl, rfl, trivial⟩
      · have h := Option.some.inj h
        subst h
        exact go_ret hΘ hm hP hn (hs := [⟨0, .new 1001, none⟩, ⟨3, .callV [[]] (I r2), none⟩, ⟨7, .callV [] (B r3), none⟩, ⟨8, .no, some (B true)⟩, ⟨11, .no, some (B false)⟩, ⟨17, .no, some (B false)⟩]) (rh := []) (ph := .raw) (ps := [Meets Tryz.prog 83 [(AV.agg ((o77 p1)))] (I r2), litA (I r2) = true, Meets Tryz.prog 27 [(I p1.Code), (I 1), (I 17)] (B r3), litA (B r3) = true, (B r3) = (B true), (B (decide (r2 > 0))) = (B false), (B (p1.A == 0)) = (B false), (B false) = (B false), litA (B false) = true]) (by kernel_rfl) ⟨(impl_Op_names_m hr2), rfl, (impl_in_m hr3), rfl, (litB c4), (litB c16), (litB c32), rfl, rfl, trivial⟩
  · have h := Option.some.inj h
    subst h
    exact go_ret hΘ hm hP hn (hs := [⟨0, .new 1001, none⟩, ⟨3, .callV [[]] (I r2), none⟩, ⟨7, .callV [] (B r3), none⟩, ⟨8, .no, some (B false)⟩]) (rh := []) (ph := .raw) (ps := [Meets Tryz.prog 83 [(AV.agg ((o77 p1)))] (I r2), litA (I r2) = true, Meets Tryz.prog 27 [(I p1.Code), (I 1), (I 17)] (B r3), litA (B r3) = true, (B r3) = (B false), (B false) = (B false), litA (B false) = true]) (by kernel_rfl) ⟨(impl_Op_names_m hr2), rfl, (impl_in_m hr3), rfl, (litB c33), rfl, rfl, trivial⟩
noncomputable def body50 : Code := match Tryz.f50.body with | some c => c | none => .skip
noncomputable def impl_Prog_isGood_j2  (p1 : GProg) (p2 : GOp) (v18 : Bool) : Option Bool :=
  if v18 = true then
    Option.bind (impl_in p2.A 0 (w64 (p1.Locks - 1))) fun r20 =>
    some r20
  else
    if (p2.Code == 14) = true then
      Option.bind (impl_in p2.A 0 (w64 ((p1.Routines.length : Int) - 1))) fun r30 =>
      some r30
    else
      if (p2.Code == 16) = true then
        Option.bind (impl_in p2.A 0 (w64 (p1.Conds - 1))) fun r40 =>
        if r40 = true then
          Option.bind (impl_in p2.B 0 (w64 (p1.Locks - 1))) fun r42 =>
          some r42
        else
          some false
      else
        if (p2.Code == 17) = true then
          Option.bind (impl_in p2.A 0 (w64 (p1.Conds - 1))) fun r46 =>
          some r46
        else
          some true
theorem impl_Prog_isGood_j2_m {E : Env} (hP : E.P = Tryz.prog) (hn : E.n = 70) (hx : ∀ p, p ∈ E.fx → p.1 ∈ ([] : List Nat)) (p1 : GProg) (p2 : GOp)  (v18 : Bool) (r : Bool) (h : impl_Prog_isGood_j2 p1 p2 v18 = some r) : WAt E body50 (FQ (RetE Θ Tryz.f50.results.toList [] [] (B r) E)) [true, true, false, true, false, true, true, true, true, true] ⟨[(3, (AV.ptr 1 0 0)), (4, (AV.ptr 2 0 0)), (11, (I p2.Code)), (28, (B v18))], [(1, some ⟨34, 4, [((r34 p1))]⟩), (2, some ⟨77, 4, [((o77 p2))]⟩)], [1, 2, JJ]⟩ := by
  have hm : E.P.follows .mixedOrders = true := by rw [hP]; exact mixed
  have hΘ : TOK E.P Θ := by rw [hP]; exact Θ_ok
  unfold impl_Prog_isGood_j2 at h
  rcases itS h with ⟨c19, h⟩ | ⟨c21, h⟩
  · obtain ⟨r20, hr20, h⟩ := bnS h
    have h := Option.some.inj h
    subst h
    exact go_ret hΘ hm hP hn (hs := [⟨0, .br true, none⟩, ⟨6, .callV [] (B r20), none⟩]) (rh := []) (ph := .raw) (ps := [v18 = true, Meets Tryz.prog 27 [(I p2.A), (I 0), (I (w64 (p1.Locks - 1)))] (B r20), litA (B r20) = true, (B r20) = (B r20), litA (B r20) = true]) (by kernel_rfl) ⟨c19, (impl_in_m hr20), rfl, rfl, rfl, trivial⟩
  · rcases itS h with ⟨c22, h⟩ | ⟨c31, h⟩
    · obtain ⟨r30, hr30, h⟩ := bnS h
      have h := Option.some.inj h
      subst h
      exact go_ret hΘ hm hP hn (hs := [⟨0, .br false, none⟩, ⟨3, .br true, none⟩, ⟨8, .no, some (I (p1.Routines.length : Int))⟩, ⟨10, .callV [] (B r30), none⟩]) (rh := []) (ph := .raw) (ps := [v18 = false, (p2.Code == 14) = true, AV.lit (.int .i64 (((p1.Routines.map r74).length : Nat) : Int)) = (I (p1.Routines.length : Int)), Meets Tryz.prog 27 [(I p2.A), (I 0), (I (w64 ((p1.Routines.length : Int) - 1)))] (B r30), litA (B r30) = true, (B r30) = (B r30), litA (B r30) = true]) (by kernel_rfl) ⟨c21, c22, (lenM r74), (impl_in_m hr30), rfl, rfl, rfl, trivial⟩
    · rcases itS h with ⟨c32, h⟩ | ⟨c44, h⟩
      · obtain ⟨r40, hr40, h⟩ := bnS h
        rcases itS h with ⟨c41, h⟩ | ⟨c43, h⟩
        · obtain ⟨r42, hr42, h⟩ := bnS h
          have h := Option.some.inj h
          subst h
          exact go_ret hΘ hm hP hn (hs := [⟨0, .br false, none⟩, ⟨3, .br false, none⟩, ⟨6, .br true, none⟩, ⟨12, .callV [] (B r40), none⟩, ⟨13, .no, some (B true)⟩, ⟨19, .callV [] (B r42), none⟩]) (rh := []) (ph := .raw) (ps := [v18 = false, (p2.Code == 14) = false, (p2.Code == 16) = true, Meets Tryz.prog 27 [(I p2.A), (I 0), (I (w64 (p1.Conds - 1)))] (B r40), litA (B r40) = true, (B r40) = (B true), Meets Tryz.prog 27 [(I p2.B), (I 0), (I (w64 (p1.Locks - 1)))] (B r42), litA (B r42) = true, (B r42) = (B r42), litA (B r42) = true]) (by kernel_rfl) ⟨c21, c31, c32, (impl_in_m hr40), rfl, (litB c41), (impl_in_m hr42), rfl, rfl, rfl, trivial⟩
        · have h := Option.some.inj h
          subst h
          exact go_ret hΘ hm hP hn (hs := [⟨0, .br false, none⟩, ⟨3, .br false, none⟩, ⟨6, .br true, none⟩, ⟨12, .callV [] (B r40), none⟩, ⟨13, .no, some (B false)⟩]) (rh := []) (ph := .raw) (ps := [v18 = false, (p2.Code == 14) = false, (p2.Code == 16) = true, Meets Tryz.prog 27 [(I p2.A), (I 0), (I (w64 (p1.Conds - 1)))] (B r40), litA (B r40) = true, (B r40) = (B false), (B false) = (B false), litA (B false) = true]) (by kernel_rfl) ⟨c21, c31, c32, (impl_in_m hr40), rfl, (litB c43), rfl, rfl, trivial⟩
      · rcases itS h with ⟨c45, h⟩ | ⟨c47, h⟩
        · obtain ⟨r46, hr46, h⟩ := bnS h
          have h := Option.some.inj h
          subst h
          exact go_ret hΘ hm hP hn (hs := [⟨0, .br false, none⟩, ⟨3, .br false, none⟩, ⟨6, .br false, none⟩, ⟨9, .br true, none⟩, ⟨15, .callV [] (B r46), none⟩]) (rh := []) (ph := .raw) (ps := [v18 = false, (p2.Code == 14) = false, (p2.Code == 16) = false, (p2.Code == 17) = true, Meets Tryz.prog 27 [(I p2.A), (I 0), (I (w64 (p1.Conds - 1)))] (B r46), litA (B r46) = true, (B r46) = (B r46), litA (B r46) = true]) (by kernel_rfl) ⟨c21, c31, c44, c45, (impl_in_m hr46), rfl, rfl, rfl, trivial⟩
        · have h := Option.some.inj h
          subst h
          exact go_ret hΘ hm hP hn (hs := [⟨0, .br false, none⟩, ⟨3, .br false, none⟩, ⟨6, .br false, none⟩, ⟨9, .br false, none⟩]) (rh := []) (ph := .raw) (ps := [v18 = false, (p2.Code == 14) = false, (p2.Code == 16) = false, (p2.Code == 17) = false, (B true) = (B true), litA (B true) = true]) (by kernel_rfl) ⟨c21, c31, c44, c47, rfl, rfl, trivial⟩
noncomputable def impl_Prog_isGood_j1  (p1 : GProg) (p2 : GOp) (p3 : Int) (v13 : Bool) : Option Bool :=
  if v13 = true then
    Option.bind (impl_in p2.A 0 p3) fun r15 =>
    some r15
  else
    if (p2.Code == 12) = true then
      impl_Prog_isGood_j2 p1 p2 (p2.Code == 12)
    else
      impl_Prog_isGood_j2 p1 p2 (p2.Code == 13)
theorem impl_Prog_isGood_j1_m {E : Env} (hP : E.P = Tryz.prog) (hn : E.n = 70) (hx : ∀ p, p ∈ E.fx → p.1 ∈ ([] : List Nat)) (p1 : GProg) (p2 : GOp) (p3 : Int)  (v13 : Bool) (r : Bool) (h : impl_Prog_isGood_j1 p1 p2 p3 v13 = some r) : WAt E body50 (FQ (RetE Θ Tryz.f50.results.toList [] [] (B r) E)) [true, true, false, true, false, true, true, true] ⟨[(2, (I p3)), (3, (AV.ptr 1 0 0)), (4, (AV.ptr 2 0 0)), (11, (I p2.Code)), (21, (B v13))], [(1, some ⟨34, 4, [((r34 p1))]⟩), (2, some ⟨77, 4, [((o77 p2))]⟩)], [1, 2, JJ]⟩ := by
  have hm : E.P.follows .mixedOrders = true := by rw [hP]; exact mixed
  have hΘ : TOK E.P Θ := by rw [hP]; exact Θ_ok
  unfold impl_Prog_isGood_j1 at h
  rcases itS h with ⟨c14, h⟩ | ⟨c16, h⟩
  · obtain ⟨r15, hr15, h⟩ := bnS h
    have h := Option.some.inj h
    subst h
    exact go_ret hΘ hm hP hn (hs := [⟨0, .br true, none⟩, ⟨4, .callV [] (B r15), none⟩]) (rh := []) (ph := .raw) (ps := [v13 = true, Meets Tryz.prog 27 [(I p2.A), (I 0), (I p3)] (B r15), litA (B r15) = true, (B r15) = (B r15), litA (B r15) = true]) (by kernel_rfl) ⟨c14, (impl_in_m hr15), rfl, rfl, rfl, trivial⟩
  · rcases itS h with ⟨c17, h⟩ | ⟨c48, h⟩
    · exact go_to hΘ hm hx hP hn (hs := [⟨0, .br false, none⟩, ⟨3, .br true, none⟩]) (π := [(1, 1), (2, 2)]) (ts := [3, 4, 11, 28]) (kp := []) (ps := [v13 = false, (p2.Code == 12) = true, RenOK [(1, 1), (2, 2)] [((r34 p1))], RenOK [(1, 1), (2, 2)] [((o77 p2))]]) (by kernel_rfl) ⟨c16, c17, (rok (treeB t34 p1)), (rok rfl), trivial⟩ (impl_Prog_isGood_j2_m hP hn hx p1 p2 (p2.Code == 12) _ h)
    · exact go_to hΘ hm hx hP hn (hs := [⟨0, .br false, none⟩, ⟨3, .br false, none⟩]) (π := [(1, 1), (2, 2)]) (ts := [3, 4, 11, 28]) (kp := []) (ps := [v13 = false, (p2.Code == 12) = false, RenOK [(1, 1), (2, 2)] [((r34 p1))], RenOK [(1, 1), (2, 2)] [((o77 p2))]]) (by kernel_rfl) ⟨c16, c48, (rok (treeB t34 p1)), (rok rfl), trivial⟩ (impl_Prog_isGood_j2_m hP hn hx p1 p2 (p2.Code == 13) _ h)
noncomputable def impl_Prog_isGood_j0  (p1 : GProg) (p2 : GOp) (p3 : Int) (v8 : Bool) : Option Bool :=
  if v8 = true then
    Option.bind (impl_in p2.A 0 (w64 (p1.Cells - 1))) fun r10 =>
    some r10
  else
    if (p2.Code == 10) = true then
      impl_Prog_isGood_j1 p1 p2 p3 (p2.Code == 10)
    else
      impl_Prog_isGood_j1 p1 p2 p3 (p2.Code == 11)
theorem impl_Prog_isGood_j0_m {E : Env} (hP : E.P = Tryz.prog) (hn : E.n = 70) (hx : ∀ p, p ∈ E.fx → p.1 ∈ ([] : List Nat)) (p1 : GProg) (p2 : GOp) (p3 : Int)  (v8 : Bool) (r : Bool) (h : impl_Prog_isGood_j0 p1 p2 p3 v8 = some r) : WAt E body50 (FQ (RetE Θ Tryz.f50.results.toList [] [] (B r) E)) [true, true, false, true, false, true] ⟨[(2, (I p3)), (3, (AV.ptr 1 0 0)), (4, (AV.ptr 2 0 0)), (11, (I p2.Code)), (12, (B v8))], [(1, some ⟨34, 4, [((r34 p1))]⟩), (2, some ⟨77, 4, [((o77 p2))]⟩)], [1, 2, JJ]⟩ := by
  have hm : E.P.follows .mixedOrders = true := by rw [hP]; exact mixed
  have hΘ : TOK E.P Θ := by rw [hP]; exact Θ_ok
  unfold impl_Prog_isGood_j0 at h
  rcases itS h with ⟨c9, h⟩ | ⟨c11, h⟩
  · obtain ⟨r10, hr10, h⟩ := bnS h
    have h := Option.some.inj h
    subst h
    exact go_ret hΘ hm hP hn (hs := [⟨0, .br true, none⟩, ⟨6, .callV [] (B r10), none⟩]) (rh := []) (ph := .raw) (ps := [v8 = true, Meets Tryz.prog 27 [(I p2.A), (I 0), (I (w64 (p1.Cells - 1)))] (B r10), litA (B r10) = true, (B r10) = (B r10), litA (B r10) = true]) (by kernel_rfl) ⟨c9, (impl_in_m hr10), rfl, rfl, rfl, trivial⟩
  · rcases itS h with ⟨c12, h⟩ | ⟨c49, h⟩
    · exact go_to hΘ hm hx hP hn (hs := [⟨0, .br false, none⟩, ⟨3, .br true, none⟩]) (π := [(1, 1), (2, 2)]) (ts := [2, 3, 4, 11, 21]) (kp := []) (ps := [v8 = false, (p2.Code == 10) = true, RenOK [(1, 1), (2, 2)] [((r34 p1))], RenOK [(1, 1), (2, 2)] [((o77 p2))]]) (by kernel_rfl) ⟨c11, c12, (rok (treeB t34 p1)), (rok rfl), trivial⟩ (impl_Prog_isGood_j1_m hP hn hx p1 p2 p3 (p2.Code == 10) _ h)
    · exact go_to hΘ hm hx hP hn (hs := [⟨0, .br false, none⟩, ⟨3, .br false, none⟩]) (π := [(1, 1), (2, 2)]) (ts := [2, 3, 4, 11, 21]) (kp := []) (ps := [v8 = false, (p2.Code == 10) = false, RenOK [(1, 1), (2, 2)] [((r34 p1))], RenOK [(1, 1), (2, 2)] [((o77 p2))]]) (by kernel_rfl) ⟨c11, c49, (rok (treeB t34 p1)), (rok rfl), trivial⟩ (impl_Prog_isGood_j1_m hP hn hx p1 p2 p3 (p2.Code == 11) _ h)
noncomputable def impl_Prog_isGood (p1 : GProg) (p2 : GOp) (p3 : Int) : Option Bool :=
  Option.bind (impl_Op_fits p2) fun r4 =>
  if (!r4) = true then
    some false
  else
    if (p2.Code == 2) = true then
      impl_Prog_isGood_j0 p1 p2 p3 (p2.Code == 2)
    else
      impl_Prog_isGood_j0 p1 p2 p3 (p2.Code == 3)
theorem impl_Prog_isGood_m {p1 : GProg} {p2 : GOp} {p3 : Int} {r : Bool} (h : impl_Prog_isGood p1 p2 p3 = some r) : Meets Tryz.prog 50 [(AV.agg ((r34 p1))), (AV.agg ((o77 p2))), (I p3)] (B r) := by
  refine meets_ofC Θ_ok Tryz.func50 rfl (c := body50) (by kernel_rfl) (Nat.le_of_ble_eq_true rfl) ?_
  intro E hP hn hx
  replace hn : E.n = 70 := hn
  have hm : E.P.follows .mixedOrders = true := by rw [hP]; exact mixed
  have hΘ : TOK E.P Θ := by rw [hP]; exact Θ_ok
  unfold impl_Prog_isGood at h
  show WAt E body50 (FQ (RetE Θ Tryz.f50.results.toList [] [] (B r) E)) [] ⟨[(0, (AV.agg ((r34 p1)))), (1, (AV.agg ((o77 p2)))), (2, (I p3))], [], [JJ]⟩
  obtain ⟨r4, hr4, h⟩ := bnS h
  rcases itS h with ⟨c5, h⟩ | ⟨c6, h⟩
  · have h := Option.some.inj h
    subst h
    exact go_ret hΘ hm hP hn (hs := [⟨0, .new 1001, none⟩, ⟨1, .new 1002, none⟩, ⟨4, .callV [[]] (B r4), none⟩, ⟨6, .br true, none⟩]) (rh := []) (ph := .raw) (ps := [Meets Tryz.prog 71 [(AV.agg ((o77 p2)))] (B r4), litA (B r4) = true, (!r4) = true, (B false) = (B false), litA (B false) = true]) (by kernel_rfl) ⟨(impl_Op_fits_m hr4), rfl, c5, rfl, rfl, trivial⟩
  · rcases itS h with ⟨c7, h⟩ | ⟨c50, h⟩
    · exact go_to hΘ hm hx hP hn (hs := [⟨0, .new 1001, none⟩, ⟨1, .new 1002, none⟩, ⟨4, .callV [[]] (B r4), none⟩, ⟨6, .br false, none⟩, ⟨11, .br true, none⟩]) (π := [(1001, 1), (1002, 2)]) (ts := [2, 3, 4, 11, 12]) (kp := []) (ps := [Meets Tryz.prog 71 [(AV.agg ((o77 p2)))] (B r4), litA (B r4) = true, (!r4) = false, (p2.Code == 2) = true, RenOK [(1001, 1), (1002, 2)] [((r34 p1))], RenOK [(1001, 1), (1002, 2)] [((o77 p2))]]) (by kernel_rfl) ⟨(impl_Op_fits_m hr4), rfl, c6, c7, (rok (treeB t34 p1)), (rok rfl), trivial⟩ (impl_Prog_isGood_j0_m hP hn hx p1 p2 p3 (p2.Code == 2) _ h)
    · exact go_to hΘ hm hx hP hn (hs := [⟨0, .new 1001, none⟩, ⟨1, .new 1002, none⟩, ⟨4, .callV [[]] (B r4), none⟩, ⟨6, .br false, none⟩, ⟨11, .br false, none⟩]) (π := [(1001, 1), (1002, 2)]) (ts := [2, 3, 4, 11, 12]) (kp := []) (ps := [Meets Tryz.prog 71 [(AV.agg ((o77 p2)))] (B r4), litA (B r4) = true, (!r4) = false, (p2.Code == 2) = false, RenOK [(1001, 1), (1002, 2)] [((r34 p1))], RenOK [(1001, 1), (1002, 2)] [((o77 p2))]]) (by kernel_rfl) ⟨(impl_Op_fits_m hr4), rfl, c6, c50, (rok (treeB t34 p1)), (rok rfl), trivial⟩ (impl_Prog_isGood_j0_m hP hn hx p1 p2 p3 (p2.Code == 3) _ h)
noncomputable def body49 : Code := match Tryz.f49.body with | some c => c | none => .skip
noncomputable def impl_GoodProg_1 (p1 : GOp) (p2 : GProg) (p3 : (List GOp)) : Option Bool :=
  Option.bind (impl_Prog_isGood p2 p1 (p3.length : Int)) fun r4 =>
  some (!r4)
theorem impl_GoodProg_1_m {p1 : GOp} {p2 : GProg} {p3 : (List GOp)} {r : Bool} (h : impl_GoodProg_1 p1 p2 p3 = some r) : Meets Tryz.prog 49 [(AV.agg ((o77 p1))), (AV.rop (r34 p2) 0), (AV.rop (r74 p3) 0)] (B r) := by
  refine meets_ofC Θ_ok Tryz.func49 rfl (c := body49) (by kernel_rfl) (Nat.le_of_ble_eq_true rfl) ?_
  intro E hP hn hx
  replace hn : E.n = 11 := hn
  have hm : E.P.follows .mixedOrders = true := by rw [hP]; exact mixed
  have hΘ : TOK E.P Θ := by rw [hP]; exact Θ_ok
  unfold impl_GoodProg_1 at h
  show WAt E body49 (FQ (RetE Θ Tryz.f49.results.toList [] [] (B r) E)) [] ⟨[(0, (AV.agg ((o77 p1)))), (1, (AV.rop (r34 p2) 0)), (2, (AV.rop (r74 p3) 0))], [], [JJ]⟩
  obtain ⟨r4, hr4, h⟩ := bnS h
  have h := Option.some.inj h
  subst h
  exact go_ret hΘ hm hP hn (hs := [⟨0, .new 1001, none⟩, ⟨5, .no, some (I (p3.length : Int))⟩, ⟨6, .callV [[], []] (B r4), none⟩]) (rh := []) (ph := .raw) (ps := [AV.lit (.int .i64 (((p3.map o77).length : Nat) : Int)) = (I (p3.length : Int)), Meets Tryz.prog 50 [(AV.agg ((r34 p2))), (AV.agg ((o77 p1))), (I (p3.length : Int))] (B r4), litA (B r4) = true, (B (!r4)) = (B (!r4)), litA (B (!r4)) = true]) (by kernel_rfl) ⟨(lenM o77), (impl_Prog_isGood_m hr4), rfl, rfl, rfl, trivial⟩
noncomputable def body70 : Code := match Tryz.f70.body with | some c => c | none => .skip
noncomputable def slices_IndexFunc_Op_Op__impl_GoodProg_1_l0  (p1 : (List GOp)) (p2 : GProg) (p3 : (List GOp)) : Nat → Int → Option Int
  | 0, _ => none
  | n + 1, v4 =>
  if (decide (v4 < (p1.length : Int))) = true then
    Option.bind (rd p1 v4) fun x6 =>
    Option.bind (impl_GoodProg_1 x6 p2 p3) fun r7 =>
    if r7 = true then
      some v4
    else
      slices_IndexFunc_Op_Op__impl_GoodProg_1_l0 p1 p2 p3 n (w64 (v4 + 1))
  else
    some (-1)
theorem slices_IndexFunc_Op_Op__impl_GoodProg_1_l0_m {E : Env} (hP : E.P = Tryz.prog) (hn : E.n = 19) (hx : ∀ p, p ∈ E.fx → p.1 ∈ ([] : List Nat)) (p1 : (List GOp)) (p2 : GProg) (p3 : (List GOp))  : ∀ (n : Nat) (v4 : Int) (r : Int), slices_IndexFunc_Op_Op__impl_GoodProg_1_l0 p1 p2 p3 n v4 = some r → WAt E body70 (FQ (RetE Θ Tryz.f70.results.toList [] [] (I r) E)) [true, false, true, false] ⟨[(0, (AV.ro 4 (p1.map o77))), (1, (AV.fn 49 [(AV.rop (r34 p2) 0), (AV.rop (r74 p3) 0)])), (7, (I (p1.length : Int))), (8, (I v4))], [], [JJ]⟩ := by
  have hm : E.P.follows .mixedOrders = true := by rw [hP]; exact mixed
  have hΘ : TOK E.P Θ := by rw [hP]; exact Θ_ok
  intro n
  induction n with
  | zero => intro v4 r h; simp only [slices_IndexFunc_Op_Op__impl_GoodProg_1_l0] at h; cases h
  | succ n ih =>
    intro v4 r h
    simp only [slices_IndexFunc_Op_Op__impl_GoodProg_1_l0] at h
    rcases itS h with ⟨c5, h⟩ | ⟨c10, h⟩
    · obtain ⟨x6, hx6, h⟩ := bnS h
      obtain ⟨r7, hr7, h⟩ := bnS h
      rcases itS h with ⟨c8, h⟩ | ⟨c9, h⟩
      · have h := Option.some.inj h
        subst h
        exact go_ret hΘ hm hP hn (hs := [⟨1, .br true, none⟩, ⟨7, .row (o77 x6), none⟩, ⟨9, .callV [[]] (B r7), none⟩, ⟨10, .br true, none⟩]) (rh := []) (ph := .raw) (ps := [(decide (v4 < (p1.length : Int))) = true, (0 : Int) ≤ v4, (p1.map o77)[(Int.toNat v4)]? = some (o77 x6), Meets Tryz.prog 49 [(AV.agg ((o77 x6))), (AV.rop (r34 p2) 0), (AV.rop (r74 p3) 0)] (B r7), litA (B r7) = true, r7 = true, (I v4) = (I v4), litA (I v4) = true]) (by kernel_rfl) ⟨c5, (rd0 hx6), (rdM o77 hx6), (impl_GoodProg_1_m hr7), rfl, c8, rfl, rfl, trivial⟩
      · exact go_to hΘ hm hx hP hn (hs := [⟨1, .br true, none⟩, ⟨7, .row (o77 x6), none⟩, ⟨9, .callV [[]] (B r7), none⟩, ⟨10, .br false, none⟩]) (π := []) (ts := [0, 1, 7, 8]) (kp := []) (ps := [(decide (v4 < (p1.length : Int))) = true, (0 : Int) ≤ v4, (p1.map o77)[(Int.toNat v4)]? = some (o77 x6), Meets Tryz.prog 49 [(AV.agg ((o77 x6))), (AV.rop (r34 p2) 0), (AV.rop (r74 p3) 0)] (B r7), litA (B r7) = true, r7 = false]) (by kernel_rfl) ⟨c5, (rd0 hx6), (rdM o77 hx6), (impl_GoodProg_1_m hr7), rfl, c9, trivial⟩ (ih (w64 (v4 + 1)) _ h)
    · have h := Option.some.inj h
      subst h
      exact go_ret hΘ hm hP hn (hs := [⟨1, .br false, none⟩]) (rh := []) (ph := .raw) (ps := [(decide (v4 < (p1.length : Int))) = false, (I (-1)) = (I (-1)), litA (I (-1)) = true]) (by kernel_rfl) ⟨c10, rfl, rfl, trivial⟩
noncomputable def slices_IndexFunc_Op_Op__impl_GoodProg_1 (p1 : (List GOp)) (p2 : GProg) (p3 : (List GOp)) : Option Int :=
  slices_IndexFunc_Op_Op__impl_GoodProg_1_l0 p1 p2 p3 FU 0
theorem slices_IndexFunc_Op_Op__impl_GoodProg_1_m {p1 : (List GOp)} {p2 : GProg} {p3 : (List GOp)} {r : Int} (h : slices_IndexFunc_Op_Op__impl_GoodProg_1 p1 p2 p3 = some r) : Meets Tryz.prog 70 [(AV.ro 4 (p1.map o77)), (AV.fn 49 [(AV.rop (r34 p2) 0), (AV.rop (r74 p3) 0)])] (I r) := by
  refine meets_ofC Θ_ok Tryz.func70 rfl (c := body70) (by kernel_rfl) (Nat.le_of_ble_eq_true rfl) ?_
  intro E hP hn hx
  replace hn : E.n = 19 := hn
  have hm : E.P.follows .mixedOrders = true := by rw [hP]; exact mixed
  have hΘ : TOK E.P Θ := by rw [hP]; exact Θ_ok
  unfold slices_IndexFunc_Op_Op__impl_GoodProg_1 at h
  show WAt E body70 (FQ (RetE Θ Tryz.f70.results.toList [] [] (I r) E)) [] ⟨[(0, (AV.ro 4 (p1.map o77))), (1, (AV.fn 49 [(AV.rop (r34 p2) 0), (AV.rop (r74 p3) 0)]))], [], [JJ]⟩
  exact go_to hΘ hm hx hP hn (hs := [⟨2, .no, some (I (p1.length : Int))⟩]) (π := []) (ts := [0, 1, 7, 8]) (kp := []) (ps := [AV.lit (.int .i64 (((p1.map o77).length : Nat) : Int)) = (I (p1.length : Int))]) (by kernel_rfl) ⟨(lenM o77), trivial⟩ (slices_IndexFunc_Op_Op__impl_GoodProg_1_l0_m hP hn hx p1 p2 p3 FU 0 _ h)
noncomputable def body48 : Code := match Tryz.f48.body with | some c => c | none => .skip
noncomputable def slices_ContainsFunc_Op_Op__impl_GoodProg_1 (p1 : (List GOp)) (p2 : GProg) (p3 : (List GOp)) : Option Bool :=
  Option.bind (slices_IndexFunc_Op_Op__impl_GoodProg_1 p1 p2 p3) fun r4 =>
  some (decide (r4 ≥ 0))
theorem slices_ContainsFunc_Op_Op__impl_GoodProg_1_m {p1 : (List GOp)} {p2 : GProg} {p3 : (List GOp)} {r : Bool} (h : slices_ContainsFunc_Op_Op__impl_GoodProg_1 p1 p2 p3 = some r) : Meets Tryz.prog 48 [(AV.ro 4 (p1.map o77)), (AV.fn 49 [(AV.rop (r34 p2) 0), (AV.rop (r74 p3) 0)])] (B r) := by
  refine meets_ofC Θ_ok Tryz.func48 rfl (c := body48) (by kernel_rfl) (Nat.le_of_ble_eq_true rfl) ?_
  intro E hP hn hx
  replace hn : E.n = 9 := hn
  have hm : E.P.follows .mixedOrders = true := by rw [hP]; exact mixed
  have hΘ : TOK E.P Θ := by rw [hP]; exact Θ_ok
  unfold slices_ContainsFunc_Op_Op__impl_GoodProg_1 at h
  show WAt E body48 (FQ (RetE Θ Tryz.f48.results.toList [] [] (B r) E)) [] ⟨[(0, (AV.ro 4 (p1.map o77))), (1, (AV.fn 49 [(AV.rop (r34 p2) 0), (AV.rop (r74 p3) 0)]))], [], [JJ]⟩
  obtain ⟨r4, hr4, h⟩ := bnS h
  have h := Option.some.inj h
  subst h
  exact go_ret hΘ hm hP hn (hs := [⟨3, .callV [] (I r4), none⟩]) (rh := []) (ph := .raw) (ps := [Meets Tryz.prog 70 [(AV.ro 4 (p1.map o77)), (AV.fn 49 [(AV.rop (r34 p2) 0), (AV.rop (r74 p3) 0)])] (I r4), litA (I r4) = true, (B (decide (r4 ≥ 0))) = (B (decide (r4 ≥ 0))), litA (B (decide (r4 ≥ 0))) = true]) (by kernel_rfl) ⟨(slices_IndexFunc_Op_Op__impl_GoodProg_1_m hr4), rfl, rfl, rfl, trivial⟩
noncomputable def body22 : Code := match Tryz.f22.body with | some c => c | none => .skip
noncomputable def impl_GoodProg_l0  (p1 : GProg) : Nat → GProg → Int → Option Bool
  | 0, _, _ => none
  | n + 1, a14, v15 =>
  if (decide (v15 < (p1.Routines.length : Int))) = true then
    Option.bind (rd p1.Routines v15) fun x17 =>
    if (decide ((x17.length : Int) > 24)) = true then
      some false
    else
      Option.bind (slices_ContainsFunc_Op_Op__impl_GoodProg_1 x17 a14 x17) fun r20 =>
      if r20 = true then
        some false
      else
        impl_GoodProg_l0 p1 n a14 (w64 (v15 + 1))
  else
    some true
theorem impl_GoodProg_l0_m {E : Env} (hP : E.P = Tryz.prog) (hn : E.n = 44) (hx : ∀ p, p ∈ E.fx → p.1 ∈ ([] : List Nat)) (p1 : GProg)  : ∀ (n : Nat) (a14 : GProg) (v15 : Int) (r : Bool), impl_GoodProg_l0 p1 n a14 v15 = some r → WAt E body22 (FQ (RetE Θ Tryz.f22.results.toList [] [] (B r) E)) [true, true, false, true, false] ⟨[(1, (AV.ptr 1 0 0)), (29, (AV.ro 1 (p1.Routines.map r74))), (30, (I (p1.Routines.length : Int))), (31, (I v15))], [(1, some ⟨34, 4, [((r34 a14))]⟩)], [1, JJ]⟩ := by
  have hm : E.P.follows .mixedOrders = true := by rw [hP]; exact mixed
  have hΘ : TOK E.P Θ := by rw [hP]; exact Θ_ok
  intro n
  induction n with
  | zero => intro a14 v15 r h; simp only [impl_GoodProg_l0] at h; cases h
  | succ n ih =>
    intro a14 v15 r h
    simp only [impl_GoodProg_l0] at h
    rcases itS h with ⟨c16, h⟩ | ⟨c23, h⟩
    · obtain ⟨x17, hx17, h⟩ := bnS h
      rcases itS h with ⟨c18, h⟩ | ⟨c19, h⟩
      · have h := Option.some.inj h
        subst h
        exact go_ret hΘ hm hP hn (hs := [⟨1, .br true, none⟩, ⟨2, .row (r74 x17), none⟩, ⟨4, .new 1001, none⟩, ⟨7, .no, some (I (x17.length : Int))⟩, ⟨9, .no, some (B true)⟩]) (rh := []) (ph := .raw) (ps := [(decide (v15 < (p1.Routines.length : Int))) = true, (0 : Int) ≤ v15, (p1.Routines.map r74)[(Int.toNat v15)]? = some (r74 x17), AV.lit (.int .i64 (((x17.map o77).length : Nat) : Int)) = (I (x17.length : Int)), (B (decide ((x17.length : Int) > 24))) = (B true), (B false) = (B false), litA (B false) = true]) (by kernel_rfl) ⟨c16, (rd0 hx17), (rdM r74 hx17), (lenM o77), (litB c18), rfl, rfl, trivial⟩
      · obtain ⟨r20, hr20, h⟩ := bnS h
        rcases itS h with ⟨c21, h⟩ | ⟨c22, h⟩
        · have h := Option.some.inj h
          subst h
          exact go_ret hΘ hm hP hn (hs := [⟨1, .br true, none⟩, ⟨2, .row (r74 x17), none⟩, ⟨4, .new 1001, none⟩, ⟨7, .no, some (I (x17.length : Int))⟩, ⟨9, .no, some (B false)⟩, ⟨12, .callV [[((r34 a14)), (r34 a14)], [[(AV.ro 4 (x17.map o77))], (r74 x17)]] (B r20), none⟩, ⟨14, .br true, none⟩]) (rh := []) (ph := .raw) (ps := [(decide (v15 < (p1.Routines.length : Int))) = true, (0 : Int) ≤ v15, (p1.Routines.map r74)[(Int.toNat v15)]? = some (r74 x17), AV.lit (.int .i64 (((x17.map o77).length : Nat) : Int)) = (I (x17.length : Int)), (B (decide ((x17.length : Int) > 24))) = (B false), Meets Tryz.prog 48 [(AV.ro 4 (x17.map o77)), (AV.fn 49 [(AV.rop (r34 a14) 0), (AV.rop (r74 x17) 0)])] (B r20), litA (B r20) = true, [((r34 a14))][0]? = some ((r34 a14)), treeL ((r34 a14)) = true, frzL ((r34 a14)) = (r34 a14), [[(AV.ro 4 (x17.map o77))]][0]? = some [(AV.ro 4 (x17.map o77))], treeL [(AV.ro 4 (x17.map o77))] = true, frzL [(AV.ro 4 (x17.map o77))] = (r74 x17), r20 = true, (B false) = (B false), litA (B false) = true]) (by kernel_rfl) ⟨c16, (rd0 hx17), (rdM r74 hx17), (lenM o77), (litB c19), (slices_ContainsFunc_Op_Op__impl_GoodProg_1_m hr20), rfl, rfl, rfl, rfl, rfl, rfl, rfl, c21, rfl, rfl, trivial⟩
        · exact go_to hΘ hm hx hP hn (hs := [⟨1, .br true, none⟩, ⟨2, .row (r74 x17), none⟩, ⟨4, .new 1001, none⟩, ⟨7, .no, some (I (x17.length : Int))⟩, ⟨9, .no, some (B false)⟩, ⟨12, .callV [[((r34 a14)), (r34 a14)], [[(AV.ro 4 (x17.map o77))], (r74 x17)]] (B r20), none⟩, ⟨14, .br false, none⟩]) (π := [(1, 1)]) (ts := [1, 29, 30, 31]) (kp := []) (ps := [(decide (v15 < (p1.Routines.length : Int))) = true, (0 : Int) ≤ v15, (p1.Routines.map r74)[(Int.toNat v15)]? = some (r74 x17), AV.lit (.int .i64 (((x17.map o77).length : Nat) : Int)) = (I (x17.length : Int)), (B (decide ((x17.length : Int) > 24))) = (B false), Meets Tryz.prog 48 [(AV.ro 4 (x17.map o77)), (AV.fn 49 [(AV.rop (r34 a14) 0), (AV.rop (r74 x17) 0)])] (B r20), litA (B r20) = true, [((r34 a14))][0]? = some ((r34 a14)), treeL ((r34 a14)) = true, frzL ((r34 a14)) = (r34 a14), [[(AV.ro 4 (x17.map o77))]][0]? = some [(AV.ro 4 (x17.map o77))], treeL [(AV.ro 4 (x17.map o77))] = true, frzL [(AV.ro 4 (x17.map o77))] = (r74 x17), r20 = false, RenOK [(1, 1)] [((r34 a14))]]) (by kernel_rfl) ⟨c16, (rd0 hx17), (rdM r74 hx17), (lenM o77), (litB c19), (slices_ContainsFunc_Op_Op__impl_GoodProg_1_m hr20), rfl, rfl, rfl, rfl, rfl, rfl, rfl, c22, (rok (treeB t34 a14)), trivial⟩ (ih a14 (w64 (v15 + 1)) _ h)
    · have h := Option.some.inj h
      subst h
      exact go_ret hΘ hm hP hn (hs := [⟨1, .br false, none⟩]) (rh := []) (ph := .raw) (ps := [(decide (v15 < (p1.Routines.length : Int))) = false, (B true) = (B true), litA (B true) = true]) (by kernel_rfl) ⟨c23, rfl, rfl, trivial⟩
noncomputable def impl_GoodProg (p1 : GProg) : Option Bool :=
  Option.bind (impl_in p1.Cells 0 4) fun r2 =>
  if (!r2) = true then
    some false
  else
    Option.bind (impl_in p1.Locks 0 4) fun r5 =>
    if (!r5) = true then
      some false
    else
      Option.bind (impl_in p1.Conds 0 2) fun r8 =>
      if (!r8) = true then
        some false
      else
        Option.bind (impl_in (p1.Routines.length : Int) 1 4) fun r11 =>
        if (!r11) = true then
          some false
        else
          impl_GoodProg_l0 p1 FU p1 0
theorem impl_GoodProg_m {p1 : GProg} {r : Bool} (h : impl_GoodProg p1 = some r) : Meets Tryz.prog 22 [(AV.agg ((r34 p1)))] (B r) := by
  refine meets_ofC Θ_ok Tryz.func22 rfl (c := body22) (by kernel_rfl) (Nat.le_of_ble_eq_true rfl) ?_
  intro E hP hn hx
  replace hn : E.n = 44 := hn
  have hm : E.P.follows .mixedOrders = true := by rw [hP]; exact mixed
  have hΘ : TOK E.P Θ := by rw [hP]; exact Θ_ok
  unfold impl_GoodProg at h
  show WAt E body22 (FQ (RetE Θ Tryz.f22.results.toList [] [] (B r) E)) [] ⟨[(0, (AV.agg ((r34 p1))))], [], [JJ]⟩
  obtain ⟨r2, hr2, h⟩ := bnS h
  rcases itS h with ⟨c3, h⟩ | ⟨c4, h⟩
  · have h := Option.some.inj h
    subst h
    exact go_ret hΘ hm hP hn (hs := [⟨0, .new 1001, none⟩, ⟨4, .callV [] (B r2), none⟩, ⟨6, .no, some (B true)⟩]) (rh := []) (ph := .raw) (ps := [Meets Tryz.prog 27 [(I p1.Cells), (I 0), (I 4)] (B r2), litA (B r2) = true, (B (!r2)) = (B true), (B false) = (B false), litA (B false) = true]) (by kernel_rfl) ⟨(impl_in_m hr2), rfl, (litB c3), rfl, rfl, trivial⟩
  · obtain ⟨r5, hr5, h⟩ := bnS h
    rcases itS h with ⟨c6, h⟩ | ⟨c7, h⟩
    · have h := Option.some.inj h
      subst h
      exact go_ret hΘ hm hP hn (hs := [⟨0, .new 1001, none⟩, ⟨4, .callV [] (B r2), none⟩, ⟨6, .no, some (B false)⟩, ⟨9, .callV [] (B r5), none⟩, ⟨12, .no, some (B true)⟩]) (rh := []) (ph := .raw) (ps := [Meets Tryz.prog 27 [(I p1.Cells), (I 0), (I 4)] (B r2), litA (B r2) = true, (B (!r2)) = (B false), Meets Tryz.prog 27 [(I p1.Locks), (I 0), (I 4)] (B r5), litA (B r5) = true, (B (!r5)) = (B true), (B false) = (B false), litA (B false) = true]) (by kernel_rfl) ⟨(impl_in_m hr2), rfl, (litB c4), (impl_in_m hr5), rfl, (litB c6), rfl, rfl, trivial⟩
    · obtain ⟨r8, hr8, h⟩ := bnS h
      rcases itS h with ⟨c9, h⟩ | ⟨c10, h⟩
      · have h := Option.some.inj h
        subst h
        exact go_ret hΘ hm hP hn (hs := [⟨0, .new 1001, none⟩, ⟨4, .callV [] (B r2), none⟩, ⟨6, .no, some (B false)⟩, ⟨9, .callV [] (B r5), none⟩, ⟨12, .no, some (B false)⟩, ⟨15, .callV [] (B r8), none⟩, ⟨18, .no, some (B true)⟩]) (rh := []) (ph := .raw) (ps := [Meets Tryz.prog 27 [(I p1.Cells), (I 0), (I 4)] (B r2), litA (B r2) = true, (B (!r2)) = (B false), Meets Tryz.prog 27 [(I p1.Locks), (I 0), (I 4)] (B r5), litA (B r5) = true, (B (!r5)) = (B false), Meets Tryz.prog 27 [(I p1.Conds), (I 0), (I 2)] (B r8), litA (B r8) = true, (B (!r8)) = (B true), (B false) = (B false), litA (B false) = true]) (by kernel_rfl) ⟨(impl_in_m hr2), rfl, (litB c4), (impl_in_m hr5), rfl, (litB c7), (impl_in_m hr8), rfl, (litB c9), rfl, rfl, trivial⟩
      · obtain ⟨r11, hr11, h⟩ := bnS h
        rcases itS h with ⟨c12, h⟩ | ⟨c13, h⟩
        · have h := Option.some.inj h
          subst h
          exact go_ret hΘ hm hP hn (hs := [⟨0, .new 1001, none⟩, ⟨4, .callV [] (B r2), none⟩, ⟨6, .no, some (B false)⟩, ⟨9, .callV [] (B r5), none⟩, ⟨12, .no, some (B false)⟩, ⟨15, .callV [] (B r8), none⟩, ⟨18, .no, some (B false)⟩, ⟨21, .no, some (I (p1.Routines.length : Int))⟩, ⟨22, .callV [] (B r11), none⟩, ⟨25, .br true, none⟩]) (rh := []) (ph := .raw) (ps := [Meets Tryz.prog 27 [(I p1.Cells), (I 0), (I 4)] (B r2), litA (B r2) = true, (B (!r2)) = (B false), Meets Tryz.prog 27 [(I p1.Locks), (I 0), (I 4)] (B r5), litA (B r5) = true, (B (!r5)) = (B false), Meets Tryz.prog 27 [(I p1.Conds), (I 0), (I 2)] (B r8), litA (B r8) = true, (B (!r8)) = (B false), AV.lit (.int .i64 (((p1.Routines.map r74).length : Nat) : Int)) = (I (p1.Routines.length : Int)), Meets Tryz.prog 27 [(I (p1.Routines.length : Int)), (I 1), (I 4)] (B r11), litA (B r11) = true, (!r11) = true, (B false) = (B false), litA (B false) = true]) (by kernel_rfl) ⟨(impl_in_m hr2), rfl, (litB c4), (impl_in_m hr5), rfl, (litB c7), (impl_in_m hr8), rfl, (litB c10), (lenM r74), (impl_in_m hr11), rfl, c12, rfl, rfl, trivial⟩
        · exact go_to hΘ hm hx hP hn (hs := [⟨0, .new 1001, none⟩, ⟨4, .callV [] (B r2), none⟩, ⟨6, .no, some (B false)⟩, ⟨9, .callV [] (B r5), none⟩, ⟨12, .no, some (B false)⟩, ⟨15, .callV [] (B r8), none⟩, ⟨18, .no, some (B false)⟩, ⟨21, .no, some (I (p1.Routines.length : Int))⟩, ⟨22, .callV [] (B r11), none⟩, ⟨25, .br false, none⟩, ⟨28, .no, some (I (p1.Routines.length : Int))⟩]) (π := [(1001, 1)]) (ts := [1, 29, 30, 31]) (kp := []) (ps := [Meets Tryz.prog 27 [(I p1.Cells), (I 0), (I 4)] (B r2), litA (B r2) = true, (B (!r2)) = (B false), Meets Tryz.prog 27 [(I p1.Locks), (I 0), (I 4)] (B r5), litA (B r5) = true, (B (!r5)) = (B false), Meets Tryz.prog 27 [(I p1.Conds), (I 0), (I 2)] (B r8), litA (B r8) = true, (B (!r8)) = (B false), AV.lit (.int .i64 (((p1.Routines.map r74).length : Nat) : Int)) = (I (p1.Routines.length : Int)), Meets Tryz.prog 27 [(I (p1.Routines.length : Int)), (I 1), (I 4)] (B r11), litA (B r11) = true, (!r11) = false, AV.lit (.int .i64 (((p1.Routines.map r74).length : Nat) : Int)) = (I (p1.Routines.length : Int)), RenOK [(1001, 1)] [((r34 p1))]]) (by kernel_rfl) ⟨(impl_in_m hr2), rfl, (litB c4), (impl_in_m hr5), rfl, (litB c7), (impl_in_m hr8), rfl, (litB c10), (lenM r74), (impl_in_m hr11), rfl, c13, (lenM r74), (rok (treeB t34 p1)), trivial⟩ (impl_GoodProg_l0_m hP hn hx p1 FU p1 0 _ h)
noncomputable def body60 : Code := match Tryz.f60.body with | some c => c | none => .skip
noncomputable def impl_arePicks_1 (p1 : Int) : Option Bool :=
  Option.bind (impl_in p1 0 999) fun r2 =>
  some (!r2)
theorem impl_arePicks_1_m {p1 : Int} {r : Bool} (h : impl_arePicks_1 p1 = some r) : Meets Tryz.prog 60 [(I p1)] (B r) := by
  refine meets_ofC Θ_ok Tryz.func60 rfl (c := body60) (by kernel_rfl) (Nat.le_of_ble_eq_true rfl) ?_
  intro E hP hn hx
  replace hn : E.n = 6 := hn
  have hm : E.P.follows .mixedOrders = true := by rw [hP]; exact mixed
  have hΘ : TOK E.P Θ := by rw [hP]; exact Θ_ok
  unfold impl_arePicks_1 at h
  show WAt E body60 (FQ (RetE Θ Tryz.f60.results.toList [] [] (B r) E)) [] ⟨[(0, (I p1))], [], [JJ]⟩
  obtain ⟨r2, hr2, h⟩ := bnS h
  have h := Option.some.inj h
  subst h
  exact go_ret hΘ hm hP hn (hs := [⟨2, .callV [] (B r2), none⟩]) (rh := []) (ph := .raw) (ps := [Meets Tryz.prog 27 [(I p1), (I 0), (I 999)] (B r2), litA (B r2) = true, (B (!r2)) = (B (!r2)), litA (B (!r2)) = true]) (by kernel_rfl) ⟨(impl_in_m hr2), rfl, rfl, rfl, trivial⟩
noncomputable def body77 : Code := match Tryz.f77.body with | some c => c | none => .skip
noncomputable def slices_IndexFunc_int_int__impl_arePicks_1_l0  (p1 : (List Int)) : Nat → Int → Option Int
  | 0, _ => none
  | n + 1, v2 =>
  if (decide (v2 < (p1.length : Int))) = true then
    Option.bind (rd p1 v2) fun x4 =>
    Option.bind (impl_arePicks_1 x4) fun r5 =>
    if r5 = true then
      some v2
    else
      slices_IndexFunc_int_int__impl_arePicks_1_l0 p1 n (w64 (v2 + 1))
  else
    some (-1)
theorem slices_IndexFunc_int_int__impl_arePicks_1_l0_m {E : Env} (hP : E.P = Tryz.prog) (hn : E.n = 19) (hx : ∀ p, p ∈ E.fx → p.1 ∈ ([] : List Nat)) (p1 : (List Int))  : ∀ (n : Nat) (v2 : Int) (r : Int), slices_IndexFunc_int_int__impl_arePicks_1_l0 p1 n v2 = some r → WAt E body77 (FQ (RetE Θ Tryz.f77.results.toList [] [] (I r) E)) [true, false, true, false] ⟨[(0, (AV.ro 1 (p1.map o3))), (1, (AV.fn 60 [])), (7, (I (p1.length : Int))), (8, (I v2))], [], [JJ]⟩ := by
  have hm : E.P.follows .mixedOrders = true := by rw [hP]; exact mixed
  have hΘ : TOK E.P Θ := by rw [hP]; exact Θ_ok
  intro n
  induction n with
  | zero => intro v2 r h; simp only [slices_IndexFunc_int_int__impl_arePicks_1_l0] at h; cases h
  | succ n ih =>
    intro v2 r h
    simp only [slices_IndexFunc_int_int__impl_arePicks_1_l0] at h
    rcases itS h with ⟨c3, h⟩ | ⟨c8, h⟩
    · obtain ⟨x4, hx4, h⟩ := bnS h
      obtain ⟨r5, hr5, h⟩ := bnS h
      rcases itS h with ⟨c6, h⟩ | ⟨c7, h⟩
      · have h := Option.some.inj h
        subst h
        exact go_ret hΘ hm hP hn (hs := [⟨1, .br true, none⟩, ⟨7, .row (o3 x4), none⟩, ⟨9, .callV [] (B r5), none⟩, ⟨10, .br true, none⟩]) (rh := []) (ph := .raw) (ps := [(decide (v2 < (p1.length : Int))) = true, (0 : Int) ≤ v2, (p1.map o3)[(Int.toNat v2)]? = some (o3 x4), Meets Tryz.prog 60 [(I x4)] (B r5), litA (B r5) = true, r5 = true, (I v2) = (I v2), litA (I v2) = true]) (by kernel_rfl) ⟨c3, (rd0 hx4), (rdM o3 hx4), (impl_arePicks_1_m hr5), rfl, c6, rfl, rfl, trivial⟩
      · exact go_to hΘ hm hx hP hn (hs := [⟨1, .br true, none⟩, ⟨7, .row (o3 x4), none⟩, ⟨9, .callV [] (B r5), none⟩, ⟨10, .br false, none⟩]) (π := []) (ts := [0, 1, 7, 8]) (kp := []) (ps := [(decide (v2 < (p1.length : Int))) = true, (0 : Int) ≤ v2, (p1.map o3)[(Int.toNat v2)]? = some (o3 x4), Meets Tryz.prog 60 [(I x4)] (B r5), litA (B r5) = true, r5 = false]) (by kernel_rfl) ⟨c3, (rd0 hx4), (rdM o3 hx4), (impl_arePicks_1_m hr5), rfl, c7, trivial⟩ (ih (w64 (v2 + 1)) _ h)
    · have h := Option.some.inj h
      subst h
      exact go_ret hΘ hm hP hn (hs := [⟨1, .br false, none⟩]) (rh := []) (ph := .raw) (ps := [(decide (v2 < (p1.length : Int))) = false, (I (-1)) = (I (-1)), litA (I (-1)) = true]) (by kernel_rfl) ⟨c8, rfl, rfl, trivial⟩
noncomputable def slices_IndexFunc_int_int__impl_arePicks_1 (p1 : (List Int)) : Option Int :=
  slices_IndexFunc_int_int__impl_arePicks_1_l0 p1 FU 0
theorem slices_IndexFunc_int_int__impl_arePicks_1_m {p1 : (List Int)} {r : Int} (h : slices_IndexFunc_int_int__impl_arePicks_1 p1 = some r) : Meets Tryz.prog 77 [(AV.ro 1 (p1.map o3)), (AV.fn 60 [])] (I r) := by
  refine meets_ofC Θ_ok Tryz.func77 rfl (c := body77) (by kernel_rfl) (Nat.le_of_ble_eq_true rfl) ?_
  intro E hP hn hx
  replace hn : E.n = 19 := hn
  have hm : E.P.follows .mixedOrders = true := by rw [hP]; exact mixed
  have hΘ : TOK E.P Θ := by rw [hP]; exact Θ_ok
  unfold slices_IndexFunc_int_int__impl_arePicks_1 at h
  show WAt E body77 (FQ (RetE Θ Tryz.f77.results.toList [] [] (I r) E)) [] ⟨[(0, (AV.ro 1 (p1.map o3))), (1, (AV.fn 60 []))], [], [JJ]⟩
  exact go_to hΘ hm hx hP hn (hs := [⟨2, .no, some (I (p1.length : Int))⟩]) (π := []) (ts := [0, 1, 7, 8]) (kp := []) (ps := [AV.lit (.int .i64 (((p1.map o3).length : Nat) : Int)) = (I (p1.length : Int))]) (by kernel_rfl) ⟨(lenM o3), trivial⟩ (slices_IndexFunc_int_int__impl_arePicks_1_l0_m hP hn hx p1 FU 0 _ h)
noncomputable def body59 : Code := match Tryz.f59.body with | some c => c | none => .skip
noncomputable def slices_ContainsFunc_int_int__impl_arePicks_1 (p1 : (List Int)) : Option Bool :=
  Option.bind (slices_IndexFunc_int_int__impl_arePicks_1 p1) fun r2 =>
  some (decide (r2 ≥ 0))
theorem slices_ContainsFunc_int_int__impl_arePicks_1_m {p1 : (List Int)} {r : Bool} (h : slices_ContainsFunc_int_int__impl_arePicks_1 p1 = some r) : Meets Tryz.prog 59 [(AV.ro 1 (p1.map o3)), (AV.fn 60 [])] (B r) := by
  refine meets_ofC Θ_ok Tryz.func59 rfl (c := body59) (by kernel_rfl) (Nat.le_of_ble_eq_true rfl) ?_
  intro E hP hn hx
  replace hn : E.n = 9 := hn
  have hm : E.P.follows .mixedOrders = true := by rw [hP]; exact mixed
  have hΘ : TOK E.P Θ := by rw [hP]; exact Θ_ok
  unfold slices_ContainsFunc_int_int__impl_arePicks_1 at h
  show WAt E body59 (FQ (RetE Θ Tryz.f59.results.toList [] [] (B r) E)) [] ⟨[(0, (AV.ro 1 (p1.map o3))), (1, (AV.fn 60 []))], [], [JJ]⟩
  obtain ⟨r2, hr2, h⟩ := bnS h
  have h := Option.some.inj h
  subst h
  exact go_ret hΘ hm hP hn (hs := [⟨3, .callV [] (I r2), none⟩]) (rh := []) (ph := .raw) (ps := [Meets Tryz.prog 77 [(AV.ro 1 (p1.map o3)), (AV.fn 60 [])] (I r2), litA (I r2) = true, (B (decide (r2 ≥ 0))) = (B (decide (r2 ≥ 0))), litA (B (decide (r2 ≥ 0))) = true]) (by kernel_rfl) ⟨(slices_IndexFunc_int_int__impl_arePicks_1_m hr2), rfl, rfl, rfl, trivial⟩
noncomputable def body29 : Code := match Tryz.f29.body with | some c => c | none => .skip
noncomputable def impl_arePicks (p1 : (List Int)) (p2 : Int) : Option Bool :=
  if (decide ((p1.length : Int) ≤ p2)) = true then
    Option.bind (slices_ContainsFunc_int_int__impl_arePicks_1 p1) fun r4 =>
    some (!r4)
  else
    some false
theorem impl_arePicks_m {p1 : (List Int)} {p2 : Int} {r : Bool} (h : impl_arePicks p1 p2 = some r) : Meets Tryz.prog 29 [(AV.ro 1 (p1.map o3)), (I p2)] (B r) := by
  refine meets_ofC Θ_ok Tryz.func29 rfl (c := body29) (by kernel_rfl) (Nat.le_of_ble_eq_true rfl) ?_
  intro E hP hn hx
  replace hn : E.n = 14 := hn
  have hm : E.P.follows .mixedOrders = true := by rw [hP]; exact mixed
  have hΘ : TOK E.P Θ := by rw [hP]; exact Θ_ok
  unfold impl_arePicks at h
  show WAt E body29 (FQ (RetE Θ Tryz.f29.results.toList [] [] (B r) E)) [] ⟨[(0, (AV.ro 1 (p1.map o3))), (1, (I p2))], [], [JJ]⟩
  rcases itS h with ⟨c3, h⟩ | ⟨c5, h⟩
  · obtain ⟨r4, hr4, h⟩ := bnS h
    have h := Option.some.inj h
    subst h
    exact go_ret hΘ hm hP hn (hs := [⟨2, .no, some (I (p1.length : Int))⟩, ⟨5, .no, some (B true)⟩, ⟨7, .callV [] (B r4), none⟩]) (rh := []) (ph := .raw) (ps := [AV.lit (.int .i64 (((p1.map o3).length : Nat) : Int)) = (I (p1.length : Int)), (B (decide ((p1.length : Int) ≤ p2))) = (B true), Meets Tryz.prog 59 [(AV.ro 1 (p1.map o3)), (AV.fn 60 [])] (B r4), litA (B r4) = true, (B (!r4)) = (B (!r4)), litA (B (!r4)) = true]) (by kernel_rfl) ⟨(lenM o3), (litB c3), (slices_ContainsFunc_int_int__impl_arePicks_1_m hr4), rfl, rfl, rfl, trivial⟩
  · have h := Option.some.inj h
    subst h
    exact go_ret hΘ hm hP hn (hs := [⟨2, .no, some (I (p1.length : Int))⟩, ⟨5, .no, some (B false)⟩]) (rh := []) (ph := .raw) (ps := [AV.lit (.int .i64 (((p1.map o3).length : Nat) : Int)) = (I (p1.length : Int)), (B (decide ((p1.length : Int) ≤ p2))) = (B false), (B false) = (B false), litA (B false) = true]) (by kernel_rfl) ⟨(lenM o3), (litB c5), rfl, rfl, trivial⟩
noncomputable def body55 : Code := match Tryz.f55.body with | some c => c | none => .skip
noncomputable def impl_Pair_isGood (p1 : GPair) : Option Bool :=
  Option.bind (impl_in p1.Cell 0 99) fun r2 =>
  if r2 = true then
    Option.bind (impl_in p1.One 0 999) fun r4 =>
    if r4 = true then
      Option.bind (impl_in p1.Two 0 999) fun r6 =>
      some r6
    else
      some false
  else
    some false
theorem impl_Pair_isGood_m {p1 : GPair} {r : Bool} (h : impl_Pair_isGood p1 = some r) : Meets Tryz.prog 55 [(AV.agg ((o80 p1)))] (B r) := by
  refine meets_ofC Θ_ok Tryz.func55 rfl (c := body55) (by kernel_rfl) (Nat.le_of_ble_eq_true rfl) ?_
  intro E hP hn hx
  replace hn : E.n = 16 := hn
  have hm : E.P.follows .mixedOrders = true := by rw [hP]; exact mixed
  have hΘ : TOK E.P Θ := by rw [hP]; exact Θ_ok
  unfold impl_Pair_isGood at h
  show WAt E body55 (FQ (RetE Θ Tryz.f55.results.toList [] [] (B r) E)) [] ⟨[(0, (AV.agg ((o80 p1))))], [], [JJ]⟩
  obtain ⟨r2, hr2, h⟩ := bnS h
  rcases itS h with ⟨c3, h⟩ | ⟨c8, h⟩
  · obtain ⟨r4, hr4, h⟩ := bnS h
    rcases itS h with ⟨c5, h⟩ | ⟨c7, h⟩
    · obtain ⟨r6, hr6, h⟩ := bnS h
      have h := Option.some.inj h
      subst h
      exact go_ret hΘ hm hP hn (hs := [⟨0, .new 1001, none⟩, ⟨4, .callV [] (B r2), none⟩, ⟨5, .no, some (B true)⟩, ⟨8, .callV [] (B r4), none⟩, ⟨10, .no, some (B true)⟩, ⟨13, .callV [] (B r6), none⟩]) (rh := []) (ph := .raw) (ps := [Meets Tryz.prog 27 [(I p1.Cell), (I 0), (I 99)] (B r2), litA (B r2) = true, (B r2) = (B true), Meets Tryz.prog 27 [(I p1.One), (I 0), (I 999)] (B r4), litA (B r4) = true, (B r4) = (B true), Meets Tryz.prog 27 [(I p1.Two), (I 0), (I 999)] (B r6), litA (B r6) = true, (B r6) = (B r6), litA (B r6) = true]) (by kernel_rfl) ⟨(impl_in_m hr2), rfl, (litB c3), (impl_in_m hr4), rfl, (litB c5), (impl_in_m hr6), rfl, rfl, rfl, trivial⟩
    · have h := Option.some.inj h
      subst h
      exact go_ret hΘ hm hP hn (hs := [⟨0, .new 1001, none⟩, ⟨4, .callV [] (B r2), none⟩, ⟨5, .no, some (B true)⟩, ⟨8, .callV [] (B r4), none⟩, ⟨10, .no, some (B false)⟩]) (rh := []) (ph := .raw) (ps := [Meets Tryz.prog 27 [(I p1.Cell), (I 0), (I 99)] (B r2), litA (B r2) = true, (B r2) = (B true), Meets Tryz.prog 27 [(I p1.One), (I 0), (I 999)] (B r4), litA (B r4) = true, (B r4) = (B false), (B false) = (B false), litA (B false) = true]) (by kernel_rfl) ⟨(impl_in_m hr2), rfl, (litB c3), (impl_in_m hr4), rfl, (litB c7), rfl, rfl, trivial⟩
  · have h := Option.some.inj h
    subst h
    exact go_ret hΘ hm hP hn (hs := [⟨0, .new 1001, none⟩, ⟨4, .callV [] (B r2), none⟩, ⟨5, .no, some (B false)⟩]) (rh := []) (ph := .raw) (ps := [Meets Tryz.prog 27 [(I p1.Cell), (I 0), (I 99)] (B r2), litA (B r2) = true, (B r2) = (B false), (B false) = (B false), litA (B false) = true]) (by kernel_rfl) ⟨(impl_in_m hr2), rfl, (litB c8), rfl, rfl, trivial⟩
noncomputable def body87 : Code := match Tryz.f87.body with | some c => c | none => .skip
noncomputable def cmp_isNaN_int (p1 : Int) : Option Bool :=
  some (p1 != p1)
theorem cmp_isNaN_int_m {p1 : Int} {r : Bool} (h : cmp_isNaN_int p1 = some r) : Meets Tryz.prog 87 [(I p1)] (B r) := by
  refine meets_ofC Θ_ok Tryz.func87 rfl (c := body87) (by kernel_rfl) (Nat.le_of_ble_eq_true rfl) ?_
  intro E hP hn hx
  replace hn : E.n = 6 := hn
  have hm : E.P.follows .mixedOrders = true := by rw [hP]; exact mixed
  have hΘ : TOK E.P Θ := by rw [hP]; exact Θ_ok
  unfold cmp_isNaN_int at h
  show WAt E body87 (FQ (RetE Θ Tryz.f87.results.toList [] [] (B r) E)) [] ⟨[(0, (I p1))], [], [JJ]⟩
  have h := Option.some.inj h
  subst h
  exact go_ret hΘ hm hP hn (hs := []) (rh := []) (ph := .raw) (ps := [(B (p1 != p1)) = (B (p1 != p1)), litA (B (p1 != p1)) = true]) (by kernel_rfl) ⟨rfl, rfl, trivial⟩
noncomputable def body75 : Code := match Tryz.f75.body with | some c => c | none => .skip
noncomputable def cmp_Compare_int (p1 : Int) (p2 : Int) : Option Int :=
  Option.bind (cmp_isNaN_int p1) fun r3 =>
  Option.bind (cmp_isNaN_int p2) fun r4 =>
  if r3 = true then
    if r4 = true then
      some 0
    else
      some (-1)
  else
    if r4 = true then
      some 1
    else
      if (decide (p1 < p2)) = true then
        some (-1)
      else
        if (decide (p1 > p2)) = true then
          some 1
        else
          some 0
theorem cmp_Compare_int_m {p1 : Int} {p2 : Int} {r : Int} (h : cmp_Compare_int p1 p2 = some r) : Meets Tryz.prog 75 [(I p1), (I p2)] (I r) := by
  refine meets_ofC Θ_ok Tryz.func75 rfl (c := body75) (by kernel_rfl) (Nat.le_of_ble_eq_true rfl) ?_
  intro E hP hn hx
  replace hn : E.n = 20 := hn
  have hm : E.P.follows .mixedOrders = true := by rw [hP]; exact mixed
  have hΘ : TOK E.P Θ := by rw [hP]; exact Θ_ok
  unfold cmp_Compare_int at h
  show WAt E body75 (FQ (RetE Θ Tryz.f75.results.toList [] [] (I r) E)) [] ⟨[(0, (I p1)), (1, (I p2))], [], [JJ]⟩
  obtain ⟨r3, hr3, h⟩ := bnS h
  obtain ⟨r4, hr4, h⟩ := bnS h
  rcases itS h with ⟨c5, h⟩ | ⟨c8, h⟩
  · rcases itS h with ⟨c6, h⟩ | ⟨c7, h⟩
    · have h := Option.some.inj h
      subst h
      exact go_ret hΘ hm hP hn (hs := [⟨2, .callV [] (B r3), none⟩, ⟨5, .callV [] (B r4), none⟩, ⟨8, .br true, none⟩, ⟨10, .br true, none⟩]) (rh := []) (ph := .raw) (ps := [Meets Tryz.prog 87 [(I p1)] (B r3), litA (B r3) = true, Meets Tryz.prog 87 [(I p2)] (B r4), litA (B r4) = true, r3 = true, r4 = true, (I 0) = (I 0), litA (I 0) = true]) (by kernel_rfl) ⟨(cmp_isNaN_int_m hr3), rfl, (cmp_isNaN_int_m hr4), rfl, c5, c6, rfl, rfl, trivial⟩
    · have h := Option.some.inj h
      subst h
      exact go_ret hΘ hm hP hn (hs := [⟨2, .callV [] (B r3), none⟩, ⟨5, .callV [] (B r4), none⟩, ⟨8, .br true, none⟩, ⟨10, .br false, none⟩]) (rh := []) (ph := .raw) (ps := [Meets Tryz.prog 87 [(I p1)] (B r3), litA (B r3) = true, Meets Tryz.prog 87 [(I p2)] (B r4), litA (B r4) = true, r3 = true, r4 = false, (I (-1)) = (I (-1)), litA (I (-1)) = true]) (by kernel_rfl) ⟨(cmp_isNaN_int_m hr3), rfl, (cmp_isNaN_int_m hr4), rfl, c5, c7, rfl, rfl, trivial⟩
  · rcases itS h with ⟨c9, h⟩ | ⟨c10, h⟩
    · have h := Option.some.inj h
      subst h
      exact go_ret hΘ hm hP hn (hs := [⟨2, .callV [] (B r3), none⟩, ⟨5, .callV [] (B r4), none⟩, ⟨8, .br false, none⟩, ⟨10, .br true, none⟩]) (rh := []) (ph := .raw) (ps := [Meets Tryz.prog 87 [(I p1)] (B r3), litA (B r3) = true, Meets Tryz.prog 87 [(I p2)] (B r4), litA (B r4) = true, r3 = false, r4 = true, (I 1) = (I 1), litA (I 1) = true]) (by kernel_rfl) ⟨(cmp_isNaN_int_m hr3), rfl, (cmp_isNaN_int_m hr4), rfl, c8, c9, rfl, rfl, trivial⟩
    · rcases itS h with ⟨c11, h⟩ | ⟨c12, h⟩
      · have h := Option.some.inj h
        subst h
        exact go_ret hΘ hm hP hn (hs := [⟨2, .callV [] (B r3), none⟩, ⟨5, .callV [] (B r4), none⟩, ⟨8, .br false, none⟩, ⟨10, .br false, none⟩, ⟨14, .br true, none⟩]) (rh := []) (ph := .raw) (ps := [Meets Tryz.prog 87 [(I p1)] (B r3), litA (B r3) = true, Meets Tryz.prog 87 [(I p2)] (B r4), litA (B r4) = true, r3 = false, r4 = false, (decide (p1 < p2)) = true, (I (-1)) = (I (-1)), litA (I (-1)) = true]) (by kernel_rfl) ⟨(cmp_isNaN_int_m hr3), rfl, (cmp_isNaN_int_m hr4), rfl, c8, c10, c11, rfl, rfl, trivial⟩
      · rcases itS h with ⟨c13, h⟩ | ⟨c14, h⟩
        · have h := Option.some.inj h
          subst h
          exact go_ret hΘ hm hP hn (hs := [⟨2, .callV [] (B r3), none⟩, ⟨5, .callV [] (B r4), none⟩, ⟨8, .br false, none⟩, ⟨10, .br false, none⟩, ⟨14, .br false, none⟩, ⟨18, .br true, none⟩]) (rh := []) (ph := .raw) (ps := [Meets Tryz.prog 87 [(I p1)] (B r3), litA (B r3) = true, Meets Tryz.prog 87 [(I p2)] (B r4), litA (B r4) = true, r3 = false, r4 = false, (decide (p1 < p2)) = false, (decide (p1 > p2)) = true, (I 1) = (I 1), litA (I 1) = true]) (by kernel_rfl) ⟨(cmp_isNaN_int_m hr3), rfl, (cmp_isNaN_int_m hr4), rfl, c8, c10, c12, c13, rfl, rfl, trivial⟩
        · have h := Option.some.inj h
          subst h
          exact go_ret hΘ hm hP hn (hs := [⟨2, .callV [] (B r3), none⟩, ⟨5, .callV [] (B r4), none⟩, ⟨8, .br false, none⟩, ⟨10, .br false, none⟩, ⟨14, .br false, none⟩, ⟨18, .br false, none⟩]) (rh := []) (ph := .raw) (ps := [Meets Tryz.prog 87 [(I p1)] (B r3), litA (B r3) = true, Meets Tryz.prog 87 [(I p2)] (B r4), litA (B r4) = true, r3 = false, r4 = false, (decide (p1 < p2)) = false, (decide (p1 > p2)) = false, (I 0) = (I 0), litA (I 0) = true]) (by kernel_rfl) ⟨(cmp_isNaN_int_m hr3), rfl, (cmp_isNaN_int_m hr4), rfl, c8, c10, c12, c14, rfl, rfl, trivial⟩
noncomputable def body74 : Code := match Tryz.f74.body with | some c => c | none => .skip
noncomputable def cmp_Or_int_l0  (p1 : (List Int)) : Nat → Int → Option Int
  | 0, _ => none
  | n + 1, v2 =>
  if (decide (v2 < (p1.length : Int))) = true then
    Option.bind (rd p1 v2) fun x4 =>
    if (x4 != 0) = true then
      some x4
    else
      cmp_Or_int_l0 p1 n (w64 (v2 + 1))
  else
    some 0
theorem cmp_Or_int_l0_m {E : Env} (hP : E.P = Tryz.prog) (hn : E.n = 18) (hx : ∀ p, p ∈ E.fx → p.1 ∈ ([] : List Nat)) (p1 : (List Int))  : ∀ (n : Nat) (v2 : Int) (r : Int), cmp_Or_int_l0 p1 n v2 = some r → WAt E body74 (FQ (RetE Θ Tryz.f74.results.toList [] [] (I r) E)) [true, true, false, true, false] ⟨[(3, (I 0)), (6, (AV.ro 1 (p1.map o3))), (7, (I (p1.length : Int))), (8, (I v2))], [], [JJ]⟩ := by
  have hm : E.P.follows .mixedOrders = true := by rw [hP]; exact mixed
  have hΘ : TOK E.P Θ := by rw [hP]; exact Θ_ok
  intro n
  induction n with
  | zero => intro v2 r h; simp only [cmp_Or_int_l0] at h; cases h
  | succ n ih =>
    intro v2 r h
    simp only [cmp_Or_int_l0] at h
    rcases itS h with ⟨c3, h⟩ | ⟨c7, h⟩
    · obtain ⟨x4, hx4, h⟩ := bnS h
      rcases itS h with ⟨c5, h⟩ | ⟨c6, h⟩
      · have h := Option.some.inj h
        subst h
        exact go_ret hΘ hm hP hn (hs := [⟨1, .br true, none⟩, ⟨2, .row (o3 x4), none⟩, ⟨8, .br true, none⟩]) (rh := []) (ph := .raw) (ps := [(decide (v2 < (p1.length : Int))) = true, (0 : Int) ≤ v2, (p1.map o3)[(Int.toNat v2)]? = some (o3 x4), (x4 != 0) = true, (I x4) = (I x4), litA (I x4) = true]) (by kernel_rfl) ⟨c3, (rd0 hx4), (rdM o3 hx4), c5, rfl, rfl, trivial⟩
      · exact go_to hΘ hm hx hP hn (hs := [⟨1, .br true, none⟩, ⟨2, .row (o3 x4), none⟩, ⟨8, .br false, none⟩]) (π := []) (ts := [3, 6, 7, 8]) (kp := []) (ps := [(decide (v2 < (p1.length : Int))) = true, (0 : Int) ≤ v2, (p1.map o3)[(Int.toNat v2)]? = some (o3 x4), (x4 != 0) = false]) (by kernel_rfl) ⟨c3, (rd0 hx4), (rdM o3 hx4), c6, trivial⟩ (ih (w64 (v2 + 1)) _ h)
    · have h := Option.some.inj h
      subst h
      exact go_ret hΘ hm hP hn (hs := [⟨1, .br false, none⟩]) (rh := []) (ph := .raw) (ps := [(decide (v2 < (p1.length : Int))) = false, (I 0) = (I 0), litA (I 0) = true]) (by kernel_rfl) ⟨c7, rfl, rfl, trivial⟩
noncomputable def cmp_Or_int (p1 : (List Int)) : Option Int :=
  cmp_Or_int_l0 p1 FU 0
theorem cmp_Or_int_m {p1 : (List Int)} {r : Int} (h : cmp_Or_int p1 = some r) : Meets Tryz.prog 74 [(AV.ro 1 (p1.map o3))] (I r) := by
  refine meets_ofC Θ_ok Tryz.func74 rfl (c := body74) (by kernel_rfl) (Nat.le_of_ble_eq_true rfl) ?_
  intro E hP hn hx
  replace hn : E.n = 18 := hn
  have hm : E.P.follows .mixedOrders = true := by rw [hP]; exact mixed
  have hΘ : TOK E.P Θ := by rw [hP]; exact Θ_ok
  unfold cmp_Or_int at h
  show WAt E body74 (FQ (RetE Θ Tryz.f74.results.toList [] [] (I r) E)) [] ⟨[(0, (AV.ro 1 (p1.map o3)))], [], [JJ]⟩
  exact go_to hΘ hm hx hP hn (hs := [⟨3, .no, some (I (p1.length : Int))⟩]) (π := []) (ts := [3, 6, 7, 8]) (kp := []) (ps := [AV.lit (.int .i64 (((p1.map o3).length : Nat) : Int)) = (I (p1.length : Int))]) (by kernel_rfl) ⟨(lenM o3), trivial⟩ (cmp_Or_int_l0_m hP hn hx p1 FU 0 _ h)
noncomputable def body56 : Code := match Tryz.f56.body with | some c => c | none => .skip
noncomputable def impl_Pair_order (p1 : GPair) (p2 : GPair) : Option Int :=
  Option.bind (cmp_Compare_int p1.Cell p2.Cell) fun r3 =>
  Option.bind (cmp_Compare_int p1.One p2.One) fun r4 =>
  Option.bind (cmp_Compare_int p1.Two p2.Two) fun r5 =>
  Option.bind (cmp_Or_int [r3, r4, r5]) fun r6 =>
  some r6
theorem impl_Pair_order_m {p1 : GPair} {p2 : GPair} {r : Int} (h : impl_Pair_order p1 p2 = some r) : Meets Tryz.prog 56 [(AV.agg ((o80 p1))), (AV.agg ((o80 p2)))] (I r) := by
  refine meets_ofC Θ_ok Tryz.func56 rfl (c := body56) (by kernel_rfl) (Nat.le_of_ble_eq_true rfl) ?_
  intro E hP hn hx
  replace hn : E.n = 22 := hn
  have hm : E.P.follows .mixedOrders = true := by rw [hP]; exact mixed
  have hΘ : TOK E.P Θ := by rw [hP]; exact Θ_ok
  unfold impl_Pair_order at h
  show WAt E body56 (FQ (RetE Θ Tryz.f56.results.toList [] [] (I r) E)) [] ⟨[(0, (AV.agg ((o80 p1)))), (1, (AV.agg ((o80 p2))))], [], [JJ]⟩
  obtain ⟨r3, hr3, h⟩ := bnS h
  obtain ⟨r4, hr4, h⟩ := bnS h
  obtain ⟨r5, hr5, h⟩ := bnS h
  obtain ⟨r6, hr6, h⟩ := bnS h
  have h := Option.some.inj h
  subst h
  exact go_ret hΘ hm hP hn (hs := [⟨0, .new 1001, none⟩, ⟨1, .new 1002, none⟩, ⟨7, .callV [] (I r3), none⟩, ⟨12, .callV [] (I r4), none⟩, ⟨17, .callV [] (I r5), none⟩, ⟨18, .new 1003, none⟩, ⟨19, .callV [([r3, r4, r5].map o3)] (I r6), none⟩]) (rh := []) (ph := .raw) (ps := [Meets Tryz.prog 75 [(I p1.Cell), (I p2.Cell)] (I r3), litA (I r3) = true, Meets Tryz.prog 75 [(I p1.One), (I p2.One)] (I r4), litA (I r4) = true, Meets Tryz.prog 75 [(I p1.Two), (I p2.Two)] (I r5), litA (I r5) = true, Meets Tryz.prog 74 [(AV.ro 1 ([r3, r4, r5].map o3))] (I r6), litA (I r6) = true, Frz ((([r3, r4, r5].map o3).drop 0).take (List.length ([r3, r4, r5].map o3))) ([r3, r4, r5].map o3), (I r6) = (I r6), litA (I r6) = true]) (by kernel_rfl) ⟨(cmp_Compare_int_m hr3), rfl, (cmp_Compare_int_m hr4), rfl, (cmp_Compare_int_m hr5), rfl, (cmp_Or_int_m hr6), rfl, (frzF t3 z3), rfl, rfl, trivial⟩
noncomputable def body26 : Code := match Tryz.f26.body with | some c => c | none => .skip
noncomputable def impl_areRising_l0  (p1 : (List GPair)) : Nat → Int → Option Bool
  | 0, _ => none
  | n + 1, v2 =>
  if (decide (v2 < (p1.length : Int))) = true then
    Option.bind (rd p1 v2) fun x4 =>
    Option.bind (impl_Pair_isGood x4) fun r5 =>
    if (!r5) = true then
      some false
    else
      if (decide (v2 > 0)) = true then
        Option.bind (rd p1 (w64 (v2 - 1))) fun x9 =>
        Option.bind (impl_Pair_order x9 x4) fun r10 =>
        if (decide (r10 ≥ 0)) = true then
          some false
        else
          impl_areRising_l0 p1 n (w64 (v2 + 1))
      else
        impl_areRising_l0 p1 n (w64 (v2 + 1))
  else
    some (decide ((p1.length : Int) ≤ 200))
theorem impl_areRising_l0_m {E : Env} (hP : E.P = Tryz.prog) (hn : E.n = 33) (hx : ∀ p, p ∈ E.fx → p.1 ∈ ([] : List Nat)) (p1 : (List GPair))  : ∀ (n : Nat) (v2 : Int) (r : Bool), impl_areRising_l0 p1 n v2 = some r → WAt E body26 (FQ (RetE Θ Tryz.f26.results.toList [] [] (B r) E)) [true, false, true, false] ⟨[(0, (AV.ro 3 (p1.map o80))), (5, (AV.ro 3 (p1.map o80))), (6, (I (p1.length : Int))), (7, (I v2))], [], [JJ]⟩ := by
  have hm : E.P.follows .mixedOrders = true := by rw [hP]; exact mixed
  have hΘ : TOK E.P Θ := by rw [hP]; exact Θ_ok
  intro n
  induction n with
  | zero => intro v2 r h; simp only [impl_areRising_l0] at h; cases h
  | succ n ih =>
    intro v2 r h
    simp only [impl_areRising_l0] at h
    rcases itS h with ⟨c3, h⟩ | ⟨c14, h⟩
    · obtain ⟨x4, hx4, h⟩ := bnS h
      obtain ⟨r5, hr5, h⟩ := bnS h
      rcases itS h with ⟨c6, h⟩ | ⟨c7, h⟩
      · have h := Option.some.inj h
        subst h
        exact go_ret hΘ hm hP hn (hs := [⟨1, .br true, none⟩, ⟨3, .row (o80 x4), none⟩, ⟨5, .new 1001, none⟩, ⟨9, .callV [[]] (B r5), none⟩, ⟨11, .no, some (B true)⟩]) (rh := []) (ph := .raw) (ps := [(decide (v2 < (p1.length : Int))) = true, (0 : Int) ≤ v2, (p1.map o80)[(Int.toNat v2)]? = some (o80 x4), Meets Tryz.prog 55 [(AV.agg ((o80 x4)))] (B r5), litA (B r5) = true, (B (!r5)) = (B true), (B false) = (B false), litA (B false) = true]) (by kernel_rfl) ⟨c3, (rd0 hx4), (rdM o80 hx4), (impl_Pair_isGood_m hr5), rfl, (litB c6), rfl, rfl, trivial⟩
      · rcases itS h with ⟨c8, h⟩ | ⟨c13, h⟩
        · obtain ⟨x9, hx9, h⟩ := bnS h
          obtain ⟨r10, hr10, h⟩ := bnS h
          rcases itS h with ⟨c11, h⟩ | ⟨c12, h⟩
          · have h := Option.some.inj h
            subst h
            exact go_ret hΘ hm hP hn (hs := [⟨1, .br true, none⟩, ⟨3, .row (o80 x4), none⟩, ⟨5, .new 1001, none⟩, ⟨9, .callV [[]] (B r5), none⟩, ⟨11, .no, some (B false)⟩, ⟨14, .no, some (B true)⟩, ⟨18, .row (o80 x9), none⟩, ⟨21, .callV [[], []] (I r10), none⟩, ⟨25, .br true, none⟩]) (rh := []) (ph := .raw) (ps := [(decide (v2 < (p1.length : Int))) = true, (0 : Int) ≤ v2, (p1.map o80)[(Int.toNat v2)]? = some (o80 x4), Meets Tryz.prog 55 [(AV.agg ((o80 x4)))] (B r5), litA (B r5) = true, (B (!r5)) = (B false), (B (decide (v2 > 0))) = (B true), (0 : Int) ≤ (w64 (v2 - 1)), (p1.map o80)[(Int.toNat (w64 (v2 - 1)))]? = some (o80 x9), Meets Tryz.prog 56 [(AV.agg ((o80 x9))), (AV.agg ((o80 x4)))] (I r10), litA (I r10) = true, (decide (r10 ≥ 0)) = true, (B false) = (B false), litA (B false) = true]) (by kernel_rfl) ⟨c3, (rd0 hx4), (rdM o80 hx4), (impl_Pair_isGood_m hr5), rfl, (litB c7), (litB c8), (rd0 hx9), (rdM o80 hx9), (impl_Pair_order_m hr10), rfl, c11, rfl, rfl, trivial⟩
          · exact go_to hΘ hm hx hP hn (hs := [⟨1, .br true, none⟩, ⟨3, .row (o80 x4), none⟩, ⟨5, .new 1001, none⟩, ⟨9, .callV [[]] (B r5), none⟩, ⟨11, .no, some (B false)⟩, ⟨14, .no, some (B true)⟩, ⟨18, .row (o80 x9), none⟩, ⟨21, .callV [[], []] (I r10), none⟩, ⟨25, .br false, none⟩]) (π := []) (ts := [0, 5, 6, 7]) (kp := []) (ps := [(decide (v2 < (p1.length : Int))) = true, (0 : Int) ≤ v2, (p1.map o80)[(Int.toNat v2)]? = some (o80 x4), Meets Tryz.prog 55 [(AV.agg ((o80 x4)))] (B r5), litA (B r5) = true, (B (!r5)) = (B false), (B (decide (v2 > 0))) = (B true), (0 : Int) ≤ (w64 (v2 - 1)), (p1.map o80)[(Int.toNat (w64 (v2 - 1)))]? = some (o80 x9), Meets Tryz.prog 56 [(AV.agg ((o80 x9))), (AV.agg ((o80 x4)))] (I r10), litA (I r10) = true, (decide (r10 ≥ 0)) = false]) (by kernel_rfl) ⟨c3, (rd0 hx4), (rdM o80 hx4), (impl_Pair_isGood_m hr5), rfl, (litB c7), (litB c8), (rd0 hx9), (rdM o80 hx9), (impl_Pair_order_m hr10), rfl, c12, trivial⟩ (ih (w64 (v2 + 1)) _ h)
        · exact go_to hΘ hm hx hP hn (hs := [⟨1, .br true, none⟩, ⟨3, .row (o80 x4), none⟩, ⟨5, .new 1001, none⟩, ⟨9, .callV [[]] (B r5), none⟩, ⟨11, .no, some (B false)⟩, ⟨14, .no, some (B false)⟩]) (π := []) (ts := [0, 5, 6, 7]) (kp := []) (ps := [(decide (v2 < (p1.length : Int))) = true, (0 : Int) ≤ v2, (p1.map o80)[(Int.toNat v2)]? = some (o80 x4), Meets Tryz.prog 55 [(AV.agg ((o80 x4)))] (B r5), litA (B r5) = true, (B (!r5)) = (B false), (B (decide (v2 > 0))) = (B false)]) (by kernel_rfl) ⟨c3, (rd0 hx4), (rdM o80 hx4), (impl_Pair_isGood_m hr5), rfl, (litB c7), (litB c13), trivial⟩ (ih (w64 (v2 + 1)) _ h)
    · have h := Option.some.inj h
      subst h
      exact go_ret hΘ hm hP hn (hs := [⟨1, .br false, none⟩, ⟨3, .no, some (I (p1.length : Int))⟩]) (rh := []) (ph := .raw) (ps := [(decide (v2 < (p1.length : Int))) = false, AV.lit (.int .i64 (((p1.map o80).length : Nat) : Int)) = (I (p1.length : Int)), (B (decide ((p1.length : Int) ≤ 200))) = (B (decide ((p1.length : Int) ≤ 200))), litA (B (decide ((p1.length : Int) ≤ 200))) = true]) (by kernel_rfl) ⟨c14, (lenM o80), rfl, rfl, trivial⟩
noncomputable def impl_areRising (p1 : (List GPair)) : Option Bool :=
  impl_areRising_l0 p1 FU 0
theorem impl_areRising_m {p1 : (List GPair)} {r : Bool} (h : impl_areRising p1 = some r) : Meets Tryz.prog 26 [(AV.ro 3 (p1.map o80))] (B r) := by
  refine meets_ofC Θ_ok Tryz.func26 rfl (c := body26) (by kernel_rfl) (Nat.le_of_ble_eq_true rfl) ?_
  intro E hP hn hx
  replace hn : E.n = 33 := hn
  have hm : E.P.follows .mixedOrders = true := by rw [hP]; exact mixed
  have hΘ : TOK E.P Θ := by rw [hP]; exact Θ_ok
  unfold impl_areRising at h
  show WAt E body26 (FQ (RetE Θ Tryz.f26.results.toList [] [] (B r) E)) [] ⟨[(0, (AV.ro 3 (p1.map o80)))], [], [JJ]⟩
  exact go_to hΘ hm hx hP hn (hs := [⟨2, .no, some (I (p1.length : Int))⟩]) (π := []) (ts := [0, 5, 6, 7]) (kp := []) (ps := [AV.lit (.int .i64 (((p1.map o80).length : Nat) : Int)) = (I (p1.length : Int))]) (by kernel_rfl) ⟨(lenM o80), trivial⟩ (impl_areRising_l0_m hP hn hx p1 FU 0 _ h)
noncomputable def body58 : Code := match Tryz.f58.body with | some c => c | none => .skip
noncomputable def impl_hasSign_1 (p1 : GFound) (p2 : Str) : Option Bool :=
  some (p1.Sign == p2)
theorem impl_hasSign_1_m {p1 : GFound} {p2 : Str} {r : Bool} (h : impl_hasSign_1 p1 p2 = some r) : Meets Tryz.prog 58 [(AV.agg ((r61 p1))), (AV.rop (o9 p2) 0)] (B r) := by
  refine meets_ofC Θ_ok Tryz.func58 rfl (c := body58) (by kernel_rfl) (Nat.le_of_ble_eq_true rfl) ?_
  intro E hP hn hx
  replace hn : E.n = 8 := hn
  have hm : E.P.follows .mixedOrders = true := by rw [hP]; exact mixed
  have hΘ : TOK E.P Θ := by rw [hP]; exact Θ_ok
  unfold impl_hasSign_1 at h
  show WAt E body58 (FQ (RetE Θ Tryz.f58.results.toList [] [] (B r) E)) [] ⟨[(0, (AV.agg ((r61 p1)))), (1, (AV.rop (o9 p2) 0))], [], [JJ]⟩
  have h := Option.some.inj h
  subst h
  exact go_ret hΘ hm hP hn (hs := [⟨0, .new 1001, none⟩, ⟨5, .bin (B (p1.Sign == p2)), none⟩]) (rh := []) (ph := .raw) (ps := [BinS Tryz.prog .eql 9 (SK p1.Sign) (SK p2) (B (p1.Sign == p2)), (B (p1.Sign == p2)) = (B (p1.Sign == p2)), litA (B (p1.Sign == p2)) = true]) (by kernel_rfl) ⟨sEql, rfl, rfl, trivial⟩
noncomputable def body76 : Code := match Tryz.f76.body with | some c => c | none => .skip
noncomputable def slices_IndexFunc_Found_Found__impl_hasSign_1_l0  (p1 : (List GFound)) (p2 : Str) : Nat → Int → Option Int
  | 0, _ => none
  | n + 1, v3 =>
  if (decide (v3 < (p1.length : Int))) = true then
    Option.bind (rd p1 v3) fun x5 =>
    Option.bind (impl_hasSign_1 x5 p2) fun r6 =>
    if r6 = true then
      some v3
    else
      slices_IndexFunc_Found_Found__impl_hasSign_1_l0 p1 p2 n (w64 (v3 + 1))
  else
    some (-1)
theorem slices_IndexFunc_Found_Found__impl_hasSign_1_l0_m {E : Env} (hP : E.P = Tryz.prog) (hn : E.n = 19) (hx : ∀ p, p ∈ E.fx → p.1 ∈ ([] : List Nat)) (p1 : (List GFound)) (p2 : Str)  : ∀ (n : Nat) (v3 : Int) (r : Int), slices_IndexFunc_Found_Found__impl_hasSign_1_l0 p1 p2 n v3 = some r → WAt E body76 (FQ (RetE Θ Tryz.f76.results.toList [] [] (I r) E)) [true, false, true, false] ⟨[(0, (AV.ro 2 (p1.map r61))), (1, (AV.fn 58 [(AV.rop (o9 p2) 0)])), (7, (I (p1.length : Int))), (8, (I v3))], [], [JJ]⟩ := by
  have hm : E.P.follows .mixedOrders = true := by rw [hP]; exact mixed
  have hΘ : TOK E.P Θ := by rw [hP]; exact Θ_ok
  intro n
  induction n with
  | zero => intro v3 r h; simp only [slices_IndexFunc_Found_Found__impl_hasSign_1_l0] at h; cases h
  | succ n ih =>
    intro v3 r h
    simp only [slices_IndexFunc_Found_Found__impl_hasSign_1_l0] at h
    rcases itS h with ⟨c4, h⟩ | ⟨c9, h⟩
    · obtain ⟨x5, hx5, h⟩ := bnS h
      obtain ⟨r6, hr6, h⟩ := bnS h
      rcases itS h with ⟨c7, h⟩ | ⟨c8, h⟩
      · have h := Option.some.inj h
        subst h
        exact go_ret hΘ hm hP hn (hs := [⟨1, .br true, none⟩, ⟨7, .row (r61 x5), none⟩, ⟨9, .callV [[]] (B r6), none⟩, ⟨10, .br true, none⟩]) (rh := []) (ph := .raw) (ps := [(decide (v3 < (p1.length : Int))) = true, (0 : Int) ≤ v3, (p1.map r61)[(Int.toNat v3)]? = some (r61 x5), Meets Tryz.prog 58 [(AV.agg ((r61 x5))), (AV.rop (o9 p2) 0)] (B r6), litA (B r6) = true, r6 = true, (I v3) = (I v3), litA (I v3) = true]) (by kernel_rfl) ⟨c4, (rd0 hx5), (rdM r61 hx5), (impl_hasSign_1_m hr6), rfl, c7, rfl, rfl, trivial⟩
      · exact go_to hΘ hm hx hP hn (hs := [⟨1, .br true, none⟩, ⟨7, .row (r61 x5), none⟩, ⟨9, .callV [[]] (B r6), none⟩, ⟨10, .br false, none⟩]) (π := []) (ts := [0, 1, 7, 8]) (kp := []) (ps := [(decide (v3 < (p1.length : Int))) = true, (0 : Int) ≤ v3, (p1.map r61)[(Int.toNat v3)]? = some (r61 x5), Meets Tryz.prog 58 [(AV.agg ((r61 x5))), (AV.rop (o9 p2) 0)] (B r6), litA (B r6) = true, r6 = false]) (by kernel_rfl) ⟨c4, (rd0 hx5), (rdM r61 hx5), (impl_hasSign_1_m hr6), rfl, c8, trivial⟩ (ih (w64 (v3 + 1)) _ h)
    · have h := Option.some.inj h
      subst h
      exact go_ret hΘ hm hP hn (hs := [⟨1, .br false, none⟩]) (rh := []) (ph := .raw) (ps := [(decide (v3 < (p1.length : Int))) = false, (I (-1)) = (I (-1)), litA (I (-1)) = true]) (by kernel_rfl) ⟨c9, rfl, rfl, trivial⟩
noncomputable def slices_IndexFunc_Found_Found__impl_hasSign_1 (p1 : (List GFound)) (p2 : Str) : Option Int :=
  slices_IndexFunc_Found_Found__impl_hasSign_1_l0 p1 p2 FU 0
theorem slices_IndexFunc_Found_Found__impl_hasSign_1_m {p1 : (List GFound)} {p2 : Str} {r : Int} (h : slices_IndexFunc_Found_Found__impl_hasSign_1 p1 p2 = some r) : Meets Tryz.prog 76 [(AV.ro 2 (p1.map r61)), (AV.fn 58 [(AV.rop (o9 p2) 0)])] (I r) := by
  refine meets_ofC Θ_ok Tryz.func76 rfl (c := body76) (by kernel_rfl) (Nat.le_of_ble_eq_true rfl) ?_
  intro E hP hn hx
  replace hn : E.n = 19 := hn
  have hm : E.P.follows .mixedOrders = true := by rw [hP]; exact mixed
  have hΘ : TOK E.P Θ := by rw [hP]; exact Θ_ok
  unfold slices_IndexFunc_Found_Found__impl_hasSign_1 at h
  show WAt E body76 (FQ (RetE Θ Tryz.f76.results.toList [] [] (I r) E)) [] ⟨[(0, (AV.ro 2 (p1.map r61))), (1, (AV.fn 58 [(AV.rop (o9 p2) 0)]))], [], [JJ]⟩
  exact go_to hΘ hm hx hP hn (hs := [⟨2, .no, some (I (p1.length : Int))⟩]) (π := []) (ts := [0, 1, 7, 8]) (kp := []) (ps := [AV.lit (.int .i64 (((p1.map r61).length : Nat) : Int)) = (I (p1.length : Int))]) (by kernel_rfl) ⟨(lenM r61), trivial⟩ (slices_IndexFunc_Found_Found__impl_hasSign_1_l0_m hP hn hx p1 p2 FU 0 _ h)
noncomputable def body57 : Code := match Tryz.f57.body with | some c => c | none => .skip
noncomputable def slices_ContainsFunc_Found_Found__impl_hasSign_1 (p1 : (List GFound)) (p2 : Str) : Option Bool :=
  Option.bind (slices_IndexFunc_Found_Found__impl_hasSign_1 p1 p2) fun r3 =>
  some (decide (r3 ≥ 0))
theorem slices_ContainsFunc_Found_Found__impl_hasSign_1_m {p1 : (List GFound)} {p2 : Str} {r : Bool} (h : slices_ContainsFunc_Found_Found__impl_hasSign_1 p1 p2 = some r) : Meets Tryz.prog 57 [(AV.ro 2 (p1.map r61)), (AV.fn 58 [(AV.rop (o9 p2) 0)])] (B r) := by
  refine meets_ofC Θ_ok Tryz.func57 rfl (c := body57) (by kernel_rfl) (Nat.le_of_ble_eq_true rfl) ?_
  intro E hP hn hx
  replace hn : E.n = 9 := hn
  have hm : E.P.follows .mixedOrders = true := by rw [hP]; exact mixed
  have hΘ : TOK E.P Θ := by rw [hP]; exact Θ_ok
  unfold slices_ContainsFunc_Found_Found__impl_hasSign_1 at h
  show WAt E body57 (FQ (RetE Θ Tryz.f57.results.toList [] [] (B r) E)) [] ⟨[(0, (AV.ro 2 (p1.map r61))), (1, (AV.fn 58 [(AV.rop (o9 p2) 0)]))], [], [JJ]⟩
  obtain ⟨r3, hr3, h⟩ := bnS h
  have h := Option.some.inj h
  subst h
  exact go_ret hΘ hm hP hn (hs := [⟨3, .callV [] (I r3), none⟩]) (rh := []) (ph := .raw) (ps := [Meets Tryz.prog 76 [(AV.ro 2 (p1.map r61)), (AV.fn 58 [(AV.rop (o9 p2) 0)])] (I r3), litA (I r3) = true, (B (decide (r3 ≥ 0))) = (B (decide (r3 ≥ 0))), litA (B (decide (r3 ≥ 0))) = true]) (by kernel_rfl) ⟨(slices_IndexFunc_Found_Found__impl_hasSign_1_m hr3), rfl, rfl, rfl, trivial⟩
noncomputable def body28 : Code := match Tryz.f28.body with | some c => c | none => .skip
noncomputable def impl_hasSign (p1 : (List GFound)) (p2 : Str) : Option Bool :=
  Option.bind (slices_ContainsFunc_Found_Found__impl_hasSign_1 p1 p2) fun r3 =>
  some r3
theorem impl_hasSign_m {p1 : (List GFound)} {p2 : Str} {r : Bool} (h : impl_hasSign p1 p2 = some r) : Meets Tryz.prog 28 [(AV.ro 2 (p1.map r61)), (SK p2)] (B r) := by
  refine meets_ofC Θ_ok Tryz.func28 rfl (c := body28) (by kernel_rfl) (Nat.le_of_ble_eq_true rfl) ?_
  intro E hP hn hx
  replace hn : E.n = 8 := hn
  have hm : E.P.follows .mixedOrders = true := by rw [hP]; exact mixed
  have hΘ : TOK E.P Θ := by rw [hP]; exact Θ_ok
  unfold impl_hasSign at h
  show WAt E body28 (FQ (RetE Θ Tryz.f28.results.toList [] [] (B r) E)) [] ⟨[(0, (AV.ro 2 (p1.map r61))), (1, (SK p2))], [], [JJ]⟩
  obtain ⟨r3, hr3, h⟩ := bnS h
  have h := Option.some.inj h
  subst h
  exact go_ret hΘ hm hP hn (hs := [⟨0, .new 1001, none⟩, ⟨4, .callV [[]] (B r3), none⟩]) (rh := []) (ph := .raw) (ps := [Meets Tryz.prog 57 [(AV.ro 2 (p1.map r61)), (AV.fn 58 [(AV.rop (o9 p2) 0)])] (B r3), litA (B r3) = true, (B r3) = (B r3), litA (B r3) = true]) (by kernel_rfl) ⟨(slices_ContainsFunc_Found_Found__impl_hasSign_1_m hr3), rfl, rfl, rfl, trivial⟩
noncomputable def body54 : Code := match Tryz.f54.body with | some c => c | none => .skip
noncomputable def impl_isRising_l0  (p1 : (List Int)) (p2 : Int) : Nat → Int → Option Bool
  | 0, _ => none
  | n + 1, v3 =>
  if (decide (v3 < (p1.length : Int))) = true then
    Option.bind (rd p1 v3) fun x5 =>
    Option.bind (impl_in x5 0 p2) fun r6 =>
    if (!r6) = true then
      some false
    else
      if (decide (v3 > 0)) = true then
        Option.bind (rd p1 (w64 (v3 - 1))) fun x10 =>
        if (decide (x10 ≥ x5)) = true then
          some false
        else
          impl_isRising_l0 p1 p2 n (w64 (v3 + 1))
      else
        impl_isRising_l0 p1 p2 n (w64 (v3 + 1))
  else
    some true
theorem impl_isRising_l0_m {E : Env} (hP : E.P = Tryz.prog) (hn : E.n = 32) (hx : ∀ p, p ∈ E.fx → p.1 ∈ ([] : List Nat)) (p1 : (List Int)) (p2 : Int)  : ∀ (n : Nat) (v3 : Int) (r : Bool), impl_isRising_l0 p1 p2 n v3 = some r → WAt E body54 (FQ (RetE Θ Tryz.f54.results.toList [] [] (B r) E)) [true, false, true, false] ⟨[(0, (AV.ro 1 (p1.map o3))), (1, (I p2)), (7, (AV.ro 1 (p1.map o3))), (8, (I (p1.length : Int))), (9, (I v3))], [], [JJ]⟩ := by
  have hm : E.P.follows .mixedOrders = true := by rw [hP]; exact mixed
  have hΘ : TOK E.P Θ := by rw [hP]; exact Θ_ok
  intro n
  induction n with
  | zero => intro v3 r h; simp only [impl_isRising_l0] at h; cases h
  | succ n ih =>
    intro v3 r h
    simp only [impl_isRising_l0] at h
    rcases itS h with ⟨c4, h⟩ | ⟨c14, h⟩
    · obtain ⟨x5, hx5, h⟩ := bnS h
      obtain ⟨r6, hr6, h⟩ := bnS h
      rcases itS h with ⟨c7, h⟩ | ⟨c8, h⟩
      · have h := Option.some.inj h
        subst h
        exact go_ret hΘ hm hP hn (hs := [⟨1, .br true, none⟩, ⟨3, .row (o3 x5), none⟩, ⟨9, .callV [] (B r6), none⟩, ⟨11, .no, some (B true)⟩]) (rh := []) (ph := .raw) (ps := [(decide (v3 < (p1.length : Int))) = true, (0 : Int) ≤ v3, (p1.map o3)[(Int.toNat v3)]? = some (o3 x5), Meets Tryz.prog 27 [(I x5), (I 0), (I p2)] (B r6), litA (B r6) = true, (B (!r6)) = (B true), (B false) = (B false), litA (B false) = true]) (by kernel_rfl) ⟨c4, (rd0 hx5), (rdM o3 hx5), (impl_in_m hr6), rfl, (litB c7), rfl, rfl, trivial⟩
      · rcases itS h with ⟨c9, h⟩ | ⟨c13, h⟩
        · obtain ⟨x10, hx10, h⟩ := bnS h
          rcases itS h with ⟨c11, h⟩ | ⟨c12, h⟩
          · have h := Option.some.inj h
            subst h
            exact go_ret hΘ hm hP hn (hs := [⟨1, .br true, none⟩, ⟨3, .row (o3 x5), none⟩, ⟨9, .callV [] (B r6), none⟩, ⟨11, .no, some (B false)⟩, ⟨14, .no, some (B true)⟩, ⟨18, .row (o3 x10), none⟩, ⟨24, .br true, none⟩]) (rh := []) (ph := .raw) (ps := [(decide (v3 < (p1.length : Int))) = true, (0 : Int) ≤ v3, (p1.map o3)[(Int.toNat v3)]? = some (o3 x5), Meets Tryz.prog 27 [(I x5), (I 0), (I p2)] (B r6), litA (B r6) = true, (B (!r6)) = (B false), (B (decide (v3 > 0))) = (B true), (0 : Int) ≤ (w64 (v3 - 1)), (p1.map o3)[(Int.toNat (w64 (v3 - 1)))]? = some (o3 x10), (decide (x10 ≥ x5)) = true, (B false) = (B false), litA (B false) = true]) (by kernel_rfl) ⟨c4, (rd0 hx5), (rdM o3 hx5), (impl_in_m hr6), rfl, (litB c8), (litB c9), (rd0 hx10), (rdM o3 hx10), c11, rfl, rfl, trivial⟩
          · exact go_to hΘ hm hx hP hn (hs := [⟨1, .br true, none⟩, ⟨3, .row (o3 x5), none⟩, ⟨9, .callV [] (B r6), none⟩, ⟨11, .no, some (B false)⟩, ⟨14, .no, some (B true)⟩, ⟨18, .row (o3 x10), none⟩, ⟨24, .br false, none⟩]) (π := []) (ts := [0, 1, 7, 8, 9]) (kp := []) (ps := [(decide (v3 < (p1.length : Int))) = true, (0 : Int) ≤ v3, (p1.map o3)[(Int.toNat v3)]? = some (o3 x5), Meets Tryz.prog 27 [(I x5), (I 0), (I p2)] (B r6), litA (B r6) = true, (B (!r6)) = (B false), (B (decide (v3 > 0))) = (B true), (0 : Int) ≤ (w64 (v3 - 1)), (p1.map o3)[(Int.toNat (w64 (v3 - 1)))]? = some (o3 x10), (decide (x10 ≥ x5)) = false]) (by kernel_rfl) ⟨c4, (rd0 hx5), (rdM o3 hx5), (impl_in_m hr6), rfl, (litB c8), (litB c9), (rd0 hx10), (rdM o3 hx10), c12, trivial⟩ (ih (w64 (v3 + 1)) _ h)
        · exact go_to hΘ hm hx hP hn (hs := [⟨1, .br true, none⟩, ⟨3, .row (o3 x5), none⟩, ⟨9, .callV [] (B r6), none⟩, ⟨11, .no, some (B false)⟩, ⟨14, .no, some (B false)⟩]) (π := []) (ts := [0, 1, 7, 8, 9]) (kp := []) (ps := [(decide (v3 < (p1.length : Int))) = true, (0 : Int) ≤ v3, (p1.map o3)[(Int.toNat v3)]? = some (o3 x5), Meets Tryz.prog 27 [(I x5), (I 0), (I p2)] (B r6), litA (B r6) = true, (B (!r6)) = (B false), (B (decide (v3 > 0))) = (B false)]) (by kernel_rfl) ⟨c4, (rd0 hx5), (rdM o3 hx5), (impl_in_m hr6), rfl, (litB c8), (litB c13), trivial⟩ (ih (w64 (v3 + 1)) _ h)
    · have h := Option.some.inj h
      subst h
      exact go_ret hΘ hm hP hn (hs := [⟨1, .br false, none⟩]) (rh := []) (ph := .raw) (ps := [(decide (v3 < (p1.length : Int))) = false, (B true) = (B true), litA (B true) = true]) (by kernel_rfl) ⟨c14, rfl, rfl, trivial⟩
noncomputable def impl_isRising (p1 : (List Int)) (p2 : Int) : Option Bool :=
  impl_isRising_l0 p1 p2 FU 0
theorem impl_isRising_m {p1 : (List Int)} {p2 : Int} {r : Bool} (h : impl_isRising p1 p2 = some r) : Meets Tryz.prog 54 [(AV.ro 1 (p1.map o3)), (I p2)] (B r) := by
  refine meets_ofC Θ_ok Tryz.func54 rfl (c := body54) (by kernel_rfl) (Nat.le_of_ble_eq_true rfl) ?_
  intro E hP hn hx
  replace hn : E.n = 32 := hn
  have hm : E.P.follows .mixedOrders = true := by rw [hP]; exact mixed
  have hΘ : TOK E.P Θ := by rw [hP]; exact Θ_ok
  unfold impl_isRising at h
  show WAt E body54 (FQ (RetE Θ Tryz.f54.results.toList [] [] (B r) E)) [] ⟨[(0, (AV.ro 1 (p1.map o3))), (1, (I p2))], [], [JJ]⟩
  exact go_to hΘ hm hx hP hn (hs := [⟨2, .no, some (I (p1.length : Int))⟩]) (π := []) (ts := [0, 1, 7, 8, 9]) (kp := []) (ps := [AV.lit (.int .i64 (((p1.map o3).length : Nat) : Int)) = (I (p1.length : Int))]) (by kernel_rfl) ⟨(lenM o3), trivial⟩ (impl_isRising_l0_m hP hn hx p1 p2 FU 0 _ h)
noncomputable def body73 : Code := match Tryz.f73.body with | some c => c | none => .skip
noncomputable def slices_Compact_int_int_l1 (K0 : (List Int) → Int → Option (List Int)) (p1 : (List Int)) (a4 : (List Int)) (v5 : Int) : Nat → (List Int) → Int → Int → Option (List Int)
  | 0, _, _, _ => none
  | n + 1, a11, v12, v13 =>
  if (decide (v13 < (((subO (Int.toNat (((a4.map o3).length : Nat) : Int)) (Int.toNat v5)) : Nat) : Int))) = true then
    Option.bind (rdc a11 (Int.toNat v5) (subO (Int.toNat (((a4.map o3).length : Nat) : Int)) (Int.toNat v5)) v13) fun x15 =>
    Option.bind (rdc a11 (Int.toNat v5) (subO (Int.toNat (((a4.map o3).length : Nat) : Int)) (Int.toNat v5)) (w64 (v13 - 1))) fun x16 =>
    if (x15 != x16) = true then
      Option.bind (rdc a11 (Int.toNat v5) (subO (Int.toNat (((a4.map o3).length : Nat) : Int)) (Int.toNat v5)) v13) fun x18 =>
      Option.bind (rd a11 v12) fun x19 =>
      slices_Compact_int_int_l1 K0 p1 a4 v5 n (a11.set (Int.toNat v12) x18) (w64 (v12 + 1)) (w64 (v13 + 1))
    else
      slices_Compact_int_int_l1 K0 p1 a4 v5 n a11 v12 (w64 (v13 + 1))
  else
    Option.bind (slc a11 v12 (a11.length : Int)) fun l22 =>
    Option.bind (slc (clrT a11 0 (Int.toNat v12) (subO (Int.toNat (((a11.map o3).length : Nat) : Int)) (Int.toNat v12))) 0 v12) fun l23 =>
    some l23
theorem slices_Compact_int_int_l1_m {E : Env} (hP : E.P = Tryz.prog) (hn : E.n = 61) (hx : ∀ p, p ∈ E.fx → p.1 ∈ ([] : List Nat)) (p1 : (List Int)) (a4 : (List Int)) (v5 : Int) {K0 : (List Int) → Int → Option (List Int)} (hK0 : ∀ (a4 : (List Int)) (v5 : Int) (r : (List Int)), K0 a4 v5 = some r → WAt E body73 (FQ (RetE Θ Tryz.f73.results.toList [false] [⟨3, 1, (p1.map o3)⟩] (AV.own 3 1 (r.map o3)) E)) [true, true, false, true, false] ⟨[(0, (AV.sl 1 0 (List.length (a4.map o3)))), (3, (I v5))], [(1, some ⟨3, 1, (a4.map o3)⟩)], [1, JJ]⟩) : ∀ (n : Nat) (a11 : (List Int)) (v12 : Int) (v13 : Int) (r : (List Int)), slices_Compact_int_int_l1 K0 p1 a4 v5 n a11 v12 v13 = some r → WAt E body73 (FQ (RetE Θ Tryz.f73.results.toList [false] [⟨3, 1, (p1.map o3)⟩] (AV.own 3 1 (r.map o3)) E)) [true, true, false, true, false, false, true, false, false, true, false, true, false, true, false] ⟨[(0, (AV.sl 1 0 (List.length (a11.map o3)))), (3, (I v12)), (4, (AV.sl 1 (Int.toNat v5) (subO (Int.toNat (((a4.map o3).length : Nat) : Int)) (Int.toNat v5)))), (5, (I v13))], [(1, some ⟨3, 1, (a11.map o3)⟩)], [1, JJ]⟩ := by
  have hm : E.P.follows .mixedOrders = true := by rw [hP]; exact mixed
  have hΘ : TOK E.P Θ := by rw [hP]; exact Θ_ok
  intro n
  induction n with
  | zero => intro a11 v12 v13 r h; simp only [slices_Compact_int_int_l1] at h; cases h
  | succ n ih =>
    intro a11 v12 v13 r h
    simp only [slices_Compact_int_int_l1] at h
    rcases itS h with ⟨c14, h⟩ | ⟨c21, h⟩
    · obtain ⟨x15, hx15, h⟩ := bnS h
      obtain ⟨x16, hx16, h⟩ := bnS h
      rcases itS h with ⟨c17, h⟩ | ⟨c20, h⟩
      · obtain ⟨x18, hx18, h⟩ := bnS h
        obtain ⟨x19, hx19, h⟩ := bnS h
        exact go_to hΘ hm hx hP hn (hs := [⟨2, .no, some (I (((subO (Int.toNat (((a4.map o3).length : Nat) : Int)) (Int.toNat v5)) : Nat) : Int))⟩, ⟨4, .br true, none⟩, ⟨8, .row [(I x15)], none⟩, ⟨13, .row [(I x16)], none⟩, ⟨15, .br true, none⟩, ⟨21, .row [(I x18)], none⟩, ⟨23, .sto [(I x19)] ((a11.set (Int.toNat v12) x18).map o3), none⟩, ⟨30, .slen 0 (List.length ((a11.set (Int.toNat v12) x18).map o3)), none⟩]) (π := [(1, 1)]) (ts := [0, 3, 4, 5]) (kp := []) (ps := [AV.lit (.int .i64 (((subO (Int.toNat (((a4.map o3).length : Nat) : Int)) (Int.toNat v5)) : Nat) : Int)) = (I (((subO (Int.toNat (((a4.map o3).length : Nat) : Int)) (Int.toNat v5)) : Nat) : Int)), (decide (v13 < (((subO (Int.toNat (((a4.map o3).length : Nat) : Int)) (Int.toNat v5)) : Nat) : Int))) = true, (0 : Int) ≤ v13, v13 < (((subO (Int.toNat (((a4.map o3).length : Nat) : Int)) (Int.toNat v5)) : Nat) : Int), (a11.map o3)[(addO (Int.toNat v5) (Int.toNat v13))]? = some [(I x15)], (0 : Int) ≤ (w64 (v13 - 1)), (w64 (v13 - 1)) < (((subO (Int.toNat (((a4.map o3).length : Nat) : Int)) (Int.toNat v5)) : Nat) : Int), (a11.map o3)[(addO (Int.toNat v5) (Int.toNat (w64 (v13 - 1))))]? = some [(I x16)], (x15 != x16) = true, (0 : Int) ≤ v13, v13 < (((subO (Int.toNat (((a4.map o3).length : Nat) : Int)) (Int.toNat v5)) : Nat) : Int), (a11.map o3)[(addO (Int.toNat v5) (Int.toNat v13))]? = some [(I x18)], (0 : Int) ≤ v12, v12 < (((List.length (a11.map o3)) : Nat) : Int), (a11.map o3)[(Int.toNat v12)]? = some [(I x19)], (a11.map o3).set (Int.toNat v12) (wr [(I x19)] 0 [(I x18)]) = ((a11.set (Int.toNat v12) x18).map o3), [(I x18)].length = 1, 0 + [(I x18)].length ≤ [(I x19)].length, (List.length (a11.map o3)) = (List.length ((a11.set (Int.toNat v12) x18).map o3)), RenOK [(1, 1)] ((a11.set (Int.toNat v12) x18).map o3)]) (by kernel_rfl) ⟨rfl, c14, (rdc0 hx15), (rdcL hx15), (rdM o3 (rdcR hx15)), (rdc0 hx16), (rdcL hx16), (rdM o3 (rdcR hx16)), c17, (rdc0 hx18), (rdcL hx18), (rdM o3 (rdcR hx18)), (rd0 hx19), (rdL o3 hx19), (rdM o3 hx19), (setM o3), rfl, (Nat.le_of_ble_eq_true rfl), (by first | exact lnSet _ | exact lnSet2 _ | simp only [List.length_map, List.length_set, List.length_cons, List.length_nil]), (rok (treeM t3)), trivial⟩ (ih (a11.set (Int.toNat v12) x18) (w64 (v12 + 1)) (w64 (v13 + 1)) _ h)
      · exact go_to hΘ hm hx hP hn (hs := [⟨2, .no, some (I (((subO (Int.toNat (((a4.map o3).length : Nat) : Int)) (Int.toNat v5)) : Nat) : Int))⟩, ⟨4, .br true, none⟩, ⟨8, .row [(I x15)], none⟩, ⟨13, .row [(I x16)], none⟩, ⟨15, .br false, none⟩]) (π := [(1, 1)]) (ts := [0, 3, 4, 5]) (kp := []) (ps := [AV.lit (.int .i64 (((subO (Int.toNat (((a4.map o3).length : Nat) : Int)) (Int.toNat v5)) : Nat) : Int)) = (I (((subO (Int.toNat (((a4.map o3).length : Nat) : Int)) (Int.toNat v5)) : Nat) : Int)), (decide (v13 < (((subO (Int.toNat (((a4.map o3).length : Nat) : Int)) (Int.toNat v5)) : Nat) : Int))) = true, (0 : Int) ≤ v13, v13 < (((subO (Int.toNat (((a4.map o3).length : Nat) : Int)) (Int.toNat v5)) : Nat) : Int), (a11.map o3)[(addO (Int.toNat v5) (Int.toNat v13))]? = some [(I x15)], (0 : Int) ≤ (w64 (v13 - 1)), (w64 (v13 - 1)) < (((subO (Int.toNat (((a4.map o3).length : Nat) : Int)) (Int.toNat v5)) : Nat) : Int), (a11.map o3)[(addO (Int.toNat v5) (Int.toNat (w64 (v13 - 1))))]? = some [(I x16)], (x15 != x16) = false, RenOK [(1, 1)] (a11.map o3)]) (by kernel_rfl) ⟨rfl, c14, (rdc0 hx15), (rdcL hx15), (rdM o3 (rdcR hx15)), (rdc0 hx16), (rdcL hx16), (rdM o3 (rdcR hx16)), c20, (rok (treeM t3)), trivial⟩ (ih a11 v12 (w64 (v13 + 1)) _ h)
    · obtain ⟨l22, hl22, h⟩ := bnS h
      obtain ⟨l23, hl23, h⟩ := bnS h
      have h := Option.some.inj h
      subst h
      exact go_ret hΘ hm hP hn (hs := [⟨2, .no, some (I (((subO (Int.toNat (((a4.map o3).length : Nat) : Int)) (Int.toNat v5)) : Nat) : Int))⟩, ⟨4, .br false, none⟩, ⟨8, .clr ((clrT a11 0 (Int.toNat v12) (subO (Int.toNat (((a11.map o3).length : Nat) : Int)) (Int.toNat v12))).map o3), none⟩, ⟨9, .slen 0 (List.length ((clrT a11 0 (Int.toNat v12) (subO (Int.toNat (((a11.map o3).length : Nat) : Int)) (Int.toNat v12))).map o3)), none⟩]) (rh := []) (ph := .own) (ps := [AV.lit (.int .i64 (((subO (Int.toNat (((a4.map o3).length : Nat) : Int)) (Int.toNat v5)) : Nat) : Int)) = (I (((subO (Int.toNat (((a4.map o3).length : Nat) : Int)) (Int.toNat v5)) : Nat) : Int)), (decide (v13 < (((subO (Int.toNat (((a4.map o3).length : Nat) : Int)) (Int.toNat v5)) : Nat) : Int))) = false, (0 : Int) ≤ v12, v12 ≤ (((a11.map o3).length : Nat) : Int), (((a11.map o3).length : Nat) : Int) ≤ (((List.length (a11.map o3)) : Nat) : Int), litR (a11.map o3) = true, (Int.toNat v12) + (subO (Int.toNat (((a11.map o3).length : Nat) : Int)) (Int.toNat v12)) ≤ (a11.map o3).length, ovr_ (a11.map o3) (Int.toNat v12) (List.replicate (subO (Int.toNat (((a11.map o3).length : Nat) : Int)) (Int.toNat v12)) (o3 0)) = ((clrT a11 0 (Int.toNat v12) (subO (Int.toNat (((a11.map o3).length : Nat) : Int)) (Int.toNat v12))).map o3), (List.length (a11.map o3)) = (List.length ((clrT a11 0 (Int.toNat v12) (subO (Int.toNat (((a11.map o3).length : Nat) : Int)) (Int.toNat v12))).map o3)), (0 : Int) ≤ 0, 0 ≤ v12, v12 ≤ (((List.length ((clrT a11 0 (Int.toNat v12) (subO (Int.toNat (((a11.map o3).length : Nat) : Int)) (Int.toNat v12))).map o3)) : Nat) : Int), treeLL (((clrT a11 0 (Int.toNat v12) (subO (Int.toNat (((a11.map o3).length : Nat) : Int)) (Int.toNat v12))).map o3).take (Int.toNat v12)) = true, ((clrT a11 0 (Int.toNat v12) (subO (Int.toNat (((a11.map o3).length : Nat) : Int)) (Int.toNat v12))).map o3).take (Int.toNat v12) = (l23.map o3), noRoLL (l23.map o3) = true]) (by kernel_rfl) ⟨rfl, c21, (sl0 hl22), (sl1e o3 hl22), (Int.le_refl _), (litR_map (fun _ => rfl) _), (clBe o3 hl22), (clrM o3 rfl), (lnClre o3 hl22), (sl0 hl23), (sl1 hl23), (sl2 o3 hl23), (treeW0 t3 hl23), (winT0 o3 hl23), (noRoM n3), trivial⟩
noncomputable def slices_Compact_int_int_l0  (p1 : (List Int)) : Nat → (List Int) → Int → Option (List Int)
  | 0, _, _ => none
  | n + 1, a4, v5 =>
  if (decide (v5 < (a4.length : Int))) = true then
    Option.bind (rd a4 v5) fun x7 =>
    Option.bind (rd a4 (w64 (v5 - 1))) fun x8 =>
    if (x7 == x8) = true then
      Option.bind (slc a4 v5 (a4.length : Int)) fun l10 =>
      slices_Compact_int_int_l1 (slices_Compact_int_int_l0 p1 n) p1 a4 v5 FU a4 v5 1
    else
      slices_Compact_int_int_l0 p1 n a4 (w64 (v5 + 1))
  else
    some a4
theorem slices_Compact_int_int_l0_m {E : Env} (hP : E.P = Tryz.prog) (hn : E.n = 61) (hx : ∀ p, p ∈ E.fx → p.1 ∈ ([] : List Nat)) (p1 : (List Int))  : ∀ (n : Nat) (a4 : (List Int)) (v5 : Int) (r : (List Int)), slices_Compact_int_int_l0 p1 n a4 v5 = some r → WAt E body73 (FQ (RetE Θ Tryz.f73.results.toList [false] [⟨3, 1, (p1.map o3)⟩] (AV.own 3 1 (r.map o3)) E)) [true, true, false, true, false] ⟨[(0, (AV.sl 1 0 (List.length (a4.map o3)))), (3, (I v5))], [(1, some ⟨3, 1, (a4.map o3)⟩)], [1, JJ]⟩ := by
  have hm : E.P.follows .mixedOrders = true := by rw [hP]; exact mixed
  have hΘ : TOK E.P Θ := by rw [hP]; exact Θ_ok
  intro n
  induction n with
  | zero => intro a4 v5 r h; simp only [slices_Compact_int_int_l0] at h; cases h
  | succ n ih =>
    intro a4 v5 r h
    simp only [slices_Compact_int_int_l0] at h
    rcases itS h with ⟨c6, h⟩ | ⟨c25, h⟩
    · obtain ⟨x7, hx7, h⟩ := bnS h
      obtain ⟨x8, hx8, h⟩ := bnS h
      rcases itS h with ⟨c9, h⟩ | ⟨c24, h⟩
      · obtain ⟨l10, hl10, h⟩ := bnS h
        exact go_to hΘ hm hx hP hn (hs := [⟨2, .no, some (I (a4.length : Int))⟩, ⟨4, .br true, none⟩, ⟨8, .row [(I x7)], none⟩, ⟨13, .row [(I x8)], none⟩, ⟨15, .br true, none⟩]) (π := [(1, 1)]) (ts := [0, 3, 4, 5]) (kp := []) (ps := [AV.lit (.int .i64 (((List.length (a4.map o3)) : Nat) : Int)) = (I (a4.length : Int)), (decide (v5 < (a4.length : Int))) = true, (0 : Int) ≤ v5, v5 < (((List.length (a4.map o3)) : Nat) : Int), (a4.map o3)[(Int.toNat v5)]? = some [(I x7)], (0 : Int) ≤ (w64 (v5 - 1)), (w64 (v5 - 1)) < (((List.length (a4.map o3)) : Nat) : Int), (a4.map o3)[(Int.toNat (w64 (v5 - 1)))]? = some [(I x8)], (x7 == x8) = true, (0 : Int) ≤ v5, v5 ≤ (((a4.map o3).length : Nat) : Int), (((a4.map o3).length : Nat) : Int) ≤ (((List.length (a4.map o3)) : Nat) : Int), RenOK [(1, 1)] (a4.map o3)]) (by kernel_rfl) ⟨(lenM o3), c6, (rd0 hx7), (rdL o3 hx7), (rdM o3 hx7), (rd0 hx8), (rdL o3 hx8), (rdM o3 hx8), c9, (sl0 hl10), (sl1e o3 hl10), (Int.le_refl _), (rok (treeM t3)), trivial⟩ (slices_Compact_int_int_l1_m hP hn hx p1 a4 v5 ih FU a4 v5 1 _ h)
      · exact go_to hΘ hm hx hP hn (hs := [⟨2, .no, some (I (a4.length : Int))⟩, ⟨4, .br true, none⟩, ⟨8, .row [(I x7)], none⟩, ⟨13, .row [(I x8)], none⟩, ⟨15, .br false, none⟩]) (π := [(1, 1)]) (ts := [0, 3]) (kp := []) (ps := [AV.lit (.int .i64 (((List.length (a4.map o3)) : Nat) : Int)) = (I (a4.length : Int)), (decide (v5 < (a4.length : Int))) = true, (0 : Int) ≤ v5, v5 < (((List.length (a4.map o3)) : Nat) : Int), (a4.map o3)[(Int.toNat v5)]? = some [(I x7)], (0 : Int) ≤ (w64 (v5 - 1)), (w64 (v5 - 1)) < (((List.length (a4.map o3)) : Nat) : Int), (a4.map o3)[(Int.toNat (w64 (v5 - 1)))]? = some [(I x8)], (x7 == x8) = false, RenOK [(1, 1)] (a4.map o3)]) (by kernel_rfl) ⟨(lenM o3), c6, (rd0 hx7), (rdL o3 hx7), (rdM o3 hx7), (rd0 hx8), (rdL o3 hx8), (rdM o3 hx8), c24, (rok (treeM t3)), trivial⟩ (ih a4 (w64 (v5 + 1)) _ h)
    · have h := Option.some.inj h
      subst h
      exact go_ret hΘ hm hP hn (hs := [⟨2, .no, some (I (a4.length : Int))⟩, ⟨4, .br false, none⟩]) (rh := []) (ph := .own) (ps := [AV.lit (.int .i64 (((List.length (a4.map o3)) : Nat) : Int)) = (I (a4.length : Int)), (decide (v5 < (a4.length : Int))) = false, treeLL ((a4.map o3).take (List.length (a4.map o3))) = true, (a4.map o3).take (List.length (a4.map o3)) = (a4.map o3), noRoLL (a4.map o3) = true]) (by kernel_rfl) ⟨(lenM o3), c25, (treeT t3), takeM, (noRoM n3), trivial⟩
noncomputable def slices_Compact_int_int (p1 : (List Int)) : Option (List Int) :=
  if (decide ((p1.length : Int) < 2)) = true then
    some p1
  else
    slices_Compact_int_int_l0 p1 FU p1 1
theorem slices_Compact_int_int_m {p1 : (List Int)} {r : (List Int)} (h : slices_Compact_int_int p1 = some r) : MeetsR Tryz.prog 73 [⟨3, 1, (p1.map o3)⟩] [(AV.sl 0 0 (List.length (p1.map o3)))] [false] [⟨3, 1, (p1.map o3)⟩] (AV.own 3 1 (r.map o3)) := by
  refine meetsR_of Θ_ok Tryz.func73 rfl (c := body73) (by kernel_rfl) (Nat.le_of_ble_eq_true rfl) rfl (Nat.le_of_ble_eq_true rfl) rfl (fr := []) (frI rfl) ?_
  intro E hP hn hx
  replace hn : E.n = 61 := hn
  have hm : E.P.follows .mixedOrders = true := by rw [hP]; exact mixed
  have hΘ : TOK E.P Θ := by rw [hP]; exact Θ_ok
  unfold slices_Compact_int_int at h
  show WAt E body73 (FQ (RetE Θ Tryz.f73.results.toList [false] [⟨3, 1, (p1.map o3)⟩] (AV.own 3 1 (r.map o3)) E)) [] ⟨[(0, (AV.sl 0 0 (List.length (p1.map o3))))], [(0, some ⟨3, 1, (p1.map o3)⟩)], [0, JJ]⟩
  rcases itS h with ⟨c2, h⟩ | ⟨c3, h⟩
  · have h := Option.some.inj h
    subst h
    exact go_ret hΘ hm hP hn (hs := [⟨2, .no, some (I (p1.length : Int))⟩, ⟨4, .br true, none⟩]) (rh := []) (ph := .own) (ps := [AV.lit (.int .i64 (((List.length (p1.map o3)) : Nat) : Int)) = (I (p1.length : Int)), (decide ((p1.length : Int) < 2)) = true, treeLL ((p1.map o3).take (List.length (p1.map o3))) = true, (p1.map o3).take (List.length (p1.map o3)) = (p1.map o3), noRoLL (p1.map o3) = true]) (by kernel_rfl) ⟨(lenM o3), c2, (treeT t3), takeM, (noRoM n3), trivial⟩
  · exact go_to hΘ hm hx hP hn (hs := [⟨2, .no, some (I (p1.length : Int))⟩, ⟨4, .br false, none⟩]) (π := [(0, 1)]) (ts := [0, 3]) (kp := []) (ps := [AV.lit (.int .i64 (((List.length (p1.map o3)) : Nat) : Int)) = (I (p1.length : Int)), (decide ((p1.length : Int) < 2)) = false, RenOK [(0, 1)] (p1.map o3)]) (by kernel_rfl) ⟨(lenM o3), c3, (rok (treeM t3)), trivial⟩ (slices_Compact_int_int_l0_m hP hn hx p1 FU p1 1 _ h)
section
open Go.RowKit Go.Sort Go.Shelf Go.Proofs
shelf_lay_g SlLaysM.n5 Slgm 5 at Tryz 72 as Tryz.srt72
end
noncomputable def slices_Sort_int_int (p1 : (List Int)) : Option (Unit × (List Int)) :=
  srtL p1
theorem slices_Sort_int_int_m {p1 : (List Int)} {r : (Unit × (List Int))} (h : slices_Sort_int_int p1 = some r) : MeetsR Tryz.prog 72 [⟨3, 1, (p1.map o3)⟩] [(AV.sl 0 0 (List.length (p1.map o3)))] [true] [⟨3, 1, (r.2.map o3)⟩] (AV.tup []) := by
  obtain ⟨h1, rfl⟩ := srtE h
  exact meetsR_sortI Tryz.srt72 (Go.Proofs.enters_of Tryz.func72 rfl rfl) 3 p1 h1
noncomputable def body52 : Code := match Tryz.f52.body with | some c => c | none => .skip
noncomputable def impl_rising (p1 : (List Int)) : Option (List Int) :=
  Option.bind (slices_Sort_int_int p1) fun r2 =>
  Option.bind (sameLen p1 r2.2) fun q3 =>
  Option.bind (slices_Compact_int_int r2.2) fun r4 =>
  some r4
theorem impl_rising_m {p1 : (List Int)} {r : (List Int)} (h : impl_rising p1 = some r) : MeetsR Tryz.prog 52 [⟨3, 1, (p1.map o3)⟩] [(AV.sl 0 0 (List.length (p1.map o3)))] [false] [⟨3, 1, (p1.map o3)⟩] (AV.own 3 1 (r.map o3)) := by
  refine meetsR_of Θ_ok Tryz.func52 rfl (c := body52) (by kernel_rfl) (Nat.le_of_ble_eq_true rfl) rfl (Nat.le_of_ble_eq_true rfl) rfl (fr := []) (frI rfl) ?_
  intro E hP hn hx
  replace hn : E.n = 7 := hn
  have hm : E.P.follows .mixedOrders = true := by rw [hP]; exact mixed
  have hΘ : TOK E.P Θ := by rw [hP]; exact Θ_ok
  unfold impl_rising at h
  show WAt E body52 (FQ (RetE Θ Tryz.f52.results.toList [false] [⟨3, 1, (p1.map o3)⟩] (AV.own 3 1 (r.map o3)) E)) [] ⟨[(0, (AV.sl 0 0 (List.length (p1.map o3))))], [(0, some ⟨3, 1, (p1.map o3)⟩)], [0, JJ]⟩
  obtain ⟨r2, hr2, h⟩ := bnS h
  obtain ⟨q3, hq3, h⟩ := bnS h
  obtain ⟨r4, hr4, h⟩ := bnS h
  have h := Option.some.inj h
  subst h
  exact go_ret hΘ hm hP hn (hs := [⟨2, .callX [0] [true] [⟨3, 1, (p1.map o3)⟩] [⟨3, 1, (r2.2.map o3)⟩] [] (AV.tup []) [] (AV.tup []) [], none⟩, ⟨3, .slen 0 (List.length (r2.2.map o3)), none⟩, ⟨4, .callX [0] [false] [⟨3, 1, (r2.2.map o3)⟩] [⟨3, 1, (r2.2.map o3)⟩] [] (AV.own 3 1 (r4.map o3)) [1001] (AV.sl 1001 0 (List.length (r4.map o3))) [(1001, ⟨3, 1, (r4.map o3)⟩)], none⟩]) (rh := []) (ph := .own) (ps := [MeetsR Tryz.prog 72 [⟨3, 1, (p1.map o3)⟩] [(AV.sl 0 0 (List.length (p1.map o3)))] [true] [⟨3, 1, (r2.2.map o3)⟩] (AV.tup []), (some (Root.mk 3 1 (p1.map o3)) = some (Root.mk 3 1 (p1.map o3))) ∧ True, (treeLL (p1.map o3) = true ∧ noRoLL (p1.map o3) = true) ∧ True, ((r2.2.map o3).length = (p1.map o3).length) ∧ True, (rtf (renA [(0, 0)] (AV.tup [])) []).1 = (AV.tup []), (rtf (renA [(0, 0)] (AV.tup [])) []).2.1 = [], (List.length (p1.map o3)) = (List.length (r2.2.map o3)), MeetsR Tryz.prog 73 [⟨3, 1, (r2.2.map o3)⟩] [(AV.sl 0 0 (List.length (r2.2.map o3)))] [false] [⟨3, 1, (r2.2.map o3)⟩] (AV.own 3 1 (r4.map o3)), (some (Root.mk 3 1 (r2.2.map o3)) = some (Root.mk 3 1 (r2.2.map o3))) ∧ True, (treeLL (r2.2.map o3) = true ∧ noRoLL (r2.2.map o3) = true) ∧ True, ((r2.2.map o3).length = (r2.2.map o3).length) ∧ True, (rtf (renA [] (AV.own 3 1 (r4.map o3))) [1001]).1 = (AV.sl 1001 0 (List.length (r4.map o3))), (rtf (renA [] (AV.own 3 1 (r4.map o3))) [1001]).2.1 = [(1001, ⟨3, 1, (r4.map o3)⟩)], treeLL ((r4.map o3).take (List.length (r4.map o3))) = true, (r4.map o3).take (List.length (r4.map o3)) = (r4.map o3), noRoLL (r4.map o3) = true]) (by kernel_rfl) ⟨(slices_Sort_int_int_m hr2), ⟨rfl, trivial⟩, ⟨⟨treeM t3, noRoM n3⟩, trivial⟩, ⟨(sameLenE o3 hq3), trivial⟩, rfl, rfl, (sameLenE o3 hq3).symm, (slices_Compact_int_int_m hr4), ⟨rfl, trivial⟩, ⟨⟨treeM t3, noRoM n3⟩, trivial⟩, ⟨rfl, trivial⟩, rfl, rfl, (treeT t3), takeM, (noRoM n3), trivial⟩
noncomputable def body53 : Code := match Tryz.f53.body with | some c => c | none => .skip
noncomputable def slices_Clone_int_int_j0  (p1 : (List Int))  : Option (List Int) :=
  nilS p1 (
    some []) (
    Option.bind (app [] p1) fun l2 =>
    some l2)
theorem slices_Clone_int_int_j0_m {E : Env} (hP : E.P = Tryz.prog) (hn : E.n = 8) (hx : ∀ p, p ∈ E.fx → p.1 ∈ ([] : List Nat)) (p1 : (List Int))   (r : (List Int)) (h : slices_Clone_int_int_j0 p1  = some r) : WAt E body53 (FQ (RetE Θ Tryz.f53.results.toList [] [] (AV.own 3 1 (r.map o3)) E)) [true, false, false] ⟨[(0, (AV.ro 1 (p1.map o3)))], [], [JJ]⟩ := by
  have hm : E.P.follows .mixedOrders = true := by rw [hP]; exact mixed
  have hΘ : TOK E.P Θ := by rw [hP]; exact Θ_ok
  unfold slices_Clone_int_int_j0 at h
  obtain ⟨h1, h2⟩ := nilSE h
  refine go_nil hΘ hm hP hn (p := [true, false, false]) (q := [true, false, true]) (s' := ⟨[(3, (AV.ro 1 (p1.map o3))), (0, (AV.ro 1 (p1.map o3)))], [], [JJ]⟩) (hs := []) (d := 4) (xs := (p1.map o3)) (ps := []) (by kernel_rfl) trivial (fun c hc => ?_)
  cases c
  · have h := h2
    obtain ⟨l2, hl2, h⟩ := bnS h
    have h := Option.some.inj h
    subst h
    exact go_ret hΘ hm hP hn (hs := [⟨1, .new 1001, none⟩, ⟨3, .app 1002 (l2.map o3), none⟩]) (rh := []) (ph := .own) (ps := [([].map o3).take (List.length ([].map o3)) ++ (p1.map o3) = (l2.map o3), (p1.map o3).all (fun r => r.all AV.plain) = true, (List.length (l2.map o3)) * 8 ≤ 140737488355328, (List.length (l2.map o3)) ≤ 140737488355328, treeLL ((l2.map o3).take (List.length (l2.map o3))) = true, (l2.map o3).take (List.length (l2.map o3)) = (l2.map o3), noRoLL (l2.map o3) = true]) (by kernel_rfl) ⟨(appT o3 hl2), (plM p3), (appB o3 hl2 (by decide)), (appC o3 hl2), (treeT t3), takeM, (noRoM n3), trivial⟩
  · have h := h1 (List.map_eq_nil_iff.1 (hc rfl))
    have h := Option.some.inj h
    subst h
    exact go_ret hΘ hm hP hn (hs := []) (rh := []) (ph := .own) (ps := []) (by kernel_rfl) trivial
noncomputable def slices_Clone_int_int (p1 : (List Int)) : Option (List Int) :=
  slices_Clone_int_int_j0 p1
theorem slices_Clone_int_int_m {p1 : (List Int)} {r : (List Int)} (h : slices_Clone_int_int p1 = some r) : Meets Tryz.prog 53 [(AV.ro 1 (p1.map o3))] (AV.own 3 1 (r.map o3)) := by
  refine meets_ofC Θ_ok Tryz.func53 rfl (c := body53) (by kernel_rfl) (Nat.le_of_ble_eq_true rfl) ?_
  intro E hP hn hx
  replace hn : E.n = 8 := hn
  have hm : E.P.follows .mixedOrders = true := by rw [hP]; exact mixed
  have hΘ : TOK E.P Θ := by rw [hP]; exact Θ_ok
  unfold slices_Clone_int_int at h
  show WAt E body53 (FQ (RetE Θ Tryz.f53.results.toList [] [] (AV.own 3 1 (r.map o3)) E)) [] ⟨[(0, (AV.ro 1 (p1.map o3)))], [], [JJ]⟩
  exact go_to hΘ hm hx hP hn (hs := []) (π := []) (ts := [0]) (kp := []) (ps := []) (by kernel_rfl) trivial (slices_Clone_int_int_j0_m hP hn hx p1  _ h)
noncomputable def body25 : Code := match Tryz.f25.body with | some c => c | none => .skip
noncomputable def impl_GoodPct (p1 : GPct) : Option Bool :=
  Option.bind (slices_Clone_int_int p1.Ranks) fun r2 =>
  Option.bind (impl_rising r2) fun r3 =>
  if ((p1.Ranks.length : Int) == 5) = true then
    if ((r3.length : Int) == 5) = true then
      Option.bind (impl_isRising r3 4) fun r6 =>
      if r6 = true then
        if (decide ((p1.Changes.length : Int) ≤ 4)) = true then
          Option.bind (impl_isRising p1.Changes 199) fun r9 =>
          some r9
        else
          some false
      else
        some false
    else
      some false
  else
    some false
theorem impl_GoodPct_m {p1 : GPct} {r : Bool} (h : impl_GoodPct p1 = some r) : Meets Tryz.prog 25 [(AV.agg ((r49 p1)))] (B r) := by
  refine meets_ofC Θ_ok Tryz.func25 rfl (c := body25) (by kernel_rfl) (Nat.le_of_ble_eq_true rfl) ?_
  intro E hP hn hx
  replace hn : E.n = 32 := hn
  have hm : E.P.follows .mixedOrders = true := by rw [hP]; exact mixed
  have hΘ : TOK E.P Θ := by rw [hP]; exact Θ_ok
  unfold impl_GoodPct at h
  show WAt E body25 (FQ (RetE Θ Tryz.f25.results.toList [] [] (B r) E)) [] ⟨[(0, (AV.agg ((r49 p1))))], [], [JJ]⟩
  obtain ⟨r2, hr2, h⟩ := bnS h
  obtain ⟨r3, hr3, h⟩ := bnS h
  rcases itS h with ⟨c4, h⟩ | ⟨c13, h⟩
  · rcases itS h with ⟨c5, h⟩ | ⟨c12, h⟩
    · obtain ⟨r6, hr6, h⟩ := bnS h
      rcases itS h with ⟨c7, h⟩ | ⟨c11, h⟩
      · rcases itS h with ⟨c8, h⟩ | ⟨c10, h⟩
        · obtain ⟨r9, hr9, h⟩ := bnS h
          have h := Option.some.inj h
          subst h
          exact go_ret hΘ hm hP hn (hs := [⟨0, .new 1001, none⟩, ⟨4, .call [] (AV.own 3 1 (r2.map o3)) [1002], none⟩, ⟨5, .callX [1002] [false] [⟨3, 1, (r2.map o3)⟩] [⟨3, 1, (r2.map o3)⟩] [] (AV.own 3 1 (r3.map o3)) [1003] (AV.sl 1003 0 (List.length (r3.map o3))) [(1003, ⟨3, 1, (r3.map o3)⟩)], none⟩, ⟨9, .no, some (I (p1.Ranks.length : Int))⟩, ⟨11, .no, some (B true)⟩, ⟨13, .no, some (I (r3.length : Int))⟩, ⟨16, .no, some (B true)⟩, ⟨18, .callV [(r3.map o3)] (B r6), none⟩, ⟨20, .no, some (B true)⟩, ⟨23, .no, some (I (p1.Changes.length : Int))⟩, ⟨26, .no, some (B true)⟩, ⟨29, .callV [] (B r9), none⟩]) (rh := []) (ph := .raw) (ps := [Meets Tryz.prog 53 [(AV.ro 1 (p1.Ranks.map o3))] (AV.own 3 1 (r2.map o3)), noRo (AV.own 3 1 (r2.map o3)) = true, MeetsR Tryz.prog 52 [⟨3, 1, (r2.map o3)⟩] [(AV.sl 0 0 (List.length (r2.map o3)))] [false] [⟨3, 1, (r2.map o3)⟩] (AV.own 3 1 (r3.map o3)), (some (Root.mk 3 1 (r2.map o3)) = some (Root.mk 3 1 (r2.map o3))) ∧ True, (treeLL (r2.map o3) = true ∧ noRoLL (r2.map o3) = true) ∧ True, ((r2.map o3).length = (r2.map o3).length) ∧ True, (rtf (renA [] (AV.own 3 1 (r3.map o3))) [1003]).1 = (AV.sl 1003 0 (List.length (r3.map o3))), (rtf (renA [] (AV.own 3 1 (r3.map o3))) [1003]).2.1 = [(1003, ⟨3, 1, (r3.map o3)⟩)], AV.lit (.int .i64 (((p1.Ranks.map o3).length : Nat) : Int)) = (I (p1.Ranks.length : Int)), (B ((p1.Ranks.length : Int) == 5)) = (B true), AV.lit (.int .i64 (((List.length (r3.map o3)) : Nat) : Int)) = (I (r3.length : Int)), (B ((r3.length : Int) == 5)) = (B true), Meets Tryz.prog 54 [(AV.ro 1 (r3.map o3)), (I 4)] (B r6), litA (B r6) = true, Frz (((r3.map o3).drop 0).take (List.length (r3.map o3))) (r3.map o3), (B r6) = (B true), AV.lit (.int .i64 (((p1.Changes.map o3).length : Nat) : Int)) = (I (p1.Changes.length : Int)), (B (decide ((p1.Changes.length : Int) ≤ 4))) = (B true), Meets Tryz.prog 54 [(AV.ro 1 (p1.Changes.map o3)), (I 199)] (B r9), litA (B r9) = true, (B r9) = (B r9), litA (B r9) = true]) (by kernel_rfl) ⟨(slices_Clone_int_int_m hr2), (by simp only [noRo, noRoL, noRoM n3, Bool.and_self]), (impl_rising_m hr3), ⟨rfl, trivial⟩, ⟨⟨treeM t3, noRoM n3⟩, trivial⟩, ⟨rfl, trivial⟩, rfl, rfl, (lenM o3), (litB c4), (lenM o3), (litB c5), (impl_isRising_m hr6), rfl, (frzF t3 z3), (litB c7), (lenM o3), (litB c8), (impl_isRising_m hr9), rfl, rfl, rfl, trivial⟩
        · have h := Option.some.inj h
          subst h
          exact go_ret hΘ hm hP hn (hs := [⟨0, .new 1001, none⟩, ⟨4, .call [] (AV.own 3 1 (r2.map o3)) [1002], none⟩, ⟨5, .callX [1002] [false] [⟨3, 1, (r2.map o3)⟩] [⟨3, 1, (r2.map o3)⟩] [] (AV.own 3 1 (r3.map o3)) [1003] (AV.sl 1003 0 (List.length (r3.map o3))) [(1003, ⟨3, 1, (r3.map o3)⟩)], none⟩, ⟨9, .no, some (I (p1.Ranks.length : Int))⟩, ⟨11, .no, some (B true)⟩, ⟨13, .no, some (I (r3.length : Int))⟩, ⟨16, .no, some (B true)⟩, ⟨18, .callV [(r3.map o3)] (B r6), none⟩, ⟨20, .no, some (B true)⟩, ⟨23, .no, some (I (p1.Changes.length : Int))⟩, ⟨26, .no, some (B false)⟩]) (rh := []) (ph := .raw) (ps := [Meets Tryz.prog 53 [(AV.ro 1 (p1.Ranks.map o3))] (AV.own 3 1 (r2.map o3)), noRo (AV.own 3 1 (r2.map o3)) = true, MeetsR Tryz.prog 52 [⟨3, 1, (r2.map o3)⟩] [(AV.sl 0 0 (List.length (r2.map o3)))] [false] [⟨3, 1, (r2.map o3)⟩] (AV.own 3 1 (r3.map o3)), (some (Root.mk 3 1 (r2.map o3)) = some (Root.mk 3 1 (r2.map o3))) ∧ True, (treeLL (r2.map o3) = true ∧ noRoLL (r2.map o3) = true) ∧ True, ((r2.map o3).length = (r2.map o3).length) ∧ True, (rtf (renA [] (AV.own 3 1 (r3.map o3))) [1003]).1 = (AV.sl 1003 0 (List.length (r3.map o3))), (rtf (renA [] (AV.own 3 1 (r3.map o3))) [1003]).2.1 = [(1003, ⟨3, 1, (r3.map o3)⟩)], AV.lit (.int .i64 (((p1.Ranks.map o3).length : Nat) : Int)) = (I (p1.Ranks.length : Int)), (B ((p1.Ranks.length : Int) == 5)) = (B true), AV.lit (.int .i64 (((List.length (r3.map o3)) : Nat) : Int)) = (I (r3.length : Int)), (B ((r3.length : Int) == 5)) = (B true), Meets Tryz.prog 54 [(AV.ro 1 (r3.map o3)), (I 4)] (B r6), litA (B r6) = true, Frz (((r3.map o3).drop 0).take (List.length (r3.map o3))) (r3.map o3), (B r6) = (B true), AV.lit (.int .i64 (((p1.Changes.map o3).length : Nat) : Int)) = (I (p1.Changes.length : Int)), (B (decide ((p1.Changes.length : Int) ≤ 4))) = (B false), (B false) = (B false), litA (B false) = true]) (by kernel_rfl) ⟨(slices_Clone_int_int_m hr2), (by simp only [noRo, noRoL, noRoM n3, Bool.and_self]), (impl_rising_m hr3), ⟨rfl, trivial⟩, ⟨⟨treeM t3, noRoM n3⟩, trivial⟩, ⟨rfl, trivial⟩, rfl, rfl, (lenM o3), (litB c4), (lenM o3), (litB c5), (impl_isRising_m hr6), rfl, (frzF t3 z3), (litB c7), (lenM o3), (litB c10), rfl, rfl, trivial⟩
      · have h := Option.some.inj h
        subst h
        exact go_ret hΘ hm hP hn (hs := [⟨0, .new 1001, none⟩, ⟨4, .call [] (AV.own 3 1 (r2.map o3)) [1002], none⟩, ⟨5, .callX [1002] [false] [⟨3, 1, (r2.map o3)⟩] [⟨3, 1, (r2.map o3)⟩] [] (AV.own 3 1 (r3.map o3)) [1003] (AV.sl 1003 0 (List.length (r3.map o3))) [(1003, ⟨3, 1, (r3.map o3)⟩)], none⟩, ⟨9, .no, some (I (p1.Ranks.length : Int))⟩, ⟨11, .no, some (B true)⟩, ⟨13, .no, some (I (r3.length : Int))⟩, ⟨16, .no, some (B true)⟩, ⟨18, .callV [(r3.map o3)] (B r6), none⟩, ⟨20, .no, some (B false)⟩]) (rh := []) (ph := .raw) (ps := [Meets Tryz.prog 53 [(AV.ro 1 (p1.Ranks.map o3))] (AV.own 3 1 (r2.map o3)), noRo (AV.own 3 1 (r2.map o3)) = true, MeetsR Tryz.prog 52 [⟨3, 1, (r2.map o3)⟩] [(AV.sl 0 0 (List.length (r2.map o3)))] [false] [⟨3, 1, (r2.map o3)⟩] (AV.own 3 1 (r3.map o3)), (some (Root.mk 3 1 (r2.map o3)) = some (Root.mk 3 1 (r2.map o3))) ∧ True, (treeLL (r2.map o3) = true ∧ noRoLL (r2.map o3) = true) ∧ True, ((r2.map o3).length = (r2.map o3).length) ∧ True, (rtf (renA [] (AV.own 3 1 (r3.map o3))) [1003]).1 = (AV.sl 1003 0 (List.length (r3.map o3))), (rtf (renA [] (AV.own 3 1 (r3.map o3))) [1003]).2.1 = [(1003, ⟨3, 1, (r3.map o3)⟩)], AV.lit (.int .i64 (((p1.Ranks.map o3).length : Nat) : Int)) = (I (p1.Ranks.length : Int)), (B ((p1.Ranks.length : Int) == 5)) = (B true), AV.lit (.int .i64 (((List.length (r3.map o3)) : Nat) : Int)) = (I (r3.length : Int)), (B ((r3.length : Int) == 5)) = (B true), Meets Tryz.prog 54 [(AV.ro 1 (r3.map o3)), (I 4)] (B r6), litA (B r6) = true, Frz (((r3.map o3).drop 0).take (List.length (r3.map o3))) (r3.map o3), (B r6) = (B false), (B false) = (B false), litA (B false) = true]) (by kernel_rfl) ⟨(slices_Clone_int_int_m hr2), (by simp only [noRo, noRoL, noRoM n3, Bool.and_self]), (impl_rising_m hr3), ⟨rfl, trivial⟩, ⟨⟨treeM t3, noRoM n3⟩, trivial⟩, ⟨rfl, trivial⟩, rfl, rfl, (lenM o3), (litB c4), (lenM o3), (litB c5), (impl_isRising_m hr6), rfl, (frzF t3 z3), (litB c11), rfl, rfl, trivial⟩
    · have h := Option.some.inj h
      subst h
      exact go_ret hΘ hm hP hn (hs := [⟨0, .new 1001, none⟩, ⟨4, .call [] (AV.own 3 1 (r2.map o3)) [1002], none⟩, ⟨5, .callX [1002] [false] [⟨3, 1, (r2.map o3)⟩] [⟨3, 1, (r2.map o3)⟩] [] (AV.own 3 1 (r3.map o3)) [1003] (AV.sl 1003 0 (List.length (r3.map o3))) [(1003, ⟨3, 1, (r3.map o3)⟩)], none⟩, ⟨9, .no, some (I (p1.Ranks.length : Int))⟩, ⟨11, .no, some (B true)⟩, ⟨13, .no, some (I (r3.length : Int))⟩, ⟨16, .no, some (B false)⟩]) (rh := []) (ph := .raw) (ps := [Meets Tryz.prog 53 [(AV.ro 1 (p1.Ranks.map o3))] (AV.own 3 1 (r2.map o3)), noRo (AV.own 3 1 (r2.map o3)) = true, MeetsR Tryz.prog 52 [⟨3, 1, (r2.map o3)⟩] [(AV.sl 0 0 (List.length (r2.map o3)))] [false] [⟨3, 1, (r2.map o3)⟩] (AV.own 3 1 (r3.map o3)), (some (Root.mk 3 1 (r2.map o3)) = some (Root.mk 3 1 (r2.map o3))) ∧ True, (treeLL (r2.map o3) = true ∧ noRoLL (r2.map o3) = true) ∧ True, ((r2.map o3).length = (r2.map o3).length) ∧ True, (rtf (renA [] (AV.own 3 1 (r3.map o3))) [1003]).1 = (AV.sl 1003 0 (List.length (r3.map o3))), (rtf (renA [] (AV.own 3 1 (r3.map o3))) [1003]).2.1 = [(1003, ⟨3, 1, (r3.map o3)⟩)], AV.lit (.int .i64 (((p1.Ranks.map o3).length : Nat) : Int)) = (I (p1.Ranks.length : Int)), (B ((p1.Ranks.length : Int) == 5)) = (B true), AV.lit (.int .i64 (((List.length (r3.map o3)) : Nat) : Int)) = (I (r3.length : Int)), (B ((r3.length : Int) == 5)) = (B false), (B false) = (B false), litA (B false) = true]) (by kernel_rfl) ⟨(slices_Clone_int_int_m hr2), (by simp only [noRo, noRoL, noRoM n3, Bool.and_self]), (impl_rising_m hr3), ⟨rfl, trivial⟩, ⟨⟨treeM t3, noRoM n3⟩, trivial⟩, ⟨rfl, trivial⟩, rfl, rfl, (lenM o3), (litB c4), (lenM o3), (litB c12), rfl, rfl, trivial⟩
  · have h := Option.some.inj h
    subst h
    exact go_ret hΘ hm hP hn (hs := [⟨0, .new 1001, none⟩, ⟨4, .call [] (AV.own 3 1 (r2.map o3)) [1002], none⟩, ⟨5, .callX [1002] [false] [⟨3, 1, (r2.map o3)⟩] [⟨3, 1, (r2.map o3)⟩] [] (AV.own 3 1 (r3.map o3)) [1003] (AV.sl 1003 0 (List.length (r3.map o3))) [(1003, ⟨3, 1, (r3.map o3)⟩)], none⟩, ⟨9, .no, some (I (p1.Ranks.length : Int))⟩, ⟨11, .no, some (B false)⟩]) (rh := []) (ph := .raw) (ps := [Meets Tryz.prog 53 [(AV.ro 1 (p1.Ranks.map o3))] (AV.own 3 1 (r2.map o3)), noRo (AV.own 3 1 (r2.map o3)) = true, MeetsR Tryz.prog 52 [⟨3, 1, (r2.map o3)⟩] [(AV.sl 0 0 (List.length (r2.map o3)))] [false] [⟨3, 1, (r2.map o3)⟩] (AV.own 3 1 (r3.map o3)), (some (Root.mk 3 1 (r2.map o3)) = some (Root.mk 3 1 (r2.map o3))) ∧ True, (treeLL (r2.map o3) = true ∧ noRoLL (r2.map o3) = true) ∧ True, ((r2.map o3).length = (r2.map o3).length) ∧ True, (rtf (renA [] (AV.own 3 1 (r3.map o3))) [1003]).1 = (AV.sl 1003 0 (List.length (r3.map o3))), (rtf (renA [] (AV.own 3 1 (r3.map o3))) [1003]).2.1 = [(1003, ⟨3, 1, (r3.map o3)⟩)], AV.lit (.int .i64 (((p1.Ranks.map o3).length : Nat) : Int)) = (I (p1.Ranks.length : Int)), (B ((p1.Ranks.length : Int) == 5)) = (B false), (B false) = (B false), litA (B false) = true]) (by kernel_rfl) ⟨(slices_Clone_int_int_m hr2), (by simp only [noRo, noRoL, noRoM n3, Bool.and_self]), (impl_rising_m hr3), ⟨rfl, trivial⟩, ⟨⟨treeM t3, noRoM n3⟩, trivial⟩, ⟨rfl, trivial⟩, rfl, rfl, (lenM o3), (litB c13), rfl, rfl, trivial⟩
noncomputable def body24 : Code := match Tryz.f24.body with | some c => c | none => .skip
noncomputable def impl_GoodHunt_1 (p1 : GPct) : Option Bool :=
  Option.bind (impl_GoodPct p1) fun r2 =>
  some (!r2)
theorem impl_GoodHunt_1_m {p1 : GPct} {r : Bool} (h : impl_GoodHunt_1 p1 = some r) : Meets Tryz.prog 24 [(AV.agg ((r49 p1)))] (B r) := by
  refine meets_ofC Θ_ok Tryz.func24 rfl (c := body24) (by kernel_rfl) (Nat.le_of_ble_eq_true rfl) ?_
  intro E hP hn hx
  replace hn : E.n = 6 := hn
  have hm : E.P.follows .mixedOrders = true := by rw [hP]; exact mixed
  have hΘ : TOK E.P Θ := by rw [hP]; exact Θ_ok
  unfold impl_GoodHunt_1 at h
  show WAt E body24 (FQ (RetE Θ Tryz.f24.results.toList [] [] (B r) E)) [] ⟨[(0, (AV.agg ((r49 p1))))], [], [JJ]⟩
  obtain ⟨r2, hr2, h⟩ := bnS h
  have h := Option.some.inj h
  subst h
  exact go_ret hΘ hm hP hn (hs := [⟨0, .new 1001, none⟩, ⟨3, .callV [[]] (B r2), none⟩]) (rh := []) (ph := .raw) (ps := [Meets Tryz.prog 25 [(AV.agg ((r49 p1)))] (B r2), litA (B r2) = true, (B (!r2)) = (B (!r2)), litA (B (!r2)) = true]) (by kernel_rfl) ⟨(impl_GoodPct_m hr2), rfl, rfl, rfl, trivial⟩
noncomputable def body51 : Code := match Tryz.f51.body with | some c => c | none => .skip
noncomputable def slices_IndexFunc_Pct_Pct__impl_GoodHunt_1_l0  (p1 : (List GPct)) : Nat → Int → Option Int
  | 0, _ => none
  | n + 1, v2 =>
  if (decide (v2 < (p1.length : Int))) = true then
    Option.bind (rd p1 v2) fun x4 =>
    Option.bind (impl_GoodHunt_1 x4) fun r5 =>
    if r5 = true then
      some v2
    else
      slices_IndexFunc_Pct_Pct__impl_GoodHunt_1_l0 p1 n (w64 (v2 + 1))
  else
    some (-1)
theorem slices_IndexFunc_Pct_Pct__impl_GoodHunt_1_l0_m {E : Env} (hP : E.P = Tryz.prog) (hn : E.n = 19) (hx : ∀ p, p ∈ E.fx → p.1 ∈ ([] : List Nat)) (p1 : (List GPct))  : ∀ (n : Nat) (v2 : Int) (r : Int), slices_IndexFunc_Pct_Pct__impl_GoodHunt_1_l0 p1 n v2 = some r → WAt E body51 (FQ (RetE Θ Tryz.f51.results.toList [] [] (I r) E)) [true, false, true, false] ⟨[(0, (AV.ro 2 (p1.map r49))), (1, (AV.fn 24 [])), (7, (I (p1.length : Int))), (8, (I v2))], [], [JJ]⟩ := by
  have hm : E.P.follows .mixedOrders = true := by rw [hP]; exact mixed
  have hΘ : TOK E.P Θ := by rw [hP]; exact Θ_ok
  intro n
  induction n with
  | zero => intro v2 r h; simp only [slices_IndexFunc_Pct_Pct__impl_GoodHunt_1_l0] at h; cases h
  | succ n ih =>
    intro v2 r h
    simp only [slices_IndexFunc_Pct_Pct__impl_GoodHunt_1_l0] at h
    rcases itS h with ⟨c3, h⟩ | ⟨c8, h⟩
    · obtain ⟨x4, hx4, h⟩ := bnS h
      obtain ⟨r5, hr5, h⟩ := bnS h
      rcases itS h with ⟨c6, h⟩ | ⟨c7, h⟩
      · have h := Option.some.inj h
        subst h
        exact go_ret hΘ hm hP hn (hs := [⟨1, .br true, none⟩, ⟨7, .row (r49 x4), none⟩, ⟨9, .callV [[]] (B r5), none⟩, ⟨10, .br true, none⟩]) (rh := []) (ph := .raw) (ps := [(decide (v2 < (p1.length : Int))) = true, (0 : Int) ≤ v2, (p1.map r49)[(Int.toNat v2)]? = some (r49 x4), Meets Tryz.prog 24 [(AV.agg ((r49 x4)))] (B r5), litA (B r5) = true, r5 = true, (I v2) = (I v2), litA (I v2) = true]) (by kernel_rfl) ⟨c3, (rd0 hx4), (rdM r49 hx4), (impl_GoodHunt_1_m hr5), rfl, c6, rfl, rfl, trivial⟩
      · exact go_to hΘ hm hx hP hn (hs := [⟨1, .br true, none⟩, ⟨7, .row (r49 x4), none⟩, ⟨9, .callV [[]] (B r5), none⟩, ⟨10, .br false, none⟩]) (π := []) (ts := [0, 1, 7, 8]) (kp := []) (ps := [(decide (v2 < (p1.length : Int))) = true, (0 : Int) ≤ v2, (p1.map r49)[(Int.toNat v2)]? = some (r49 x4), Meets Tryz.prog 24 [(AV.agg ((r49 x4)))] (B r5), litA (B r5) = true, r5 = false]) (by kernel_rfl) ⟨c3, (rd0 hx4), (rdM r49 hx4), (impl_GoodHunt_1_m hr5), rfl, c7, trivial⟩ (ih (w64 (v2 + 1)) _ h)
    · have h := Option.some.inj h
      subst h
      exact go_ret hΘ hm hP hn (hs := [⟨1, .br false, none⟩]) (rh := []) (ph := .raw) (ps := [(decide (v2 < (p1.length : Int))) = false, (I (-1)) = (I (-1)), litA (I (-1)) = true]) (by kernel_rfl) ⟨c8, rfl, rfl, trivial⟩
noncomputable def slices_IndexFunc_Pct_Pct__impl_GoodHunt_1 (p1 : (List GPct)) : Option Int :=
  slices_IndexFunc_Pct_Pct__impl_GoodHunt_1_l0 p1 FU 0
theorem slices_IndexFunc_Pct_Pct__impl_GoodHunt_1_m {p1 : (List GPct)} {r : Int} (h : slices_IndexFunc_Pct_Pct__impl_GoodHunt_1 p1 = some r) : Meets Tryz.prog 51 [(AV.ro 2 (p1.map r49)), (AV.fn 24 [])] (I r) := by
  refine meets_ofC Θ_ok Tryz.func51 rfl (c := body51) (by kernel_rfl) (Nat.le_of_ble_eq_true rfl) ?_
  intro E hP hn hx
  replace hn : E.n = 19 := hn
  have hm : E.P.follows .mixedOrders = true := by rw [hP]; exact mixed
  have hΘ : TOK E.P Θ := by rw [hP]; exact Θ_ok
  unfold slices_IndexFunc_Pct_Pct__impl_GoodHunt_1 at h
  show WAt E body51 (FQ (RetE Θ Tryz.f51.results.toList [] [] (I r) E)) [] ⟨[(0, (AV.ro 2 (p1.map r49))), (1, (AV.fn 24 []))], [], [JJ]⟩
  exact go_to hΘ hm hx hP hn (hs := [⟨2, .no, some (I (p1.length : Int))⟩]) (π := []) (ts := [0, 1, 7, 8]) (kp := []) (ps := [AV.lit (.int .i64 (((p1.map r49).length : Nat) : Int)) = (I (p1.length : Int))]) (by kernel_rfl) ⟨(lenM r49), trivial⟩ (slices_IndexFunc_Pct_Pct__impl_GoodHunt_1_l0_m hP hn hx p1 FU 0 _ h)
noncomputable def body23 : Code := match Tryz.f23.body with | some c => c | none => .skip
noncomputable def slices_ContainsFunc_Pct_Pct__impl_GoodHunt_1 (p1 : (List GPct)) : Option Bool :=
  Option.bind (slices_IndexFunc_Pct_Pct__impl_GoodHunt_1 p1) fun r2 =>
  some (decide (r2 ≥ 0))
theorem slices_ContainsFunc_Pct_Pct__impl_GoodHunt_1_m {p1 : (List GPct)} {r : Bool} (h : slices_ContainsFunc_Pct_Pct__impl_GoodHunt_1 p1 = some r) : Meets Tryz.prog 23 [(AV.ro 2 (p1.map r49)), (AV.fn 24 [])] (B r) := by
  refine meets_ofC Θ_ok Tryz.func23 rfl (c := body23) (by kernel_rfl) (Nat.le_of_ble_eq_true rfl) ?_
  intro E hP hn hx
  replace hn : E.n = 9 := hn
  have hm : E.P.follows .mixedOrders = true := by rw [hP]; exact mixed
  have hΘ : TOK E.P Θ := by rw [hP]; exact Θ_ok
  unfold slices_ContainsFunc_Pct_Pct__impl_GoodHunt_1 at h
  show WAt E body23 (FQ (RetE Θ Tryz.f23.results.toList [] [] (B r) E)) [] ⟨[(0, (AV.ro 2 (p1.map r49))), (1, (AV.fn 24 []))], [], [JJ]⟩
  obtain ⟨r2, hr2, h⟩ := bnS h
  have h := Option.some.inj h
  subst h
  exact go_ret hΘ hm hP hn (hs := [⟨3, .callV [] (I r2), none⟩]) (rh := []) (ph := .raw) (ps := [Meets Tryz.prog 51 [(AV.ro 2 (p1.map r49)), (AV.fn 24 [])] (I r2), litA (I r2) = true, (B (decide (r2 ≥ 0))) = (B (decide (r2 ≥ 0))), litA (B (decide (r2 ≥ 0))) = true]) (by kernel_rfl) ⟨(slices_IndexFunc_Pct_Pct__impl_GoodHunt_1_m hr2), rfl, rfl, rfl, trivial⟩
noncomputable def body7 : Code := match Tryz.f7.body with | some c => c | none => .skip
noncomputable def impl_GoodHunt_l0  (p1 : GHunt) : Nat → GHunt → Int → Option Bool
  | 0, _, _ => none
  | n + 1, a16, v17 =>
  if (decide (v17 < (p1.Finds.length : Int))) = true then
    Option.bind (rd p1.Finds v17) fun x19 =>
    Option.bind (slc a16.Finds 0 v17) fun l20 =>
    Option.bind (impl_hasSign l20 x19.Sign) fun r21 =>
    if r21 = true then
      some false
    else
      Option.bind (impl_arePicks x19.Picks 200) fun r30 =>
      if (!r30) = true then
        some false
      else
        impl_GoodHunt_l0 p1 n a16 (w64 (v17 + 1))
  else
    some true
theorem impl_GoodHunt_l0_m {E : Env} (hP : E.P = Tryz.prog) (hn : E.n = 54) (hx : ∀ p, p ∈ E.fx → p.1 ∈ ([] : List Nat)) (p1 : GHunt)  : ∀ (n : Nat) (a16 : GHunt) (v17 : Int) (r : Bool), impl_GoodHunt_l0 p1 n a16 v17 = some r → WAt E body7 (FQ (RetE Θ Tryz.f7.results.toList [] [] (B r) E)) [true, true, false, true, false] ⟨[(1, (AV.ptr 1 0 0)), (33, (AV.ro 2 (p1.Finds.map r61))), (34, (I (p1.Finds.length : Int))), (35, (I v17))], [(1, some ⟨39, 8, [((r39 a16))]⟩)], [1, JJ]⟩ := by
  have hm : E.P.follows .mixedOrders = true := by rw [hP]; exact mixed
  have hΘ : TOK E.P Θ := by rw [hP]; exact Θ_ok
  intro n
  induction n with
  | zero => intro a16 v17 r h; simp only [impl_GoodHunt_l0] at h; cases h
  | succ n ih =>
    intro a16 v17 r h
    simp only [impl_GoodHunt_l0] at h
    rcases itS h with ⟨c18, h⟩ | ⟨c33, h⟩
    · obtain ⟨x19, hx19, h⟩ := bnS h
      obtain ⟨l20, hl20, h⟩ := bnS h
      obtain ⟨r21, hr21, h⟩ := bnS h
      rcases itS h with ⟨c22, h⟩ | ⟨c23, h⟩
      · have h := Option.some.inj h
        subst h
        exact go_ret hΘ hm hP hn (hs := [⟨1, .br true, none⟩, ⟨3, .row (r61 x19), none⟩, ⟨5, .new 1001, none⟩, ⟨11, .no, some (AV.ro 2 (l20.map r61))⟩, ⟨14, .callV [] (B r21), none⟩, ⟨15, .no, some (B true)⟩]) (rh := []) (ph := .raw) (ps := [(decide (v17 < (p1.Finds.length : Int))) = true, (0 : Int) ≤ v17, (p1.Finds.map r61)[(Int.toNat v17)]? = some (r61 x19), AV.ro 2 (((a16.Finds.map r61).drop (Int.toNat 0)).take (subO (Int.toNat v17) (Int.toNat 0))) = (AV.ro 2 (l20.map r61)), (0 : Int) ≤ 0, 0 ≤ v17, v17 ≤ (((a16.Finds.map r61).length : Nat) : Int), Meets Tryz.prog 28 [(AV.ro 2 (l20.map r61)), (SK x19.Sign)] (B r21), litA (B r21) = true, (B r21) = (B true), (B false) = (B false), litA (B false) = true]) (by kernel_rfl) ⟨c18, (rd0 hx19), (rdM r61 hx19), (slM 2 r61 hl20), (sl0 hl20), (sl1 hl20), (sl2 r61 hl20), (impl_hasSign_m hr21), rfl, (litB c22), rfl, rfl, trivial⟩
      · obtain ⟨r30, hr30, h⟩ := bnS h
        rcases itS h with ⟨c31, h⟩ | ⟨c32, h⟩
        · have h := Option.some.inj h
          subst h
          exact go_ret hΘ hm hP hn (hs := [⟨1, .br true, none⟩, ⟨3, .row (r61 x19), none⟩, ⟨5, .new 1001, none⟩, ⟨11, .no, some (AV.ro 2 (l20.map r61))⟩, ⟨14, .callV [] (B r21), none⟩, ⟨15, .no, some (B false)⟩, ⟨18, .callV [] (B r30), none⟩, ⟨21, .br true, none⟩]) (rh := []) (ph := .raw) (ps := [(decide (v17 < (p1.Finds.length : Int))) = true, (0 : Int) ≤ v17, (p1.Finds.map r61)[(Int.toNat v17)]? = some (r61 x19), AV.ro 2 (((a16.Finds.map r61).drop (Int.toNat 0)).take (subO (Int.toNat v17) (Int.toNat 0))) = (AV.ro 2 (l20.map r61)), (0 : Int) ≤ 0, 0 ≤ v17, v17 ≤ (((a16.Finds.map r61).length : Nat) : Int), Meets Tryz.prog 28 [(AV.ro 2 (l20.map r61)), (SK x19.Sign)] (B r21), litA (B r21) = true, (B r21) = (B false), Meets Tryz.prog 29 [(AV.ro 1 (x19.Picks.map o3)), (I 200)] (B r30), litA (B r30) = true, (!r30) = true, (B false) = (B false), litA (B false) = true]) (by kernel_rfl) ⟨c18, (rd0 hx19), (rdM r61 hx19), (slM 2 r61 hl20), (sl0 hl20), (sl1 hl20), (sl2 r61 hl20), (impl_hasSign_m hr21), rfl, (litB c23), (impl_arePicks_m hr30), rfl, c31, rfl, rfl, trivial⟩
        · exact go_to hΘ hm hx hP hn (hs := [⟨1, .br true, none⟩, ⟨3, .row (r61 x19), none⟩, ⟨5, .new 1001, none⟩, ⟨11, .no, some (AV.ro 2 (l20.map r61))⟩, ⟨14, .callV [] (B r21), none⟩, ⟨15, .no, some (B false)⟩, ⟨18, .callV [] (B r30), none⟩, ⟨21, .br false, none⟩]) (π := [(1, 1)]) (ts := [1, 33, 34, 35]) (kp := []) (ps := [(decide (v17 < (p1.Finds.length : Int))) = true, (0 : Int) ≤ v17, (p1.Finds.map r61)[(Int.toNat v17)]? = some (r61 x19), AV.ro 2 (((a16.Finds.map r61).drop (Int.toNat 0)).take (subO (Int.toNat v17) (Int.toNat 0))) = (AV.ro 2 (l20.map r61)), (0 : Int) ≤ 0, 0 ≤ v17, v17 ≤ (((a16.Finds.map r61).length : Nat) : Int), Meets Tryz.prog 28 [(AV.ro 2 (l20.map r61)), (SK x19.Sign)] (B r21), litA (B r21) = true, (B r21) = (B false), Meets Tryz.prog 29 [(AV.ro 1 (x19.Picks.map o3)), (I 200)] (B r30), litA (B r30) = true, (!r30) = false, RenOK [(1, 1)] [((r39 a16))]]) (by kernel_rfl) ⟨c18, (rd0 hx19), (rdM r61 hx19), (slM 2 r61 hl20), (sl0 hl20), (sl1 hl20), (sl2 r61 hl20), (impl_hasSign_m hr21), rfl, (litB c23), (impl_arePicks_m hr30), rfl, c32, (rok (treeB t39 a16)), trivial⟩ (ih a16 (w64 (v17 + 1)) _ h)
    · have h := Option.some.inj h
      subst h
      exact go_ret hΘ hm hP hn (hs := [⟨1, .br false, none⟩]) (rh := []) (ph := .raw) (ps := [(decide (v17 < (p1.Finds.length : Int))) = false, (B true) = (B true), litA (B true) = true]) (by kernel_rfl) ⟨c33, rfl, rfl, trivial⟩
noncomputable def impl_GoodHunt (p1 : GHunt) : Option Bool :=
  Option.bind (impl_GoodProg p1.Prog) fun r2 =>
  if (!r2) = true then
    some false
  else
    if (decide ((p1.Kept.length : Int) > 30)) = true then
      some false
    else
      Option.bind (slices_ContainsFunc_Pct_Pct__impl_GoodHunt_1 p1.Kept) fun r7 =>
      if r7 = true then
        some false
      else
        Option.bind (impl_areRising p1.Covered) fun r10 =>
        if (!r10) = true then
          some false
        else
          Option.bind (impl_in p1.Tried 0 60) fun r13 =>
          if (!r13) = true then
            some false
          else
            impl_GoodHunt_l0 p1 FU p1 0
theorem impl_GoodHunt_m {p1 : GHunt} {r : Bool} (h : impl_GoodHunt p1 = some r) : Meets Tryz.prog 7 [(AV.agg ((r39 p1)))] (B r) := by
  refine meets_ofC Θ_ok Tryz.func7 rfl (c := body7) (by kernel_rfl) (Nat.le_of_ble_eq_true rfl) ?_
  intro E hP hn hx
  replace hn : E.n = 54 := hn
  have hm : E.P.follows .mixedOrders = true := by rw [hP]; exact mixed
  have hΘ : TOK E.P Θ := by rw [hP]; exact Θ_ok
  unfold impl_GoodHunt at h
  show WAt E body7 (FQ (RetE Θ Tryz.f7.results.toList [] [] (B r) E)) [] ⟨[(0, (AV.agg ((r39 p1))))], [], [JJ]⟩
  obtain ⟨r2, hr2, h⟩ := bnS h
  rcases itS h with ⟨c3, h⟩ | ⟨c4, h⟩
  · have h := Option.some.inj h
    subst h
    exact go_ret hΘ hm hP hn (hs := [⟨0, .new 1001, none⟩, ⟨4, .callV [[]] (B r2), none⟩, ⟨6, .no, some (B true)⟩]) (rh := []) (ph := .raw) (ps := [Meets Tryz.prog 22 [(AV.agg ((r34 p1.Prog)))] (B r2), litA (B r2) = true, (B (!r2)) = (B true), (B false) = (B false), litA (B false) = true]) (by kernel_rfl) ⟨(impl_GoodProg_m hr2), rfl, (litB c3), rfl, rfl, trivial⟩
  · rcases itS h with ⟨c5, h⟩ | ⟨c6, h⟩
    · have h := Option.some.inj h
      subst h
      exact go_ret hΘ hm hP hn (hs := [⟨0, .new 1001, none⟩, ⟨4, .callV [[]] (B r2), none⟩, ⟨6, .no, some (B false)⟩, ⟨9, .no, some (I (p1.Kept.length : Int))⟩, ⟨12, .no, some (B true)⟩]) (rh := []) (ph := .raw) (ps := [Meets Tryz.prog 22 [(AV.agg ((r34 p1.Prog)))] (B r2), litA (B r2) = true, (B (!r2)) = (B false), AV.lit (.int .i64 (((p1.Kept.map r49).length : Nat) : Int)) = (I (p1.Kept.length : Int)), (B (decide ((p1.Kept.length : Int) > 30))) = (B true), (B false) = (B false), litA (B false) = true]) (by kernel_rfl) ⟨(impl_GoodProg_m hr2), rfl, (litB c4), (lenM r49), (litB c5), rfl, rfl, trivial⟩
    · obtain ⟨r7, hr7, h⟩ := bnS h
      rcases itS h with ⟨c8, h⟩ | ⟨c9, h⟩
      · have h := Option.some.inj h
        subst h
        exact go_ret hΘ hm hP hn (hs := [⟨0, .new 1001, none⟩, ⟨4, .callV [[]] (B r2), none⟩, ⟨6, .no, some (B false)⟩, ⟨9, .no, some (I (p1.Kept.length : Int))⟩, ⟨12, .no, some (B false)⟩, ⟨15, .callV [] (B r7), none⟩, ⟨17, .no, some (B true)⟩]) (rh := []) (ph := .raw) (ps := [Meets Tryz.prog 22 [(AV.agg ((r34 p1.Prog)))] (B r2), litA (B r2) = true, (B (!r2)) = (B false), AV.lit (.int .i64 (((p1.Kept.map r49).length : Nat) : Int)) = (I (p1.Kept.length : Int)), (B (decide ((p1.Kept.length : Int) > 30))) = (B false), Meets Tryz.prog 23 [(AV.ro 2 (p1.Kept.map r49)), (AV.fn 24 [])] (B r7), litA (B r7) = true, (B r7) = (B true), (B false) = (B false), litA (B false) = true]) (by kernel_rfl) ⟨(impl_GoodProg_m hr2), rfl, (litB c4), (lenM r49), (litB c6), (slices_ContainsFunc_Pct_Pct__impl_GoodHunt_1_m hr7), rfl, (litB c8), rfl, rfl, trivial⟩
      · obtain ⟨r10, hr10, h⟩ := bnS h
        rcases itS h with ⟨c11, h⟩ | ⟨c12, h⟩
        · have h := Option.some.inj h
          subst h
          exact go_ret hΘ hm hP hn (hs := [⟨0, .new 1001, none⟩, ⟨4, .callV [[]] (B r2), none⟩, ⟨6, .no, some (B false)⟩, ⟨9, .no, some (I (p1.Kept.length : Int))⟩, ⟨12, .no, some (B false)⟩, ⟨15, .callV [] (B r7), none⟩, ⟨17, .no, some (B false)⟩, ⟨20, .callV [] (B r10), none⟩, ⟨23, .no, some (B true)⟩]) (rh := []) (ph := .raw) (ps := [Meets Tryz.prog 22 [(AV.agg ((r34 p1.Prog)))] (B r2), litA (B r2) = true, (B (!r2)) = (B false), AV.lit (.int .i64 (((p1.Kept.map r49).length : Nat) : Int)) = (I (p1.Kept.length : Int)), (B (decide ((p1.Kept.length : Int) > 30))) = (B false), Meets Tryz.prog 23 [(AV.ro 2 (p1.Kept.map r49)), (AV.fn 24 [])] (B r7), litA (B r7) = true, (B r7) = (B false), Meets Tryz.prog 26 [(AV.ro 3 (p1.Covered.map o80))] (B r10), litA (B r10) = true, (B (!r10)) = (B true), (B false) = (B false), litA (B false) = true]) (by kernel_rfl) ⟨(impl_GoodProg_m hr2), rfl, (litB c4), (lenM r49), (litB c6), (slices_ContainsFunc_Pct_Pct__impl_GoodHunt_1_m hr7), rfl, (litB c9), (impl_areRising_m hr10), rfl, (litB c11), rfl, rfl, trivial⟩
        · obtain ⟨r13, hr13, h⟩ := bnS h
          rcases itS h with ⟨c14, h⟩ | ⟨c15, h⟩
          · have h := Option.some.inj h
            subst h
            exact go_ret hΘ hm hP hn (hs := [⟨0, .new 1001, none⟩, ⟨4, .callV [[]] (B r2), none⟩, ⟨6, .no, some (B false)⟩, ⟨9, .no, some (I (p1.Kept.length : Int))⟩, ⟨12, .no, some (B false)⟩, ⟨15, .callV [] (B r7), none⟩, ⟨17, .no, some (B false)⟩, ⟨20, .callV [] (B r10), none⟩, ⟨23, .no, some (B false)⟩, ⟨26, .callV [] (B r13), none⟩, ⟨29, .br true, none⟩]) (rh := []) (ph := .raw) (ps := [Meets Tryz.prog 22 [(AV.agg ((r34 p1.Prog)))] (B r2), litA (B r2) = true, (B (!r2)) = (B false), AV.lit (.int .i64 (((p1.Kept.map r49).length : Nat) : Int)) = (I (p1.Kept.length : Int)), (B (decide ((p1.Kept.length : Int) > 30))) = (B false), Meets Tryz.prog 23 [(AV.ro 2 (p1.Kept.map r49)), (AV.fn 24 [])] (B r7), litA (B r7) = true, (B r7) = (B false), Meets Tryz.prog 26 [(AV.ro 3 (p1.Covered.map o80))] (B r10), litA (B r10) = true, (B (!r10)) = (B false), Meets Tryz.prog 27 [(I p1.Tried), (I 0), (I 60)] (B r13), litA (B r13) = true, (!r13) = true, (B false) = (B false), litA (B false) = true]) (by kernel_rfl) ⟨(impl_GoodProg_m hr2), rfl, (litB c4), (lenM r49), (litB c6), (slices_ContainsFunc_Pct_Pct__impl_GoodHunt_1_m hr7), rfl, (litB c9), (impl_areRising_m hr10), rfl, (litB c12), (impl_in_m hr13), rfl, c14, rfl, rfl, trivial⟩
          · exact go_to hΘ hm hx hP hn (hs := [⟨0, .new 1001, none⟩, ⟨4, .callV [[]] (B r2), none⟩, ⟨6, .no, some (B false)⟩, ⟨9, .no, some (I (p1.Kept.length : Int))⟩, ⟨12, .no, some (B false)⟩, ⟨15, .callV [] (B r7), none⟩, ⟨17, .no, some (B false)⟩, ⟨20, .callV [] (B r10), none⟩, ⟨23, .no, some (B false)⟩, ⟨26, .callV [] (B r13), none⟩, ⟨29, .br false, none⟩, ⟨32, .no, some (I (p1.Finds.length : Int))⟩]) (π := [(1001, 1)]) (ts := [1, 33, 34, 35]) (kp := []) (ps := [Meets Tryz.prog 22 [(AV.agg ((r34 p1.Prog)))] (B r2), litA (B r2) = true, (B (!r2)) = (B false), AV.lit (.int .i64 (((p1.Kept.map r49).length : Nat) : Int)) = (I (p1.Kept.length : Int)), (B (decide ((p1.Kept.length : Int) > 30))) = (B false), Meets Tryz.prog 23 [(AV.ro 2 (p1.Kept.map r49)), (AV.fn 24 [])] (B r7), litA (B r7) = true, (B r7) = (B false), Meets Tryz.prog 26 [(AV.ro 3 (p1.Covered.map o80))] (B r10), litA (B r10) = true, (B (!r10)) = (B false), Meets Tryz.prog 27 [(I p1.Tried), (I 0), (I 60)] (B r13), litA (B r13) = true, (!r13) = false, AV.lit (.int .i64 (((p1.Finds.map r61).length : Nat) : Int)) = (I (p1.Finds.length : Int)), RenOK [(1001, 1)] [((r39 p1))]]) (by kernel_rfl) ⟨(impl_GoodProg_m hr2), rfl, (litB c4), (lenM r49), (litB c6), (slices_ContainsFunc_Pct_Pct__impl_GoodHunt_1_m hr7), rfl, (litB c9), (impl_areRising_m hr10), rfl, (litB c12), (impl_in_m hr13), rfl, c15, (lenM r61), (rok (treeB t39 p1)), trivial⟩ (impl_GoodHunt_l0_m hP hn hx p1 FU p1 0 _ h)
noncomputable def body79 : Code := match Tryz.f79.body with | some c => c | none => .skip
noncomputable def laws_eqIntS_l0  (p1 : (List Int)) (p2 : (List Int)) : Nat → Int → Option Bool
  | 0, _ => none
  | n + 1, v5 =>
  if (decide (v5 < (p1.length : Int))) = true then
    Option.bind (rd p1 v5) fun x7 =>
    Option.bind (rd p2 v5) fun x8 =>
    if (x7 != x8) = true then
      some false
    else
      laws_eqIntS_l0 p1 p2 n (w64 (v5 + 1))
  else
    some true
theorem laws_eqIntS_l0_m {E : Env} (hP : E.P = Tryz.prog) (hn : E.n = 26) (hx : ∀ p, p ∈ E.fx → p.1 ∈ ([] : List Nat)) (p1 : (List Int)) (p2 : (List Int))  : ∀ (n : Nat) (v5 : Int) (r : Bool), laws_eqIntS_l0 p1 p2 n v5 = some r → WAt E body79 (FQ (RetE Θ Tryz.f79.results.toList [] [] (B r) E)) [true, true, false, true, false] ⟨[(0, (AV.ro 1 (p1.map o3))), (1, (AV.ro 1 (p2.map o3))), (5, (I v5))], [], [JJ]⟩ := by
  have hm : E.P.follows .mixedOrders = true := by rw [hP]; exact mixed
  have hΘ : TOK E.P Θ := by rw [hP]; exact Θ_ok
  intro n
  induction n with
  | zero => intro v5 r h; simp only [laws_eqIntS_l0] at h; cases h
  | succ n ih =>
    intro v5 r h
    simp only [laws_eqIntS_l0] at h
    rcases itS h with ⟨c6, h⟩ | ⟨c11, h⟩
    · obtain ⟨x7, hx7, h⟩ := bnS h
      obtain ⟨x8, hx8, h⟩ := bnS h
      rcases itS h with ⟨c9, h⟩ | ⟨c10, h⟩
      · have h := Option.some.inj h
        subst h
        exact go_ret hΘ hm hP hn (hs := [⟨2, .no, some (I (p1.length : Int))⟩, ⟨4, .br true, none⟩, ⟨7, .row (o3 x7), none⟩, ⟨11, .row (o3 x8), none⟩, ⟨14, .br true, none⟩]) (rh := []) (ph := .raw) (ps := [AV.lit (.int .i64 (((p1.map o3).length : Nat) : Int)) = (I (p1.length : Int)), (decide (v5 < (p1.length : Int))) = true, (0 : Int) ≤ v5, (p1.map o3)[(Int.toNat v5)]? = some (o3 x7), (0 : Int) ≤ v5, (p2.map o3)[(Int.toNat v5)]? = some (o3 x8), (x7 != x8) = true, (B false) = (B false), litA (B false) = true]) (by kernel_rfl) ⟨(lenM o3), c6, (rd0 hx7), (rdM o3 hx7), (rd0 hx8), (rdM o3 hx8), c9, rfl, rfl, trivial⟩
      · exact go_to hΘ hm hx hP hn (hs := [⟨2, .no, some (I (p1.length : Int))⟩, ⟨4, .br true, none⟩, ⟨7, .row (o3 x7), none⟩, ⟨11, .row (o3 x8), none⟩, ⟨14, .br false, none⟩]) (π := []) (ts := [0, 1, 5]) (kp := []) (ps := [AV.lit (.int .i64 (((p1.map o3).length : Nat) : Int)) = (I (p1.length : Int)), (decide (v5 < (p1.length : Int))) = true, (0 : Int) ≤ v5, (p1.map o3)[(Int.toNat v5)]? = some (o3 x7), (0 : Int) ≤ v5, (p2.map o3)[(Int.toNat v5)]? = some (o3 x8), (x7 != x8) = false]) (by kernel_rfl) ⟨(lenM o3), c6, (rd0 hx7), (rdM o3 hx7), (rd0 hx8), (rdM o3 hx8), c10, trivial⟩ (ih (w64 (v5 + 1)) _ h)
    · have h := Option.some.inj h
      subst h
      exact go_ret hΘ hm hP hn (hs := [⟨2, .no, some (I (p1.length : Int))⟩, ⟨4, .br false, none⟩]) (rh := []) (ph := .raw) (ps := [AV.lit (.int .i64 (((p1.map o3).length : Nat) : Int)) = (I (p1.length : Int)), (decide (v5 < (p1.length : Int))) = false, (B true) = (B true), litA (B true) = true]) (by kernel_rfl) ⟨(lenM o3), c11, rfl, rfl, trivial⟩
noncomputable def laws_eqIntS (p1 : (List Int)) (p2 : (List Int)) : Option Bool :=
  if ((p1.length : Int) != (p2.length : Int)) = true then
    some false
  else
    laws_eqIntS_l0 p1 p2 FU 0
theorem laws_eqIntS_m {p1 : (List Int)} {p2 : (List Int)} {r : Bool} (h : laws_eqIntS p1 p2 = some r) : Meets Tryz.prog 79 [(AV.ro 1 (p1.map o3)), (AV.ro 1 (p2.map o3))] (B r) := by
  refine meets_ofC Θ_ok Tryz.func79 rfl (c := body79) (by kernel_rfl) (Nat.le_of_ble_eq_true rfl) ?_
  intro E hP hn hx
  replace hn : E.n = 26 := hn
  have hm : E.P.follows .mixedOrders = true := by rw [hP]; exact mixed
  have hΘ : TOK E.P Θ := by rw [hP]; exact Θ_ok
  unfold laws_eqIntS at h
  show WAt E body79 (FQ (RetE Θ Tryz.f79.results.toList [] [] (B r) E)) [] ⟨[(0, (AV.ro 1 (p1.map o3))), (1, (AV.ro 1 (p2.map o3)))], [], [JJ]⟩
  rcases itS h with ⟨c3, h⟩ | ⟨c4, h⟩
  · have h := Option.some.inj h
    subst h
    exact go_ret hΘ hm hP hn (hs := [⟨2, .no, some (I (p1.length : Int))⟩, ⟨4, .no, some (I (p2.length : Int))⟩, ⟨6, .br true, none⟩]) (rh := []) (ph := .raw) (ps := [AV.lit (.int .i64 (((p1.map o3).length : Nat) : Int)) = (I (p1.length : Int)), AV.lit (.int .i64 (((p2.map o3).length : Nat) : Int)) = (I (p2.length : Int)), ((p1.length : Int) != (p2.length : Int)) = true, (B false) = (B false), litA (B false) = true]) (by kernel_rfl) ⟨(lenM o3), (lenM o3), c3, rfl, rfl, trivial⟩
  · exact go_to hΘ hm hx hP hn (hs := [⟨2, .no, some (I (p1.length : Int))⟩, ⟨4, .no, some (I (p2.length : Int))⟩, ⟨6, .br false, none⟩]) (π := []) (ts := [0, 1, 5]) (kp := []) (ps := [AV.lit (.int .i64 (((p1.map o3).length : Nat) : Int)) = (I (p1.length : Int)), AV.lit (.int .i64 (((p2.map o3).length : Nat) : Int)) = (I (p2.length : Int)), ((p1.length : Int) != (p2.length : Int)) = false]) (by kernel_rfl) ⟨(lenM o3), (lenM o3), c4, trivial⟩ (laws_eqIntS_l0_m hP hn hx p1 p2 FU 0 _ h)
noncomputable def body64 : Code := match Tryz.f64.body with | some c => c | none => .skip
noncomputable def laws_eqFound (p1 : GFound) (p2 : GFound) : Option Bool :=
  if (!(p1.Sign == p2.Sign)) = true then
    some false
  else
    Option.bind (laws_eqIntS p1.Picks p2.Picks) fun r5 =>
    if (!r5) = true then
      some false
    else
      some true
theorem laws_eqFound_m {p1 : GFound} {p2 : GFound} {r : Bool} (h : laws_eqFound p1 p2 = some r) : Meets Tryz.prog 64 [(AV.agg ((r61 p1))), (AV.agg ((r61 p2)))] (B r) := by
  refine meets_ofC Θ_ok Tryz.func64 rfl (c := body64) (by kernel_rfl) (Nat.le_of_ble_eq_true rfl) ?_
  intro E hP hn hx
  replace hn : E.n = 16 := hn
  have hm : E.P.follows .mixedOrders = true := by rw [hP]; exact mixed
  have hΘ : TOK E.P Θ := by rw [hP]; exact Θ_ok
  unfold laws_eqFound at h
  show WAt E body64 (FQ (RetE Θ Tryz.f64.results.toList [] [] (B r) E)) [] ⟨[(0, (AV.agg ((r61 p1)))), (1, (AV.agg ((r61 p2))))], [], [JJ]⟩
  rcases itS h with ⟨c3, h⟩ | ⟨c4, h⟩
  · have h := Option.some.inj h
    subst h
    exact go_ret hΘ hm hP hn (hs := [⟨0, .new 1001, none⟩, ⟨1, .new 1002, none⟩, ⟨7, .bin (B (!(p1.Sign == p2.Sign))), none⟩, ⟨8, .br true, none⟩]) (rh := []) (ph := .raw) (ps := [BinS Tryz.prog .neq 9 (SK p1.Sign) (SK p2.Sign) (B (!(p1.Sign == p2.Sign))), (!(p1.Sign == p2.Sign)) = true, (B false) = (B false), litA (B false) = true]) (by kernel_rfl) ⟨sNeq, c3, rfl, rfl, trivial⟩
  · obtain ⟨r5, hr5, h⟩ := bnS h
    rcases itS h with ⟨c6, h⟩ | ⟨c7, h⟩
    · have h := Option.some.inj h
      subst h
      exact go_ret hΘ hm hP hn (hs := [⟨0, .new 1001, none⟩, ⟨1, .new 1002, none⟩, ⟨7, .bin (B (!(p1.Sign == p2.Sign))), none⟩, ⟨8, .br false, none⟩, ⟨13, .callV [] (B r5), none⟩, ⟨15, .br true, none⟩]) (rh := []) (ph := .raw) (ps := [BinS Tryz.prog .neq 9 (SK p1.Sign) (SK p2.Sign) (B (!(p1.Sign == p2.Sign))), (!(p1.Sign == p2.Sign)) = false, Meets Tryz.prog 79 [(AV.ro 1 (p1.Picks.map o3)), (AV.ro 1 (p2.Picks.map o3))] (B r5), litA (B r5) = true, (!r5) = true, (B false) = (B false), litA (B false) = true]) (by kernel_rfl) ⟨sNeq, c4, (laws_eqIntS_m hr5), rfl, c6, rfl, rfl, trivial⟩
    · have h := Option.some.inj h
      subst h
      exact go_ret hΘ hm hP hn (hs := [⟨0, .new 1001, none⟩, ⟨1, .new 1002, none⟩, ⟨7, .bin (B (!(p1.Sign == p2.Sign))), none⟩, ⟨8, .br false, none⟩, ⟨13, .callV [] (B r5), none⟩, ⟨15, .br false, none⟩]) (rh := []) (ph := .raw) (ps := [BinS Tryz.prog .neq 9 (SK p1.Sign) (SK p2.Sign) (B (!(p1.Sign == p2.Sign))), (!(p1.Sign == p2.Sign)) = false, Meets Tryz.prog 79 [(AV.ro 1 (p1.Picks.map o3)), (AV.ro 1 (p2.Picks.map o3))] (B r5), litA (B r5) = true, (!r5) = false, (B true) = (B true), litA (B true) = true]) (by kernel_rfl) ⟨sNeq, c4, (laws_eqIntS_m hr5), rfl, c7, rfl, rfl, trivial⟩
noncomputable def body33 : Code := match Tryz.f33.body with | some c => c | none => .skip
noncomputable def laws_eqFoundS_l0  (p1 : (List GFound)) (p2 : (List GFound)) : Nat → Int → Option Bool
  | 0, _ => none
  | n + 1, v5 =>
  if (decide (v5 < (p1.length : Int))) = true then
    Option.bind (rd p1 v5) fun x7 =>
    Option.bind (rd p2 v5) fun x8 =>
    Option.bind (laws_eqFound x7 x8) fun r9 =>
    if (!r9) = true then
      some false
    else
      laws_eqFoundS_l0 p1 p2 n (w64 (v5 + 1))
  else
    some true
theorem laws_eqFoundS_l0_m {E : Env} (hP : E.P = Tryz.prog) (hn : E.n = 27) (hx : ∀ p, p ∈ E.fx → p.1 ∈ ([] : List Nat)) (p1 : (List GFound)) (p2 : (List GFound))  : ∀ (n : Nat) (v5 : Int) (r : Bool), laws_eqFoundS_l0 p1 p2 n v5 = some r → WAt E body33 (FQ (RetE Θ Tryz.f33.results.toList [] [] (B r) E)) [true, true, false, true, false] ⟨[(0, (AV.ro 2 (p1.map r61))), (1, (AV.ro 2 (p2.map r61))), (5, (I v5))], [], [JJ]⟩ := by
  have hm : E.P.follows .mixedOrders = true := by rw [hP]; exact mixed
  have hΘ : TOK E.P Θ := by rw [hP]; exact Θ_ok
  intro n
  induction n with
  | zero => intro v5 r h; simp only [laws_eqFoundS_l0] at h; cases h
  | succ n ih =>
    intro v5 r h
    simp only [laws_eqFoundS_l0] at h
    rcases itS h with ⟨c6, h⟩ | ⟨c12, h⟩
    · obtain ⟨x7, hx7, h⟩ := bnS h
      obtain ⟨x8, hx8, h⟩ := bnS h
      obtain ⟨r9, hr9, h⟩ := bnS h
      rcases itS h with ⟨c10, h⟩ | ⟨c11, h⟩
      · have h := Option.some.inj h
        subst h
        exact go_ret hΘ hm hP hn (hs := [⟨2, .no, some (I (p1.length : Int))⟩, ⟨4, .br true, none⟩, ⟨7, .row (r61 x7), none⟩, ⟨11, .row (r61 x8), none⟩, ⟨13, .callV [[], []] (B r9), none⟩, ⟨15, .br true, none⟩]) (rh := []) (ph := .raw) (ps := [AV.lit (.int .i64 (((p1.map r61).length : Nat) : Int)) = (I (p1.length : Int)), (decide (v5 < (p1.length : Int))) = true, (0 : Int) ≤ v5, (p1.map r61)[(Int.toNat v5)]? = some (r61 x7), (0 : Int) ≤ v5, (p2.map r61)[(Int.toNat v5)]? = some (r61 x8), Meets Tryz.prog 64 [(AV.agg ((r61 x7))), (AV.agg ((r61 x8)))] (B r9), litA (B r9) = true, (!r9) = true, (B false) = (B false), litA (B false) = true]) (by kernel_rfl) ⟨(lenM r61), c6, (rd0 hx7), (rdM r61 hx7), (rd0 hx8), (rdM r61 hx8), (laws_eqFound_m hr9), rfl, c10, rfl, rfl, trivial⟩
      · exact go_to hΘ hm hx hP hn (hs := [⟨2, .no, some (I (p1.length : Int))⟩, ⟨4, .br true, none⟩, ⟨7, .row (r61 x7), none⟩, ⟨11, .row (r61 x8), none⟩, ⟨13, .callV [[], []] (B r9), none⟩, ⟨15, .br false, none⟩]) (π := []) (ts := [0, 1, 5]) (kp := []) (ps := [AV.lit (.int .i64 (((p1.map r61).length : Nat) : Int)) = (I (p1.length : Int)), (decide (v5 < (p1.length : Int))) = true, (0 : Int) ≤ v5, (p1.map r61)[(Int.toNat v5)]? = some (r61 x7), (0 : Int) ≤ v5, (p2.map r61)[(Int.toNat v5)]? = some (r61 x8), Meets Tryz.prog 64 [(AV.agg ((r61 x7))), (AV.agg ((r61 x8)))] (B r9), litA (B r9) = true, (!r9) = false]) (by kernel_rfl) ⟨(lenM r61), c6, (rd0 hx7), (rdM r61 hx7), (rd0 hx8), (rdM r61 hx8), (laws_eqFound_m hr9), rfl, c11, trivial⟩ (ih (w64 (v5 + 1)) _ h)
    · have h := Option.some.inj h
      subst h
      exact go_ret hΘ hm hP hn (hs := [⟨2, .no, some (I (p1.length : Int))⟩, ⟨4, .br false, none⟩]) (rh := []) (ph := .raw) (ps := [AV.lit (.int .i64 (((p1.map r61).length : Nat) : Int)) = (I (p1.length : Int)), (decide (v5 < (p1.length : Int))) = false, (B true) = (B true), litA (B true) = true]) (by kernel_rfl) ⟨(lenM r61), c12, rfl, rfl, trivial⟩
noncomputable def laws_eqFoundS (p1 : (List GFound)) (p2 : (List GFound)) : Option Bool :=
  if ((p1.length : Int) != (p2.length : Int)) = true then
    some false
  else
    laws_eqFoundS_l0 p1 p2 FU 0
theorem laws_eqFoundS_m {p1 : (List GFound)} {p2 : (List GFound)} {r : Bool} (h : laws_eqFoundS p1 p2 = some r) : Meets Tryz.prog 33 [(AV.ro 2 (p1.map r61)), (AV.ro 2 (p2.map r61))] (B r) := by
  refine meets_ofC Θ_ok Tryz.func33 rfl (c := body33) (by kernel_rfl) (Nat.le_of_ble_eq_true rfl) ?_
  intro E hP hn hx
  replace hn : E.n = 27 := hn
  have hm : E.P.follows .mixedOrders = true := by rw [hP]; exact mixed
  have hΘ : TOK E.P Θ := by rw [hP]; exact Θ_ok
  unfold laws_eqFoundS at h
  show WAt E body33 (FQ (RetE Θ Tryz.f33.results.toList [] [] (B r) E)) [] ⟨[(0, (AV.ro 2 (p1.map r61))), (1, (AV.ro 2 (p2.map r61)))], [], [JJ]⟩
  rcases itS h with ⟨c3, h⟩ | ⟨c4, h⟩
  · have h := Option.some.inj h
    subst h
    exact go_ret hΘ hm hP hn (hs := [⟨2, .no, some (I (p1.length : Int))⟩, ⟨4, .no, some (I (p2.length : Int))⟩, ⟨6, .br true, none⟩]) (rh := []) (ph := .raw) (ps := [AV.lit (.int .i64 (((p1.map r61).length : Nat) : Int)) = (I (p1.length : Int)), AV.lit (.int .i64 (((p2.map r61).length : Nat) : Int)) = (I (p2.length : Int)), ((p1.length : Int) != (p2.length : Int)) = true, (B false) = (B false), litA (B false) = true]) (by kernel_rfl) ⟨(lenM r61), (lenM r61), c3, rfl, rfl, trivial⟩
  · exact go_to hΘ hm hx hP hn (hs := [⟨2, .no, some (I (p1.length : Int))⟩, ⟨4, .no, some (I (p2.length : Int))⟩, ⟨6, .br false, none⟩]) (π := []) (ts := [0, 1, 5]) (kp := []) (ps := [AV.lit (.int .i64 (((p1.map r61).length : Nat) : Int)) = (I (p1.length : Int)), AV.lit (.int .i64 (((p2.map r61).length : Nat) : Int)) = (I (p2.length : Int)), ((p1.length : Int) != (p2.length : Int)) = false]) (by kernel_rfl) ⟨(lenM r61), (lenM r61), c4, trivial⟩ (laws_eqFoundS_l0_m hP hn hx p1 p2 FU 0 _ h)
noncomputable def body63 : Code := match Tryz.f63.body with | some c => c | none => .skip
noncomputable def laws_eqPair (p1 : GPair) (p2 : GPair) : Option Bool :=
  if (p1.Cell != p2.Cell) = true then
    some false
  else
    if (p1.One != p2.One) = true then
      some false
    else
      if (p1.Two != p2.Two) = true then
        some false
      else
        some true
theorem laws_eqPair_m {p1 : GPair} {p2 : GPair} {r : Bool} (h : laws_eqPair p1 p2 = some r) : Meets Tryz.prog 63 [(AV.agg ((o80 p1))), (AV.agg ((o80 p2)))] (B r) := by
  refine meets_ofC Θ_ok Tryz.func63 rfl (c := body63) (by kernel_rfl) (Nat.le_of_ble_eq_true rfl) ?_
  intro E hP hn hx
  replace hn : E.n = 20 := hn
  have hm : E.P.follows .mixedOrders = true := by rw [hP]; exact mixed
  have hΘ : TOK E.P Θ := by rw [hP]; exact Θ_ok
  unfold laws_eqPair at h
  show WAt E body63 (FQ (RetE Θ Tryz.f63.results.toList [] [] (B r) E)) [] ⟨[(0, (AV.agg ((o80 p1)))), (1, (AV.agg ((o80 p2))))], [], [JJ]⟩
  rcases itS h with ⟨c3, h⟩ | ⟨c4, h⟩
  · have h := Option.some.inj h
    subst h
    exact go_ret hΘ hm hP hn (hs := [⟨0, .new 1001, none⟩, ⟨1, .new 1002, none⟩, ⟨8, .br true, none⟩]) (rh := []) (ph := .raw) (ps := [(p1.Cell != p2.Cell) = true, (B false) = (B false), litA (B false) = true]) (by kernel_rfl) ⟨c3, rfl, rfl, trivial⟩
  · rcases itS h with ⟨c5, h⟩ | ⟨c6, h⟩
    · have h := Option.some.inj h
      subst h
      exact go_ret hΘ hm hP hn (hs := [⟨0, .new 1001, none⟩, ⟨1, .new 1002, none⟩, ⟨8, .br false, none⟩, ⟨14, .br true, none⟩]) (rh := []) (ph := .raw) (ps := [(p1.Cell != p2.Cell) = false, (p1.One != p2.One) = true, (B false) = (B false), litA (B false) = true]) (by kernel_rfl) ⟨c4, c5, rfl, rfl, trivial⟩
    · rcases itS h with ⟨c7, h⟩ | ⟨c8, h⟩
      · have h := Option.some.inj h
        subst h
        exact go_ret hΘ hm hP hn (hs := [⟨0, .new 1001, none⟩, ⟨1, .new 1002, none⟩, ⟨8, .br false, none⟩, ⟨14, .br false, none⟩, ⟨20, .br true, none⟩]) (rh := []) (ph := .raw) (ps := [(p1.Cell != p2.Cell) = false, (p1.One != p2.One) = false, (p1.Two != p2.Two) = true, (B false) = (B false), litA (B false) = true]) (by kernel_rfl) ⟨c4, c6, c7, rfl, rfl, trivial⟩
      · have h := Option.some.inj h
        subst h
        exact go_ret hΘ hm hP hn (hs := [⟨0, .new 1001, none⟩, ⟨1, .new 1002, none⟩, ⟨8, .br false, none⟩, ⟨14, .br false, none⟩, ⟨20, .br false, none⟩]) (rh := []) (ph := .raw) (ps := [(p1.Cell != p2.Cell) = false, (p1.One != p2.One) = false, (p1.Two != p2.Two) = false, (B true) = (B true), litA (B true) = true]) (by kernel_rfl) ⟨c4, c6, c8, rfl, rfl, trivial⟩
noncomputable def body32 : Code := match Tryz.f32.body with | some c => c | none => .skip
noncomputable def laws_eqPairS_l0  (p1 : (List GPair)) (p2 : (List GPair)) : Nat → Int → Option Bool
  | 0, _ => none
  | n + 1, v5 =>
  if (decide (v5 < (p1.length : Int))) = true then
    Option.bind (rd p1 v5) fun x7 =>
    Option.bind (rd p2 v5) fun x8 =>
    Option.bind (laws_eqPair x7 x8) fun r9 =>
    if (!r9) = true then
      some false
    else
      laws_eqPairS_l0 p1 p2 n (w64 (v5 + 1))
  else
    some true
theorem laws_eqPairS_l0_m {E : Env} (hP : E.P = Tryz.prog) (hn : E.n = 27) (hx : ∀ p, p ∈ E.fx → p.1 ∈ ([] : List Nat)) (p1 : (List GPair)) (p2 : (List GPair))  : ∀ (n : Nat) (v5 : Int) (r : Bool), laws_eqPairS_l0 p1 p2 n v5 = some r → WAt E body32 (FQ (RetE Θ Tryz.f32.results.toList [] [] (B r) E)) [true, true, false, true, false] ⟨[(0, (AV.ro 3 (p1.map o80))), (1, (AV.ro 3 (p2.map o80))), (5, (I v5))], [], [JJ]⟩ := by
  have hm : E.P.follows .mixedOrders = true := by rw [hP]; exact mixed
  have hΘ : TOK E.P Θ := by rw [hP]; exact Θ_ok
  intro n
  induction n with
  | zero => intro v5 r h; simp only [laws_eqPairS_l0] at h; cases h
  | succ n ih =>
    intro v5 r h
    simp only [laws_eqPairS_l0] at h
    rcases itS h with ⟨c6, h⟩ | ⟨c12, h⟩
    · obtain ⟨x7, hx7, h⟩ := bnS h
      obtain ⟨x8, hx8, h⟩ := bnS h
      obtain ⟨r9, hr9, h⟩ := bnS h
      rcases itS h with ⟨c10, h⟩ | ⟨c11, h⟩
      · have h := Option.some.inj h
        subst h
        exact go_ret hΘ hm hP hn (hs := [⟨2, .no, some (I (p1.length : Int))⟩, ⟨4, .br true, none⟩, ⟨7, .row (o80 x7), none⟩, ⟨11, .row (o80 x8), none⟩, ⟨13, .callV [[], []] (B r9), none⟩, ⟨15, .br true, none⟩]) (rh := []) (ph := .raw) (ps := [AV.lit (.int .i64 (((p1.map o80).length : Nat) : Int)) = (I (p1.length : Int)), (decide (v5 < (p1.length : Int))) = true, (0 : Int) ≤ v5, (p1.map o80)[(Int.toNat v5)]? = some (o80 x7), (0 : Int) ≤ v5, (p2.map o80)[(Int.toNat v5)]? = some (o80 x8), Meets Tryz.prog 63 [(AV.agg ((o80 x7))), (AV.agg ((o80 x8)))] (B r9), litA (B r9) = true, (!r9) = true, (B false) = (B false), litA (B false) = true]) (by kernel_rfl) ⟨(lenM o80), c6, (rd0 hx7), (rdM o80 hx7), (rd0 hx8), (rdM o80 hx8), (laws_eqPair_m hr9), rfl, c10, rfl, rfl, trivial⟩
      · exact go_to hΘ hm hx hP hn (hs := [⟨2, .no, some (I (p1.length : Int))⟩, ⟨4, .br true, none⟩, ⟨7, .row (o80 x7), none⟩, ⟨11, .row (o80 x8), none⟩, ⟨13, .callV [[], []] (B r9), none⟩, ⟨15, .br false, none⟩]) (π := []) (ts := [0, 1, 5]) (kp := []) (ps := [AV.lit (.int .i64 (((p1.map o80).length : Nat) : Int)) = (I (p1.length : Int)), (decide (v5 < (p1.length : Int))) = true, (0 : Int) ≤ v5, (p1.map o80)[(Int.toNat v5)]? = some (o80 x7), (0 : Int) ≤ v5, (p2.map o80)[(Int.toNat v5)]? = some (o80 x8), Meets Tryz.prog 63 [(AV.agg ((o80 x7))), (AV.agg ((o80 x8)))] (B r9), litA (B r9) = true, (!r9) = false]) (by kernel_rfl) ⟨(lenM o80), c6, (rd0 hx7), (rdM o80 hx7), (rd0 hx8), (rdM o80 hx8), (laws_eqPair_m hr9), rfl, c11, trivial⟩ (ih (w64 (v5 + 1)) _ h)
    · have h := Option.some.inj h
      subst h
      exact go_ret hΘ hm hP hn (hs := [⟨2, .no, some (I (p1.length : Int))⟩, ⟨4, .br false, none⟩]) (rh := []) (ph := .raw) (ps := [AV.lit (.int .i64 (((p1.map o80).length : Nat) : Int)) = (I (p1.length : Int)), (decide (v5 < (p1.length : Int))) = false, (B true) = (B true), litA (B true) = true]) (by kernel_rfl) ⟨(lenM o80), c12, rfl, rfl, trivial⟩
noncomputable def laws_eqPairS (p1 : (List GPair)) (p2 : (List GPair)) : Option Bool :=
  if ((p1.length : Int) != (p2.length : Int)) = true then
    some false
  else
    laws_eqPairS_l0 p1 p2 FU 0
theorem laws_eqPairS_m {p1 : (List GPair)} {p2 : (List GPair)} {r : Bool} (h : laws_eqPairS p1 p2 = some r) : Meets Tryz.prog 32 [(AV.ro 3 (p1.map o80)), (AV.ro 3 (p2.map o80))] (B r) := by
  refine meets_ofC Θ_ok Tryz.func32 rfl (c := body32) (by kernel_rfl) (Nat.le_of_ble_eq_true rfl) ?_
  intro E hP hn hx
  replace hn : E.n = 27 := hn
  have hm : E.P.follows .mixedOrders = true := by rw [hP]; exact mixed
  have hΘ : TOK E.P Θ := by rw [hP]; exact Θ_ok
  unfold laws_eqPairS at h
  show WAt E body32 (FQ (RetE Θ Tryz.f32.results.toList [] [] (B r) E)) [] ⟨[(0, (AV.ro 3 (p1.map o80))), (1, (AV.ro 3 (p2.map o80)))], [], [JJ]⟩
  rcases itS h with ⟨c3, h⟩ | ⟨c4, h⟩
  · have h := Option.some.inj h
    subst h
    exact go_ret hΘ hm hP hn (hs := [⟨2, .no, some (I (p1.length : Int))⟩, ⟨4, .no, some (I (p2.length : Int))⟩, ⟨6, .br true, none⟩]) (rh := []) (ph := .raw) (ps := [AV.lit (.int .i64 (((p1.map o80).length : Nat) : Int)) = (I (p1.length : Int)), AV.lit (.int .i64 (((p2.map o80).length : Nat) : Int)) = (I (p2.length : Int)), ((p1.length : Int) != (p2.length : Int)) = true, (B false) = (B false), litA (B false) = true]) (by kernel_rfl) ⟨(lenM o80), (lenM o80), c3, rfl, rfl, trivial⟩
  · exact go_to hΘ hm hx hP hn (hs := [⟨2, .no, some (I (p1.length : Int))⟩, ⟨4, .no, some (I (p2.length : Int))⟩, ⟨6, .br false, none⟩]) (π := []) (ts := [0, 1, 5]) (kp := []) (ps := [AV.lit (.int .i64 (((p1.map o80).length : Nat) : Int)) = (I (p1.length : Int)), AV.lit (.int .i64 (((p2.map o80).length : Nat) : Int)) = (I (p2.length : Int)), ((p1.length : Int) != (p2.length : Int)) = false]) (by kernel_rfl) ⟨(lenM o80), (lenM o80), c4, trivial⟩ (laws_eqPairS_l0_m hP hn hx p1 p2 FU 0 _ h)
noncomputable def body62 : Code := match Tryz.f62.body with | some c => c | none => .skip
noncomputable def laws_eqPct (p1 : GPct) (p2 : GPct) : Option Bool :=
  Option.bind (laws_eqIntS p1.Ranks p2.Ranks) fun r3 =>
  if (!r3) = true then
    some false
  else
    Option.bind (laws_eqIntS p1.Changes p2.Changes) fun r6 =>
    if (!r6) = true then
      some false
    else
      some true
theorem laws_eqPct_m {p1 : GPct} {p2 : GPct} {r : Bool} (h : laws_eqPct p1 p2 = some r) : Meets Tryz.prog 62 [(AV.agg ((r49 p1))), (AV.agg ((r49 p2)))] (B r) := by
  refine meets_ofC Θ_ok Tryz.func62 rfl (c := body62) (by kernel_rfl) (Nat.le_of_ble_eq_true rfl) ?_
  intro E hP hn hx
  replace hn : E.n = 17 := hn
  have hm : E.P.follows .mixedOrders = true := by rw [hP]; exact mixed
  have hΘ : TOK E.P Θ := by rw [hP]; exact Θ_ok
  unfold laws_eqPct at h
  show WAt E body62 (FQ (RetE Θ Tryz.f62.results.toList [] [] (B r) E)) [] ⟨[(0, (AV.agg ((r49 p1)))), (1, (AV.agg ((r49 p2))))], [], [JJ]⟩
  obtain ⟨r3, hr3, h⟩ := bnS h
  rcases itS h with ⟨c4, h⟩ | ⟨c5, h⟩
  · have h := Option.some.inj h
    subst h
    exact go_ret hΘ hm hP hn (hs := [⟨0, .new 1001, none⟩, ⟨1, .new 1002, none⟩, ⟨7, .callV [] (B r3), none⟩, ⟨9, .br true, none⟩]) (rh := []) (ph := .raw) (ps := [Meets Tryz.prog 79 [(AV.ro 1 (p1.Ranks.map o3)), (AV.ro 1 (p2.Ranks.map o3))] (B r3), litA (B r3) = true, (!r3) = true, (B false) = (B false), litA (B false) = true]) (by kernel_rfl) ⟨(laws_eqIntS_m hr3), rfl, c4, rfl, rfl, trivial⟩
  · obtain ⟨r6, hr6, h⟩ := bnS h
    rcases itS h with ⟨c7, h⟩ | ⟨c8, h⟩
    · have h := Option.some.inj h
      subst h
      exact go_ret hΘ hm hP hn (hs := [⟨0, .new 1001, none⟩, ⟨1, .new 1002, none⟩, ⟨7, .callV [] (B r3), none⟩, ⟨9, .br false, none⟩, ⟨14, .callV [] (B r6), none⟩, ⟨16, .br true, none⟩]) (rh := []) (ph := .raw) (ps := [Meets Tryz.prog 79 [(AV.ro 1 (p1.Ranks.map o3)), (AV.ro 1 (p2.Ranks.map o3))] (B r3), litA (B r3) = true, (!r3) = false, Meets Tryz.prog 79 [(AV.ro 1 (p1.Changes.map o3)), (AV.ro 1 (p2.Changes.map o3))] (B r6), litA (B r6) = true, (!r6) = true, (B false) = (B false), litA (B false) = true]) (by kernel_rfl) ⟨(laws_eqIntS_m hr3), rfl, c5, (laws_eqIntS_m hr6), rfl, c7, rfl, rfl, trivial⟩
    · have h := Option.some.inj h
      subst h
      exact go_ret hΘ hm hP hn (hs := [⟨0, .new 1001, none⟩, ⟨1, .new 1002, none⟩, ⟨7, .callV [] (B r3), none⟩, ⟨9, .br false, none⟩, ⟨14, .callV [] (B r6), none⟩, ⟨16, .br false, none⟩]) (rh := []) (ph := .raw) (ps := [Meets Tryz.prog 79 [(AV.ro 1 (p1.Ranks.map o3)), (AV.ro 1 (p2.Ranks.map o3))] (B r3), litA (B r3) = true, (!r3) = false, Meets Tryz.prog 79 [(AV.ro 1 (p1.Changes.map o3)), (AV.ro 1 (p2.Changes.map o3))] (B r6), litA (B r6) = true, (!r6) = false, (B true) = (B true), litA (B true) = true]) (by kernel_rfl) ⟨(laws_eqIntS_m hr3), rfl, c5, (laws_eqIntS_m hr6), rfl, c8, rfl, rfl, trivial⟩
noncomputable def body31 : Code := match Tryz.f31.body with | some c => c | none => .skip
noncomputable def laws_eqPctS_l0  (p1 : (List GPct)) (p2 : (List GPct)) : Nat → Int → Option Bool
  | 0, _ => none
  | n + 1, v5 =>
  if (decide (v5 < (p1.length : Int))) = true then
    Option.bind (rd p1 v5) fun x7 =>
    Option.bind (rd p2 v5) fun x8 =>
    Option.bind (laws_eqPct x7 x8) fun r9 =>
    if (!r9) = true then
      some false
    else
      laws_eqPctS_l0 p1 p2 n (w64 (v5 + 1))
  else
    some true
theorem laws_eqPctS_l0_m {E : Env} (hP : E.P = Tryz.prog) (hn : E.n = 27) (hx : ∀ p, p ∈ E.fx → p.1 ∈ ([] : List Nat)) (p1 : (List GPct)) (p2 : (List GPct))  : ∀ (n : Nat) (v5 : Int) (r : Bool), laws_eqPctS_l0 p1 p2 n v5 = some r → WAt E body31 (FQ (RetE Θ Tryz.f31.results.toList [] [] (B r) E)) [true, true, false, true, false] ⟨[(0, (AV.ro 2 (p1.map r49))), (1, (AV.ro 2 (p2.map r49))), (5, (I v5))], [], [JJ]⟩ := by
  have hm : E.P.follows .mixedOrders = true := by rw [hP]; exact mixed
  have hΘ : TOK E.P Θ := by rw [hP]; exact Θ_ok
  intro n
  induction n with
  | zero => intro v5 r h; simp only [laws_eqPctS_l0] at h; cases h
  | succ n ih =>
    intro v5 r h
    simp only [laws_eqPctS_l0] at h
    rcases itS h with ⟨c6, h⟩ | ⟨c12, h⟩
    · obtain ⟨x7, hx7, h⟩ := bnS h
      obtain ⟨x8, hx8, h⟩ := bnS h
      obtain ⟨r9, hr9, h⟩ := bnS h
      rcases itS h with ⟨c10, h⟩ | ⟨c11, h⟩
      · have h := Option.some.inj h
        subst h
        exact go_ret hΘ hm hP hn (hs := [⟨2, .no, some (I (p1.length : Int))⟩, ⟨4, .br true, none⟩, ⟨7, .row (r49 x7), none⟩, ⟨11, .row (r49 x8), none⟩, ⟨13, .callV [[], []] (B r9), none⟩, ⟨15, .br true, none⟩]) (rh := []) (ph := .raw) (ps := [AV.lit (.int .i64 (((p1.map r49).length : Nat) : Int)) = (I (p1.length : Int)), (decide (v5 < (p1.length : Int))) = true, (0 : Int) ≤ v5, (p1.map r49)[(Int.toNat v5)]? = some (r49 x7), (0 : Int) ≤ v5, (p2.map r49)[(Int.toNat v5)]? = some (r49 x8), Meets Tryz.prog 62 [(AV.agg ((r49 x7))), (AV.agg ((r49 x8)))] (B r9), litA (B r9) = true, (!r9) = true, (B false) = (B false), litA (B false) = true]) (by kernel_rfl) ⟨(lenM r49), c6, (rd0 hx7), (rdM r49 hx7), (rd0 hx8), (rdM r49 hx8), (laws_eqPct_m hr9), rfl, c10, rfl, rfl, trivial⟩
      · exact go_to hΘ hm hx hP hn (hs := [⟨2, .no, some (I (p1.length : Int))⟩, ⟨4, .br true, none⟩, ⟨7, .row (r49 x7), none⟩, ⟨11, .row (r49 x8), none⟩, ⟨13, .callV [[], []] (B r9), none⟩, ⟨15, .br false, none⟩]) (π := []) (ts := [0, 1, 5]) (kp := []) (ps := [AV.lit (.int .i64 (((p1.map r49).length : Nat) : Int)) = (I (p1.length : Int)), (decide (v5 < (p1.length : Int))) = true, (0 : Int) ≤ v5, (p1.map r49)[(Int.toNat v5)]? = some (r49 x7), (0 : Int) ≤ v5, (p2.map r49)[(Int.toNat v5)]? = some (r49 x8), Meets Tryz.prog 62 [(AV.agg ((r49 x7))), (AV.agg ((r49 x8)))] (B r9), litA (B r9) = true, (!r9) = false]) (by kernel_rfl) ⟨(lenM r49), c6, (rd0 hx7), (rdM r49 hx7), (rd0 hx8), (rdM r49 hx8), (laws_eqPct_m hr9), rfl, c11, trivial⟩ (ih (w64 (v5 + 1)) _ h)
    · have h := Option.some.inj h
      subst h
      exact go_ret hΘ hm hP hn (hs := [⟨2, .no, some (I (p1.length : Int))⟩, ⟨4, .br false, none⟩]) (rh := []) (ph := .raw) (ps := [AV.lit (.int .i64 (((p1.map r49).length : Nat) : Int)) = (I (p1.length : Int)), (decide (v5 < (p1.length : Int))) = false, (B true) = (B true), litA (B true) = true]) (by kernel_rfl) ⟨(lenM r49), c12, rfl, rfl, trivial⟩
noncomputable def laws_eqPctS (p1 : (List GPct)) (p2 : (List GPct)) : Option Bool :=
  if ((p1.length : Int) != (p2.length : Int)) = true then
    some false
  else
    laws_eqPctS_l0 p1 p2 FU 0
theorem laws_eqPctS_m {p1 : (List GPct)} {p2 : (List GPct)} {r : Bool} (h : laws_eqPctS p1 p2 = some r) : Meets Tryz.prog 31 [(AV.ro 2 (p1.map r49)), (AV.ro 2 (p2.map r49))] (B r) := by
  refine meets_ofC Θ_ok Tryz.func31 rfl (c := body31) (by kernel_rfl) (Nat.le_of_ble_eq_true rfl) ?_
  intro E hP hn hx
  replace hn : E.n = 27 := hn
  have hm : E.P.follows .mixedOrders = true := by rw [hP]; exact mixed
  have hΘ : TOK E.P Θ := by rw [hP]; exact Θ_ok
  unfold laws_eqPctS at h
  show WAt E body31 (FQ (RetE Θ Tryz.f31.results.toList [] [] (B r) E)) [] ⟨[(0, (AV.ro 2 (p1.map r49))), (1, (AV.ro 2 (p2.map r49)))], [], [JJ]⟩
  rcases itS h with ⟨c3, h⟩ | ⟨c4, h⟩
  · have h := Option.some.inj h
    subst h
    exact go_ret hΘ hm hP hn (hs := [⟨2, .no, some (I (p1.length : Int))⟩, ⟨4, .no, some (I (p2.length : Int))⟩, ⟨6, .br true, none⟩]) (rh := []) (ph := .raw) (ps := [AV.lit (.int .i64 (((p1.map r49).length : Nat) : Int)) = (I (p1.length : Int)), AV.lit (.int .i64 (((p2.map r49).length : Nat) : Int)) = (I (p2.length : Int)), ((p1.length : Int) != (p2.length : Int)) = true, (B false) = (B false), litA (B false) = true]) (by kernel_rfl) ⟨(lenM r49), (lenM r49), c3, rfl, rfl, trivial⟩
  · exact go_to hΘ hm hx hP hn (hs := [⟨2, .no, some (I (p1.length : Int))⟩, ⟨4, .no, some (I (p2.length : Int))⟩, ⟨6, .br false, none⟩]) (π := []) (ts := [0, 1, 5]) (kp := []) (ps := [AV.lit (.int .i64 (((p1.map r49).length : Nat) : Int)) = (I (p1.length : Int)), AV.lit (.int .i64 (((p2.map r49).length : Nat) : Int)) = (I (p2.length : Int)), ((p1.length : Int) != (p2.length : Int)) = false]) (by kernel_rfl) ⟨(lenM r49), (lenM r49), c4, trivial⟩ (laws_eqPctS_l0_m hP hn hx p1 p2 FU 0 _ h)
noncomputable def body104 : Code := match Tryz.f104.body with | some c => c | none => .skip
noncomputable def laws_sameFloat_j0  (p1 : Nat) (p2 : Nat)  : Option Bool :=
  if ((fcmp p1 0) == some .eq) = true then
    if ((fcmp p2 0) == some .eq) = true then
      some (((fcmp (fdv 4607182418800017408 p1) 0) == some .gt) == ((fcmp (fdv 4607182418800017408 p2) 0) == some .gt))
    else
      some ((fcmp p1 p2) == some .eq)
  else
    some ((fcmp p1 p2) == some .eq)
theorem laws_sameFloat_j0_m {E : Env} (hP : E.P = Tryz.prog) (hn : E.n = 37) (hx : ∀ p, p ∈ E.fx → p.1 ∈ ([] : List Nat)) (p1 : Nat) (p2 : Nat)   (r : Bool) (h : laws_sameFloat_j0 p1 p2  = some r) : WAt E body104 (FQ (RetE Θ Tryz.f104.results.toList [] [] (B r) E)) [true, false, true, true] ⟨[(0, (FK p1)), (1, (FK p2))], [], [JJ]⟩ := by
  have hm : E.P.follows .mixedOrders = true := by rw [hP]; exact mixed
  have hΘ : TOK E.P Θ := by rw [hP]; exact Θ_ok
  unfold laws_sameFloat_j0 at h
  rcases itS h with ⟨c11, h⟩ | ⟨c14, h⟩
  · rcases itS h with ⟨c12, h⟩ | ⟨c13, h⟩
    · have h := Option.some.inj h
      subst h
      exact go_ret hΘ hm hP hn (hs := [⟨1, .bin (B ((fcmp p1 0) == some .eq)), none⟩, ⟨2, .no, some (B true)⟩, ⟨4, .bin (B ((fcmp p2 0) == some .eq)), none⟩, ⟨6, .br true, none⟩, ⟨8, .bin (FK (fdv 4607182418800017408 p1)), none⟩, ⟨9, .bin (B ((fcmp (fdv 4607182418800017408 p1) 0) == some .gt)), none⟩, ⟨11, .bin (FK (fdv 4607182418800017408 p2)), none⟩, ⟨12, .bin (B ((fcmp (fdv 4607182418800017408 p2) 0) == some .gt)), none⟩]) (rh := []) (ph := .raw) (ps := [BinS Tryz.prog .eql 75 (FK p1) (FK 0) (B ((fcmp p1 0) == some .eq)), (B ((fcmp p1 0) == some .eq)) = (B true), BinS Tryz.prog .eql 75 (FK p2) (FK 0) (B ((fcmp p2 0) == some .eq)), ((fcmp p2 0) == some .eq) = true, BinS Tryz.prog .quo 75 (FK 4607182418800017408) (FK p1) (FK (fdv 4607182418800017408 p1)), BinS Tryz.prog .gtr 75 (FK (fdv 4607182418800017408 p1)) (FK 0) (B ((fcmp (fdv 4607182418800017408 p1) 0) == some .gt)), BinS Tryz.prog .quo 75 (FK 4607182418800017408) (FK p2) (FK (fdv 4607182418800017408 p2)), BinS Tryz.prog .gtr 75 (FK (fdv 4607182418800017408 p2)) (FK 0) (B ((fcmp (fdv 4607182418800017408 p2) 0) == some .gt)), (B (((fcmp (fdv 4607182418800017408 p1) 0) == some .gt) == ((fcmp (fdv 4607182418800017408 p2) 0) == some .gt))) = (B (((fcmp (fdv 4607182418800017408 p1) 0) == some .gt) == ((fcmp (fdv 4607182418800017408 p2) 0) == some .gt))), litA (B (((fcmp (fdv 4607182418800017408 p1) 0) == some .gt) == ((fcmp (fdv 4607182418800017408 p2) 0) == some .gt))) = true]) (by kernel_rfl) ⟨fEql, (litB c11), fEql, c12, fQuo, fGtr, fQuo, fGtr, rfl, rfl, trivial⟩
    · have h := Option.some.inj h
      subst h
      exact go_ret hΘ hm hP hn (hs := [⟨1, .bin (B ((fcmp p1 0) == some .eq)), none⟩, ⟨2, .no, some (B true)⟩, ⟨4, .bin (B ((fcmp p2 0) == some .eq)), none⟩, ⟨6, .br false, none⟩, ⟨9, .bin (B ((fcmp p1 p2) == some .eq)), none⟩]) (rh := []) (ph := .raw) (ps := [BinS Tryz.prog .eql 75 (FK p1) (FK 0) (B ((fcmp p1 0) == some .eq)), (B ((fcmp p1 0) == some .eq)) = (B true), BinS Tryz.prog .eql 75 (FK p2) (FK 0) (B ((fcmp p2 0) == some .eq)), ((fcmp p2 0) == some .eq) = false, BinS Tryz.prog .eql 75 (FK p1) (FK p2) (B ((fcmp p1 p2) == some .eq)), (B ((fcmp p1 p2) == some .eq)) = (B ((fcmp p1 p2) == some .eq)), litA (B ((fcmp p1 p2) == some .eq)) = true]) (by kernel_rfl) ⟨fEql, (litB c11), fEql, c13, fEql, rfl, rfl, trivial⟩
  · have h := Option.some.inj h
    subst h
    exact go_ret hΘ hm hP hn (hs := [⟨1, .bin (B ((fcmp p1 0) == some .eq)), none⟩, ⟨2, .no, some (B false)⟩, ⟨9, .bin (B ((fcmp p1 p2) == some .eq)), none⟩]) (rh := []) (ph := .raw) (ps := [BinS Tryz.prog .eql 75 (FK p1) (FK 0) (B ((fcmp p1 0) == some .eq)), (B ((fcmp p1 0) == some .eq)) = (B false), BinS Tryz.prog .eql 75 (FK p1) (FK p2) (B ((fcmp p1 p2) == some .eq)), (B ((fcmp p1 p2) == some .eq)) = (B ((fcmp p1 p2) == some .eq)), litA (B ((fcmp p1 p2) == some .eq)) = true]) (by kernel_rfl) ⟨fEql, (litB c14), fEql, rfl, rfl, trivial⟩
noncomputable def laws_sameFloat (p1 : Nat) (p2 : Nat) : Option Bool :=
  if ((fcmp p1 p1) != some .eq) = true then
    if ((fcmp p1 p1) != some .eq) = true then
      some ((fcmp p2 p2) != some .eq)
    else
      some false
  else
    if ((fcmp p2 p2) != some .eq) = true then
      if ((fcmp p1 p1) != some .eq) = true then
        some ((fcmp p2 p2) != some .eq)
      else
        some false
    else
      laws_sameFloat_j0 p1 p2
theorem laws_sameFloat_m {p1 : Nat} {p2 : Nat} {r : Bool} (h : laws_sameFloat p1 p2 = some r) : Meets Tryz.prog 104 [(FK p1), (FK p2)] (B r) := by
  refine meets_ofC Θ_ok Tryz.func104 rfl (c := body104) (by kernel_rfl) (Nat.le_of_ble_eq_true rfl) ?_
  intro E hP hn hx
  replace hn : E.n = 37 := hn
  have hm : E.P.follows .mixedOrders = true := by rw [hP]; exact mixed
  have hΘ : TOK E.P Θ := by rw [hP]; exact Θ_ok
  unfold laws_sameFloat at h
  show WAt E body104 (FQ (RetE Θ Tryz.f104.results.toList [] [] (B r) E)) [] ⟨[(0, (FK p1)), (1, (FK p2))], [], [JJ]⟩
  rcases itS h with ⟨c3, h⟩ | ⟨c6, h⟩
  · rcases itS h with ⟨c4, h⟩ | ⟨c5, h⟩
    · have h := Option.some.inj h
      subst h
      exact go_ret hΘ hm hP hn (hs := [⟨3, .bin (B ((fcmp p1 p1) != some .eq)), none⟩, ⟨4, .no, some (B true)⟩, ⟨12, .bin (B ((fcmp p1 p1) != some .eq)), none⟩, ⟨13, .no, some (B true)⟩, ⟨16, .bin (B ((fcmp p2 p2) != some .eq)), none⟩]) (rh := []) (ph := .raw) (ps := [BinS Tryz.prog .neq 75 (FK p1) (FK p1) (B ((fcmp p1 p1) != some .eq)), (B ((fcmp p1 p1) != some .eq)) = (B true), BinS Tryz.prog .neq 75 (FK p1) (FK p1) (B ((fcmp p1 p1) != some .eq)), (B ((fcmp p1 p1) != some .eq)) = (B true), BinS Tryz.prog .neq 75 (FK p2) (FK p2) (B ((fcmp p2 p2) != some .eq)), (B ((fcmp p2 p2) != some .eq)) = (B ((fcmp p2 p2) != some .eq)), litA (B ((fcmp p2 p2) != some .eq)) = true]) (by kernel_rfl) ⟨fNeq, (litB c3), fNeq, (litB c4), fNeq, rfl, rfl, trivial⟩
    · have h := Option.some.inj h
      subst h
      exact go_ret hΘ hm hP hn (hs := [⟨3, .bin (B ((fcmp p1 p1) != some .eq)), none⟩, ⟨4, .no, some (B true)⟩, ⟨12, .bin (B ((fcmp p1 p1) != some .eq)), none⟩, ⟨13, .no, some (B false)⟩]) (rh := []) (ph := .raw) (ps := [BinS Tryz.prog .neq 75 (FK p1) (FK p1) (B ((fcmp p1 p1) != some .eq)), (B ((fcmp p1 p1) != some .eq)) = (B true), BinS Tryz.prog .neq 75 (FK p1) (FK p1) (B ((fcmp p1 p1) != some .eq)), (B ((fcmp p1 p1) != some .eq)) = (B false), (B false) = (B false), litA (B false) = true]) (by kernel_rfl) ⟨fNeq, (litB c3), fNeq, (litB c5), rfl, rfl, trivial⟩
  · rcases itS h with ⟨c7, h⟩ | ⟨c10, h⟩
    · rcases itS h with ⟨c8, h⟩ | ⟨c9, h⟩
      · have h := Option.some.inj h
        subst h
        exact go_ret hΘ hm hP hn (hs := [⟨3, .bin (B ((fcmp p1 p1) != some .eq)), none⟩, ⟨4, .no, some (B false)⟩, ⟨7, .bin (B ((fcmp p2 p2) != some .eq)), none⟩, ⟨9, .br true, none⟩, ⟨12, .bin (B ((fcmp p1 p1) != some .eq)), none⟩, ⟨13, .no, some (B true)⟩, ⟨16, .bin (B ((fcmp p2 p2) != some .eq)), none⟩]) (rh := []) (ph := .raw) (ps := [BinS Tryz.prog .neq 75 (FK p1) (FK p1) (B ((fcmp p1 p1) != some .eq)), (B ((fcmp p1 p1) != some .eq)) = (B false), BinS Tryz.prog .neq 75 (FK p2) (FK p2) (B ((fcmp p2 p2) != some .eq)), ((fcmp p2 p2) != some .eq) = true, BinS Tryz.prog .neq 75 (FK p1) (FK p1) (B ((fcmp p1 p1) != some .eq)), (B ((fcmp p1 p1) != some .eq)) = (B true), BinS Tryz.prog .neq 75 (FK p2) (FK p2) (B ((fcmp p2 p2) != some .eq)), (B ((fcmp p2 p2) != some .eq)) = (B ((fcmp p2 p2) != some .eq)), litA (B ((fcmp p2 p2) != some .eq)) = true]) (by kernel_rfl) ⟨fNeq, (litB c6), fNeq, c7, fNeq, (litB c8), fNeq, rfl, rfl, trivial⟩
      · have h := Option.some.inj h
        subst h
        exact go_ret hΘ hm hP hn (hs := [⟨3, .bin (B ((fcmp p1 p1) != some .eq)), none⟩, ⟨4, .no, some (B false)⟩, ⟨7, .bin (B ((fcmp p2 p2) != some .eq)), none⟩, ⟨9, .br true, none⟩, ⟨12, .bin (B ((fcmp p1 p1) != some .eq)), none⟩, ⟨13, .no, some (B false)⟩]) (rh := []) (ph := .raw) (ps := [BinS Tryz.prog .neq 75 (FK p1) (FK p1) (B ((fcmp p1 p1) != some .eq)), (B ((fcmp p1 p1) != some .eq)) = (B false), BinS Tryz.prog .neq 75 (FK p2) (FK p2) (B ((fcmp p2 p2) != some .eq)), ((fcmp p2 p2) != some .eq) = true, BinS Tryz.prog .neq 75 (FK p1) (FK p1) (B ((fcmp p1 p1) != some .eq)), (B ((fcmp p1 p1) != some .eq)) = (B false), (B false) = (B false), litA (B false) = true]) (by kernel_rfl) ⟨fNeq, (litB c6), fNeq, c7, fNeq, (litB c9), rfl, rfl, trivial⟩
    · exact go_to hΘ hm hx hP hn (hs := [⟨3, .bin (B ((fcmp p1 p1) != some .eq)), none⟩, ⟨4, .no, some (B false)⟩, ⟨7, .bin (B ((fcmp p2 p2) != some .eq)), none⟩, ⟨9, .br false, none⟩]) (π := []) (ts := [0, 1]) (kp := []) (ps := [BinS Tryz.prog .neq 75 (FK p1) (FK p1) (B ((fcmp p1 p1) != some .eq)), (B ((fcmp p1 p1) != some .eq)) = (B false), BinS Tryz.prog .neq 75 (FK p2) (FK p2) (B ((fcmp p2 p2) != some .eq)), ((fcmp p2 p2) != some .eq) = false]) (by kernel_rfl) ⟨fNeq, (litB c6), fNeq, c10, trivial⟩ (laws_sameFloat_j0_m hP hn hx p1 p2  _ h)
noncomputable def body88 : Code := match Tryz.f88.body with | some c => c | none => .skip
noncomputable def laws_eqOp (p1 : GOp) (p2 : GOp) : Option Bool :=
  if (p1.Code != p2.Code) = true then
    some false
  else
    if (p1.A != p2.A) = true then
      some false
    else
      if (p1.B != p2.B) = true then
        some false
      else
        Option.bind (laws_sameFloat p1.V p2.V) fun r9 =>
        if (!r9) = true then
          some false
        else
          some true
theorem laws_eqOp_m {p1 : GOp} {p2 : GOp} {r : Bool} (h : laws_eqOp p1 p2 = some r) : Meets Tryz.prog 88 [(AV.agg ((o77 p1))), (AV.agg ((o77 p2)))] (B r) := by
  refine meets_ofC Θ_ok Tryz.func88 rfl (c := body88) (by kernel_rfl) (Nat.le_of_ble_eq_true rfl) ?_
  intro E hP hn hx
  replace hn : E.n = 26 := hn
  have hm : E.P.follows .mixedOrders = true := by rw [hP]; exact mixed
  have hΘ : TOK E.P Θ := by rw [hP]; exact Θ_ok
  unfold laws_eqOp at h
  show WAt E body88 (FQ (RetE Θ Tryz.f88.results.toList [] [] (B r) E)) [] ⟨[(0, (AV.agg ((o77 p1)))), (1, (AV.agg ((o77 p2))))], [], [JJ]⟩
  rcases itS h with ⟨c3, h⟩ | ⟨c4, h⟩
  · have h := Option.some.inj h
    subst h
    exact go_ret hΘ hm hP hn (hs := [⟨0, .new 1001, none⟩, ⟨1, .new 1002, none⟩, ⟨8, .br true, none⟩]) (rh := []) (ph := .raw) (ps := [(p1.Code != p2.Code) = true, (B false) = (B false), litA (B false) = true]) (by kernel_rfl) ⟨c3, rfl, rfl, trivial⟩
  · rcases itS h with ⟨c5, h⟩ | ⟨c6, h⟩
    · have h := Option.some.inj h
      subst h
      exact go_ret hΘ hm hP hn (hs := [⟨0, .new 1001, none⟩, ⟨1, .new 1002, none⟩, ⟨8, .br false, none⟩, ⟨14, .br true, none⟩]) (rh := []) (ph := .raw) (ps := [(p1.Code != p2.Code) = false, (p1.A != p2.A) = true, (B false) = (B false), litA (B false) = true]) (by kernel_rfl) ⟨c4, c5, rfl, rfl, trivial⟩
    · rcases itS h with ⟨c7, h⟩ | ⟨c8, h⟩
      · have h := Option.some.inj h
        subst h
        exact go_ret hΘ hm hP hn (hs := [⟨0, .new 1001, none⟩, ⟨1, .new 1002, none⟩, ⟨8, .br false, none⟩, ⟨14, .br false, none⟩, ⟨20, .br true, none⟩]) (rh := []) (ph := .raw) (ps := [(p1.Code != p2.Code) = false, (p1.A != p2.A) = false, (p1.B != p2.B) = true, (B false) = (B false), litA (B false) = true]) (by kernel_rfl) ⟨c4, c6, c7, rfl, rfl, trivial⟩
      · obtain ⟨r9, hr9, h⟩ := bnS h
        rcases itS h with ⟨c10, h⟩ | ⟨c11, h⟩
        · have h := Option.some.inj h
          subst h
          exact go_ret hΘ hm hP hn (hs := [⟨0, .new 1001, none⟩, ⟨1, .new 1002, none⟩, ⟨8, .br false, none⟩, ⟨14, .br false, none⟩, ⟨20, .br false, none⟩, ⟨25, .callV [] (B r9), none⟩, ⟨27, .br true, none⟩]) (rh := []) (ph := .raw) (ps := [(p1.Code != p2.Code) = false, (p1.A != p2.A) = false, (p1.B != p2.B) = false, Meets Tryz.prog 104 [(FK p1.V), (FK p2.V)] (B r9), litA (B r9) = true, (!r9) = true, (B false) = (B false), litA (B false) = true]) (by kernel_rfl) ⟨c4, c6, c8, (laws_sameFloat_m hr9), rfl, c10, rfl, rfl, trivial⟩
        · have h := Option.some.inj h
          subst h
          exact go_ret hΘ hm hP hn (hs := [⟨0, .new 1001, none⟩, ⟨1, .new 1002, none⟩, ⟨8, .br false, none⟩, ⟨14, .br false, none⟩, ⟨20, .br false, none⟩, ⟨25, .callV [] (B r9), none⟩, ⟨27, .br false, none⟩]) (rh := []) (ph := .raw) (ps := [(p1.Code != p2.Code) = false, (p1.A != p2.A) = false, (p1.B != p2.B) = false, Meets Tryz.prog 104 [(FK p1.V), (FK p2.V)] (B r9), litA (B r9) = true, (!r9) = false, (B true) = (B true), litA (B true) = true]) (by kernel_rfl) ⟨c4, c6, c8, (laws_sameFloat_m hr9), rfl, c11, rfl, rfl, trivial⟩
noncomputable def body78 : Code := match Tryz.f78.body with | some c => c | none => .skip
noncomputable def laws_eqOpS_l0  (p1 : (List GOp)) (p2 : (List GOp)) : Nat → Int → Option Bool
  | 0, _ => none
  | n + 1, v5 =>
  if (decide (v5 < (p1.length : Int))) = true then
    Option.bind (rd p1 v5) fun x7 =>
    Option.bind (rd p2 v5) fun x8 =>
    Option.bind (laws_eqOp x7 x8) fun r9 =>
    if (!r9) = true then
      some false
    else
      laws_eqOpS_l0 p1 p2 n (w64 (v5 + 1))
  else
    some true
theorem laws_eqOpS_l0_m {E : Env} (hP : E.P = Tryz.prog) (hn : E.n = 27) (hx : ∀ p, p ∈ E.fx → p.1 ∈ ([] : List Nat)) (p1 : (List GOp)) (p2 : (List GOp))  : ∀ (n : Nat) (v5 : Int) (r : Bool), laws_eqOpS_l0 p1 p2 n v5 = some r → WAt E body78 (FQ (RetE Θ Tryz.f78.results.toList [] [] (B r) E)) [true, true, false, true, false] ⟨[(0, (AV.ro 4 (p1.map o77))), (1, (AV.ro 4 (p2.map o77))), (5, (I v5))], [], [JJ]⟩ := by
  have hm : E.P.follows .mixedOrders = true := by rw [hP]; exact mixed
  have hΘ : TOK E.P Θ := by rw [hP]; exact Θ_ok
  intro n
  induction n with
  | zero => intro v5 r h; simp only [laws_eqOpS_l0] at h; cases h
  | succ n ih =>
    intro v5 r h
    simp only [laws_eqOpS_l0] at h
    rcases itS h with ⟨c6, h⟩ | ⟨c12, h⟩
    · obtain ⟨x7, hx7, h⟩ := bnS h
      obtain ⟨x8, hx8, h⟩ := bnS h
      obtain ⟨r9, hr9, h⟩ := bnS h
      rcases itS h with ⟨c10, h⟩ | ⟨c11, h⟩
      · have h := Option.some.inj h
        subst h
        exact go_ret hΘ hm hP hn (hs := [⟨2, .no, some (I (p1.length : Int))⟩, ⟨4, .br true, none⟩, ⟨7, .row (o77 x7), none⟩, ⟨11, .row (o77 x8), none⟩, ⟨13, .callV [[], []] (B r9), none⟩, ⟨15, .br true, none⟩]) (rh := []) (ph := .raw) (ps := [AV.lit (.int .i64 (((p1.map o77).length : Nat) : Int)) = (I (p1.length : Int)), (decide (v5 < (p1.length : Int))) = true, (0 : Int) ≤ v5, (p1.map o77)[(Int.toNat v5)]? = some (o77 x7), (0 : Int) ≤ v5, (p2.map o77)[(Int.toNat v5)]? = some (o77 x8), Meets Tryz.prog 88 [(AV.agg ((o77 x7))), (AV.agg ((o77 x8)))] (B r9), litA (B r9) = true, (!r9) = true, (B false) = (B false), litA (B false) = true]) (by kernel_rfl) ⟨(lenM o77), c6, (rd0 hx7), (rdM o77 hx7), (rd0 hx8), (rdM o77 hx8), (laws_eqOp_m hr9), rfl, c10, rfl, rfl, trivial⟩
      · exact go_to hΘ hm hx hP hn (hs := [⟨2, .no, some (I (p1.length : Int))⟩, ⟨4, .br true, none⟩, ⟨7, .row (o77 x7), none⟩, ⟨11, .row (o77 x8), none⟩, ⟨13, .callV [[], []] (B r9), none⟩, ⟨15, .br false, none⟩]) (π := []) (ts := [0, 1, 5]) (kp := []) (ps := [AV.lit (.int .i64 (((p1.map o77).length : Nat) : Int)) = (I (p1.length : Int)), (decide (v5 < (p1.length : Int))) = true, (0 : Int) ≤ v5, (p1.map o77)[(Int.toNat v5)]? = some (o77 x7), (0 : Int) ≤ v5, (p2.map o77)[(Int.toNat v5)]? = some (o77 x8), Meets Tryz.prog 88 [(AV.agg ((o77 x7))), (AV.agg ((o77 x8)))] (B r9), litA (B r9) = true, (!r9) = false]) (by kernel_rfl) ⟨(lenM o77), c6, (rd0 hx7), (rdM o77 hx7), (rd0 hx8), (rdM o77 hx8), (laws_eqOp_m hr9), rfl, c11, trivial⟩ (ih (w64 (v5 + 1)) _ h)
    · have h := Option.some.inj h
      subst h
      exact go_ret hΘ hm hP hn (hs := [⟨2, .no, some (I (p1.length : Int))⟩, ⟨4, .br false, none⟩]) (rh := []) (ph := .raw) (ps := [AV.lit (.int .i64 (((p1.map o77).length : Nat) : Int)) = (I (p1.length : Int)), (decide (v5 < (p1.length : Int))) = false, (B true) = (B true), litA (B true) = true]) (by kernel_rfl) ⟨(lenM o77), c12, rfl, rfl, trivial⟩
noncomputable def laws_eqOpS (p1 : (List GOp)) (p2 : (List GOp)) : Option Bool :=
  if ((p1.length : Int) != (p2.length : Int)) = true then
    some false
  else
    laws_eqOpS_l0 p1 p2 FU 0
theorem laws_eqOpS_m {p1 : (List GOp)} {p2 : (List GOp)} {r : Bool} (h : laws_eqOpS p1 p2 = some r) : Meets Tryz.prog 78 [(AV.ro 4 (p1.map o77)), (AV.ro 4 (p2.map o77))] (B r) := by
  refine meets_ofC Θ_ok Tryz.func78 rfl (c := body78) (by kernel_rfl) (Nat.le_of_ble_eq_true rfl) ?_
  intro E hP hn hx
  replace hn : E.n = 27 := hn
  have hm : E.P.follows .mixedOrders = true := by rw [hP]; exact mixed
  have hΘ : TOK E.P Θ := by rw [hP]; exact Θ_ok
  unfold laws_eqOpS at h
  show WAt E body78 (FQ (RetE Θ Tryz.f78.results.toList [] [] (B r) E)) [] ⟨[(0, (AV.ro 4 (p1.map o77))), (1, (AV.ro 4 (p2.map o77)))], [], [JJ]⟩
  rcases itS h with ⟨c3, h⟩ | ⟨c4, h⟩
  · have h := Option.some.inj h
    subst h
    exact go_ret hΘ hm hP hn (hs := [⟨2, .no, some (I (p1.length : Int))⟩, ⟨4, .no, some (I (p2.length : Int))⟩, ⟨6, .br true, none⟩]) (rh := []) (ph := .raw) (ps := [AV.lit (.int .i64 (((p1.map o77).length : Nat) : Int)) = (I (p1.length : Int)), AV.lit (.int .i64 (((p2.map o77).length : Nat) : Int)) = (I (p2.length : Int)), ((p1.length : Int) != (p2.length : Int)) = true, (B false) = (B false), litA (B false) = true]) (by kernel_rfl) ⟨(lenM o77), (lenM o77), c3, rfl, rfl, trivial⟩
  · exact go_to hΘ hm hx hP hn (hs := [⟨2, .no, some (I (p1.length : Int))⟩, ⟨4, .no, some (I (p2.length : Int))⟩, ⟨6, .br false, none⟩]) (π := []) (ts := [0, 1, 5]) (kp := []) (ps := [AV.lit (.int .i64 (((p1.map o77).length : Nat) : Int)) = (I (p1.length : Int)), AV.lit (.int .i64 (((p2.map o77).length : Nat) : Int)) = (I (p2.length : Int)), ((p1.length : Int) != (p2.length : Int)) = false]) (by kernel_rfl) ⟨(lenM o77), (lenM o77), c4, trivial⟩ (laws_eqOpS_l0_m hP hn hx p1 p2 FU 0 _ h)
noncomputable def body61 : Code := match Tryz.f61.body with | some c => c | none => .skip
noncomputable def laws_eqOpSS_l0  (p1 : (List (List GOp))) (p2 : (List (List GOp))) : Nat → Int → Option Bool
  | 0, _ => none
  | n + 1, v5 =>
  if (decide (v5 < (p1.length : Int))) = true then
    Option.bind (rd p1 v5) fun x7 =>
    Option.bind (rd p2 v5) fun x8 =>
    Option.bind (laws_eqOpS x7 x8) fun r9 =>
    if (!r9) = true then
      some false
    else
      laws_eqOpSS_l0 p1 p2 n (w64 (v5 + 1))
  else
    some true
theorem laws_eqOpSS_l0_m {E : Env} (hP : E.P = Tryz.prog) (hn : E.n = 27) (hx : ∀ p, p ∈ E.fx → p.1 ∈ ([] : List Nat)) (p1 : (List (List GOp))) (p2 : (List (List GOp)))  : ∀ (n : Nat) (v5 : Int) (r : Bool), laws_eqOpSS_l0 p1 p2 n v5 = some r → WAt E body61 (FQ (RetE Θ Tryz.f61.results.toList [] [] (B r) E)) [true, true, false, true, false] ⟨[(0, (AV.ro 1 (p1.map r74))), (1, (AV.ro 1 (p2.map r74))), (5, (I v5))], [], [JJ]⟩ := by
  have hm : E.P.follows .mixedOrders = true := by rw [hP]; exact mixed
  have hΘ : TOK E.P Θ := by rw [hP]; exact Θ_ok
  intro n
  induction n with
  | zero => intro v5 r h; simp only [laws_eqOpSS_l0] at h; cases h
  | succ n ih =>
    intro v5 r h
    simp only [laws_eqOpSS_l0] at h
    rcases itS h with ⟨c6, h⟩ | ⟨c12, h⟩
    · obtain ⟨x7, hx7, h⟩ := bnS h
      obtain ⟨x8, hx8, h⟩ := bnS h
      obtain ⟨r9, hr9, h⟩ := bnS h
      rcases itS h with ⟨c10, h⟩ | ⟨c11, h⟩
      · have h := Option.some.inj h
        subst h
        exact go_ret hΘ hm hP hn (hs := [⟨2, .no, some (I (p1.length : Int))⟩, ⟨4, .br true, none⟩, ⟨7, .row (r74 x7), none⟩, ⟨11, .row (r74 x8), none⟩, ⟨13, .callV [] (B r9), none⟩, ⟨15, .br true, none⟩]) (rh := []) (ph := .raw) (ps := [AV.lit (.int .i64 (((p1.map r74).length : Nat) : Int)) = (I (p1.length : Int)), (decide (v5 < (p1.length : Int))) = true, (0 : Int) ≤ v5, (p1.map r74)[(Int.toNat v5)]? = some (r74 x7), (0 : Int) ≤ v5, (p2.map r74)[(Int.toNat v5)]? = some (r74 x8), Meets Tryz.prog 78 [(AV.ro 4 (x7.map o77)), (AV.ro 4 (x8.map o77))] (B r9), litA (B r9) = true, (!r9) = true, (B false) = (B false), litA (B false) = true]) (by kernel_rfl) ⟨(lenM r74), c6, (rd0 hx7), (rdM r74 hx7), (rd0 hx8), (rdM r74 hx8), (laws_eqOpS_m hr9), rfl, c10, rfl, rfl, trivial⟩
      · exact go_to hΘ hm hx hP hn (hs := [⟨2, .no, some (I (p1.length : Int))⟩, ⟨4, .br true, none⟩, ⟨7, .row (r74 x7), none⟩, ⟨11, .row (r74 x8), none⟩, ⟨13, .callV [] (B r9), none⟩, ⟨15, .br false, none⟩]) (π := []) (ts := [0, 1, 5]) (kp := []) (ps := [AV.lit (.int .i64 (((p1.map r74).length : Nat) : Int)) = (I (p1.length : Int)), (decide (v5 < (p1.length : Int))) = true, (0 : Int) ≤ v5, (p1.map r74)[(Int.toNat v5)]? = some (r74 x7), (0 : Int) ≤ v5, (p2.map r74)[(Int.toNat v5)]? = some (r74 x8), Meets Tryz.prog 78 [(AV.ro 4 (x7.map o77)), (AV.ro 4 (x8.map o77))] (B r9), litA (B r9) = true, (!r9) = false]) (by kernel_rfl) ⟨(lenM r74), c6, (rd0 hx7), (rdM r74 hx7), (rd0 hx8), (rdM r74 hx8), (laws_eqOpS_m hr9), rfl, c11, trivial⟩ (ih (w64 (v5 + 1)) _ h)
    · have h := Option.some.inj h
      subst h
      exact go_ret hΘ hm hP hn (hs := [⟨2, .no, some (I (p1.length : Int))⟩, ⟨4, .br false, none⟩]) (rh := []) (ph := .raw) (ps := [AV.lit (.int .i64 (((p1.map r74).length : Nat) : Int)) = (I (p1.length : Int)), (decide (v5 < (p1.length : Int))) = false, (B true) = (B true), litA (B true) = true]) (by kernel_rfl) ⟨(lenM r74), c12, rfl, rfl, trivial⟩
noncomputable def laws_eqOpSS (p1 : (List (List GOp))) (p2 : (List (List GOp))) : Option Bool :=
  if ((p1.length : Int) != (p2.length : Int)) = true then
    some false
  else
    laws_eqOpSS_l0 p1 p2 FU 0
theorem laws_eqOpSS_m {p1 : (List (List GOp))} {p2 : (List (List GOp))} {r : Bool} (h : laws_eqOpSS p1 p2 = some r) : Meets Tryz.prog 61 [(AV.ro 1 (p1.map r74)), (AV.ro 1 (p2.map r74))] (B r) := by
  refine meets_ofC Θ_ok Tryz.func61 rfl (c := body61) (by kernel_rfl) (Nat.le_of_ble_eq_true rfl) ?_
  intro E hP hn hx
  replace hn : E.n = 27 := hn
  have hm : E.P.follows .mixedOrders = true := by rw [hP]; exact mixed
  have hΘ : TOK E.P Θ := by rw [hP]; exact Θ_ok
  unfold laws_eqOpSS at h
  show WAt E body61 (FQ (RetE Θ Tryz.f61.results.toList [] [] (B r) E)) [] ⟨[(0, (AV.ro 1 (p1.map r74))), (1, (AV.ro 1 (p2.map r74)))], [], [JJ]⟩
  rcases itS h with ⟨c3, h⟩ | ⟨c4, h⟩
  · have h := Option.some.inj h
    subst h
    exact go_ret hΘ hm hP hn (hs := [⟨2, .no, some (I (p1.length : Int))⟩, ⟨4, .no, some (I (p2.length : Int))⟩, ⟨6, .br true, none⟩]) (rh := []) (ph := .raw) (ps := [AV.lit (.int .i64 (((p1.map r74).length : Nat) : Int)) = (I (p1.length : Int)), AV.lit (.int .i64 (((p2.map r74).length : Nat) : Int)) = (I (p2.length : Int)), ((p1.length : Int) != (p2.length : Int)) = true, (B false) = (B false), litA (B false) = true]) (by kernel_rfl) ⟨(lenM r74), (lenM r74), c3, rfl, rfl, trivial⟩
  · exact go_to hΘ hm hx hP hn (hs := [⟨2, .no, some (I (p1.length : Int))⟩, ⟨4, .no, some (I (p2.length : Int))⟩, ⟨6, .br false, none⟩]) (π := []) (ts := [0, 1, 5]) (kp := []) (ps := [AV.lit (.int .i64 (((p1.map r74).length : Nat) : Int)) = (I (p1.length : Int)), AV.lit (.int .i64 (((p2.map r74).length : Nat) : Int)) = (I (p2.length : Int)), ((p1.length : Int) != (p2.length : Int)) = false]) (by kernel_rfl) ⟨(lenM r74), (lenM r74), c4, trivial⟩ (laws_eqOpSS_l0_m hP hn hx p1 p2 FU 0 _ h)
noncomputable def body30 : Code := match Tryz.f30.body with | some c => c | none => .skip
noncomputable def laws_eqProg (p1 : GProg) (p2 : GProg) : Option Bool :=
  if (p1.Cells != p2.Cells) = true then
    some false
  else
    if (p1.Locks != p2.Locks) = true then
      some false
    else
      if (p1.Conds != p2.Conds) = true then
        some false
      else
        Option.bind (laws_eqOpSS p1.Routines p2.Routines) fun r9 =>
        if (!r9) = true then
          some false
        else
          some true
theorem laws_eqProg_m {p1 : GProg} {p2 : GProg} {r : Bool} (h : laws_eqProg p1 p2 = some r) : Meets Tryz.prog 30 [(AV.agg ((r34 p1))), (AV.agg ((r34 p2)))] (B r) := by
  refine meets_ofC Θ_ok Tryz.func30 rfl (c := body30) (by kernel_rfl) (Nat.le_of_ble_eq_true rfl) ?_
  intro E hP hn hx
  replace hn : E.n = 26 := hn
  have hm : E.P.follows .mixedOrders = true := by rw [hP]; exact mixed
  have hΘ : TOK E.P Θ := by rw [hP]; exact Θ_ok
  unfold laws_eqProg at h
  show WAt E body30 (FQ (RetE Θ Tryz.f30.results.toList [] [] (B r) E)) [] ⟨[(0, (AV.agg ((r34 p1)))), (1, (AV.agg ((r34 p2))))], [], [JJ]⟩
  rcases itS h with ⟨c3, h⟩ | ⟨c4, h⟩
  · have h := Option.some.inj h
    subst h
    exact go_ret hΘ hm hP hn (hs := [⟨0, .new 1001, none⟩, ⟨1, .new 1002, none⟩, ⟨8, .br true, none⟩]) (rh := []) (ph := .raw) (ps := [(p1.Cells != p2.Cells) = true, (B false) = (B false), litA (B false) = true]) (by kernel_rfl) ⟨c3, rfl, rfl, trivial⟩
  · rcases itS h with ⟨c5, h⟩ | ⟨c6, h⟩
    · have h := Option.some.inj h
      subst h
      exact go_ret hΘ hm hP hn (hs := [⟨0, .new 1001, none⟩, ⟨1, .new 1002, none⟩, ⟨8, .br false, none⟩, ⟨14, .br true, none⟩]) (rh := []) (ph := .raw) (ps := [(p1.Cells != p2.Cells) = false, (p1.Locks != p2.Locks) = true, (B false) = (B false), litA (B false) = true]) (by kernel_rfl) ⟨c4, c5, rfl, rfl, trivial⟩
    · rcases itS h with ⟨c7, h⟩ | ⟨c8, h⟩
      · have h := Option.some.inj h
        subst h
        exact go_ret hΘ hm hP hn (hs := [⟨0, .new 1001, none⟩, ⟨1, .new 1002, none⟩, ⟨8, .br false, none⟩, ⟨14, .br false, none⟩, ⟨20, .br true, none⟩]) (rh := []) (ph := .raw) (ps := [(p1.Cells != p2.Cells) = false, (p1.Locks != p2.Locks) = false, (p1.Conds != p2.Conds) = true, (B false) = (B false), litA (B false) = true]) (by kernel_rfl) ⟨c4, c6, c7, rfl, rfl, trivial⟩
      · obtain ⟨r9, hr9, h⟩ := bnS h
        rcases itS h with ⟨c10, h⟩ | ⟨c11, h⟩
        · have h := Option.some.inj h
          subst h
          exact go_ret hΘ hm hP hn (hs := [⟨0, .new 1001, none⟩, ⟨1, .new 1002, none⟩, ⟨8, .br false, none⟩, ⟨14, .br false, none⟩, ⟨20, .br false, none⟩, ⟨25, .callV [] (B r9), none⟩, ⟨27, .br true, none⟩]) (rh := []) (ph := .raw) (ps := [(p1.Cells != p2.Cells) = false, (p1.Locks != p2.Locks) = false, (p1.Conds != p2.Conds) = false, Meets Tryz.prog 61 [(AV.ro 1 (p1.Routines.map r74)), (AV.ro 1 (p2.Routines.map r74))] (B r9), litA (B r9) = true, (!r9) = true, (B false) = (B false), litA (B false) = true]) (by kernel_rfl) ⟨c4, c6, c8, (laws_eqOpSS_m hr9), rfl, c10, rfl, rfl, trivial⟩
        · have h := Option.some.inj h
          subst h
          exact go_ret hΘ hm hP hn (hs := [⟨0, .new 1001, none⟩, ⟨1, .new 1002, none⟩, ⟨8, .br false, none⟩, ⟨14, .br false, none⟩, ⟨20, .br false, none⟩, ⟨25, .callV [] (B r9), none⟩, ⟨27, .br false, none⟩]) (rh := []) (ph := .raw) (ps := [(p1.Cells != p2.Cells) = false, (p1.Locks != p2.Locks) = false, (p1.Conds != p2.Conds) = false, Meets Tryz.prog 61 [(AV.ro 1 (p1.Routines.map r74)), (AV.ro 1 (p2.Routines.map r74))] (B r9), litA (B r9) = true, (!r9) = false, (B true) = (B true), litA (B true) = true]) (by kernel_rfl) ⟨c4, c6, c8, (laws_eqOpSS_m hr9), rfl, c11, rfl, rfl, trivial⟩
noncomputable def body8 : Code := match Tryz.f8.body with | some c => c | none => .skip
noncomputable def laws_eqHunt (p1 : GHunt) (p2 : GHunt) : Option Bool :=
  Option.bind (laws_eqProg p1.Prog p2.Prog) fun r3 =>
  if (!r3) = true then
    some false
  else
    Option.bind (laws_eqPctS p1.Kept p2.Kept) fun r6 =>
    if (!r6) = true then
      some false
    else
      Option.bind (laws_eqPairS p1.Covered p2.Covered) fun r9 =>
      if (!r9) = true then
        some false
      else
        Option.bind (laws_eqFoundS p1.Finds p2.Finds) fun r12 =>
        if (!r12) = true then
          some false
        else
          if (p1.Tried != p2.Tried) = true then
            some false
          else
            some true
theorem laws_eqHunt_m {p1 : GHunt} {p2 : GHunt} {r : Bool} (h : laws_eqHunt p1 p2 = some r) : Meets Tryz.prog 8 [(AV.agg ((r39 p1))), (AV.agg ((r39 p2)))] (B r) := by
  refine meets_ofC Θ_ok Tryz.func8 rfl (c := body8) (by kernel_rfl) (Nat.le_of_ble_eq_true rfl) ?_
  intro E hP hn hx
  replace hn : E.n = 34 := hn
  have hm : E.P.follows .mixedOrders = true := by rw [hP]; exact mixed
  have hΘ : TOK E.P Θ := by rw [hP]; exact Θ_ok
  unfold laws_eqHunt at h
  show WAt E body8 (FQ (RetE Θ Tryz.f8.results.toList [] [] (B r) E)) [] ⟨[(0, (AV.agg ((r39 p1)))), (1, (AV.agg ((r39 p2))))], [], [JJ]⟩
  obtain ⟨r3, hr3, h⟩ := bnS h
  rcases itS h with ⟨c4, h⟩ | ⟨c5, h⟩
  · have h := Option.some.inj h
    subst h
    exact go_ret hΘ hm hP hn (hs := [⟨0, .new 1001, none⟩, ⟨1, .new 1002, none⟩, ⟨7, .callV [[], []] (B r3), none⟩, ⟨9, .br true, none⟩]) (rh := []) (ph := .raw) (ps := [Meets Tryz.prog 30 [(AV.agg ((r34 p1.Prog))), (AV.agg ((r34 p2.Prog)))] (B r3), litA (B r3) = true, (!r3) = true, (B false) = (B false), litA (B false) = true]) (by kernel_rfl) ⟨(laws_eqProg_m hr3), rfl, c4, rfl, rfl, trivial⟩
  · obtain ⟨r6, hr6, h⟩ := bnS h
    rcases itS h with ⟨c7, h⟩ | ⟨c8, h⟩
    · have h := Option.some.inj h
      subst h
      exact go_ret hΘ hm hP hn (hs := [⟨0, .new 1001, none⟩, ⟨1, .new 1002, none⟩, ⟨7, .callV [[], []] (B r3), none⟩, ⟨9, .br false, none⟩, ⟨14, .callV [] (B r6), none⟩, ⟨16, .br true, none⟩]) (rh := []) (ph := .raw) (ps := [Meets Tryz.prog 30 [(AV.agg ((r34 p1.Prog))), (AV.agg ((r34 p2.Prog)))] (B r3), litA (B r3) = true, (!r3) = false, Meets Tryz.prog 31 [(AV.ro 2 (p1.Kept.map r49)), (AV.ro 2 (p2.Kept.map r49))] (B r6), litA (B r6) = true, (!r6) = true, (B false) = (B false), litA (B false) = true]) (by kernel_rfl) ⟨(laws_eqProg_m hr3), rfl, c5, (laws_eqPctS_m hr6), rfl, c7, rfl, rfl, trivial⟩
    · obtain ⟨r9, hr9, h⟩ := bnS h
      rcases itS h with ⟨c10, h⟩ | ⟨c11, h⟩
      · have h := Option.some.inj h
        subst h
        exact go_ret hΘ hm hP hn (hs := [⟨0, .new 1001, none⟩, ⟨1, .new 1002, none⟩, ⟨7, .callV [[], []] (B r3), none⟩, ⟨9, .br false, none⟩, ⟨14, .callV [] (B r6), none⟩, ⟨16, .br false, none⟩, ⟨21, .callV [] (B r9), none⟩, ⟨23, .br true, none⟩]) (rh := []) (ph := .raw) (ps := [Meets Tryz.prog 30 [(AV.agg ((r34 p1.Prog))), (AV.agg ((r34 p2.Prog)))] (B r3), litA (B r3) = true, (!r3) = false, Meets Tryz.prog 31 [(AV.ro 2 (p1.Kept.map r49)), (AV.ro 2 (p2.Kept.map r49))] (B r6), litA (B r6) = true, (!r6) = false, Meets Tryz.prog 32 [(AV.ro 3 (p1.Covered.map o80)), (AV.ro 3 (p2.Covered.map o80))] (B r9), litA (B r9) = true, (!r9) = true, (B false) = (B false), litA (B false) = true]) (by kernel_rfl) ⟨(laws_eqProg_m hr3), rfl, c5, (laws_eqPctS_m hr6), rfl, c8, (laws_eqPairS_m hr9), rfl, c10, rfl, rfl, trivial⟩
      · obtain ⟨r12, hr12, h⟩ := bnS h
        rcases itS h with ⟨c13, h⟩ | ⟨c14, h⟩
        · have h := Option.some.inj h
          subst h
          exact go_ret hΘ hm hP hn (hs := [⟨0, .new 1001, none⟩, ⟨1, .new 1002, none⟩, ⟨7, .callV [[], []] (B r3), none⟩, ⟨9, .br false, none⟩, ⟨14, .callV [] (B r6), none⟩, ⟨16, .br false, none⟩, ⟨21, .callV [] (B r9), none⟩, ⟨23, .br false, none⟩, ⟨28, .callV [] (B r12), none⟩, ⟨30, .br true, none⟩]) (rh := []) (ph := .raw) (ps := [Meets Tryz.prog 30 [(AV.agg ((r34 p1.Prog))), (AV.agg ((r34 p2.Prog)))] (B r3), litA (B r3) = true, (!r3) = false, Meets Tryz.prog 31 [(AV.ro 2 (p1.Kept.map r49)), (AV.ro 2 (p2.Kept.map r49))] (B r6), litA (B r6) = true, (!r6) = false, Meets Tryz.prog 32 [(AV.ro 3 (p1.Covered.map o80)), (AV.ro 3 (p2.Covered.map o80))] (B r9), litA (B r9) = true, (!r9) = false, Meets Tryz.prog 33 [(AV.ro 2 (p1.Finds.map r61)), (AV.ro 2 (p2.Finds.map r61))] (B r12), litA (B r12) = true, (!r12) = true, (B false) = (B false), litA (B false) = true]) (by kernel_rfl) ⟨(laws_eqProg_m hr3), rfl, c5, (laws_eqPctS_m hr6), rfl, c8, (laws_eqPairS_m hr9), rfl, c11, (laws_eqFoundS_m hr12), rfl, c13, rfl, rfl, trivial⟩
        · rcases itS h with ⟨c15, h⟩ | ⟨c16, h⟩
          · have h := Option.some.inj h
            subst h
            exact go_ret hΘ hm hP hn (hs := [⟨0, .new 1001, none⟩, ⟨1, .new 1002, none⟩, ⟨7, .callV [[], []] (B r3), none⟩, ⟨9, .br false, none⟩, ⟨14, .callV [] (B r6), none⟩, ⟨16, .br false, none⟩, ⟨21, .callV [] (B r9), none⟩, ⟨23, .br false, none⟩, ⟨28, .callV [] (B r12), none⟩, ⟨30, .br false, none⟩, ⟨36, .br true, none⟩]) (rh := []) (ph := .raw) (ps := [Meets Tryz.prog 30 [(AV.agg ((r34 p1.Prog))), (AV.agg ((r34 p2.Prog)))] (B r3), litA (B r3) = true, (!r3) = false, Meets Tryz.prog 31 [(AV.ro 2 (p1.Kept.map r49)), (AV.ro 2 (p2.Kept.map r49))] (B r6), litA (B r6) = true, (!r6) = false, Meets Tryz.prog 32 [(AV.ro 3 (p1.Covered.map o80)), (AV.ro 3 (p2.Covered.map o80))] (B r9), litA (B r9) = true, (!r9) = false, Meets Tryz.prog 33 [(AV.ro 2 (p1.Finds.map r61)), (AV.ro 2 (p2.Finds.map r61))] (B r12), litA (B r12) = true, (!r12) = false, (p1.Tried != p2.Tried) = true, (B false) = (B false), litA (B false) = true]) (by kernel_rfl) ⟨(laws_eqProg_m hr3), rfl, c5, (laws_eqPctS_m hr6), rfl, c8, (laws_eqPairS_m hr9), rfl, c11, (laws_eqFoundS_m hr12), rfl, c14, c15, rfl, rfl, trivial⟩
          · have h := Option.some.inj h
            subst h
            exact go_ret hΘ hm hP hn (hs := [⟨0, .new 1001, none⟩, ⟨1, .new 1002, none⟩, ⟨7, .callV [[], []] (B r3), none⟩, ⟨9, .br false, none⟩, ⟨14, .callV [] (B r6), none⟩, ⟨16, .br false, none⟩, ⟨21, .callV [] (B r9), none⟩, ⟨23, .br false, none⟩, ⟨28, .callV [] (B r12), none⟩, ⟨30, .br false, none⟩, ⟨36, .br false, none⟩]) (rh := []) (ph := .raw) (ps := [Meets Tryz.prog 30 [(AV.agg ((r34 p1.Prog))), (AV.agg ((r34 p2.Prog)))] (B r3), litA (B r3) = true, (!r3) = false, Meets Tryz.prog 31 [(AV.ro 2 (p1.Kept.map r49)), (AV.ro 2 (p2.Kept.map r49))] (B r6), litA (B r6) = true, (!r6) = false, Meets Tryz.prog 32 [(AV.ro 3 (p1.Covered.map o80)), (AV.ro 3 (p2.Covered.map o80))] (B r9), litA (B r9) = true, (!r9) = false, Meets Tryz.prog 33 [(AV.ro 2 (p1.Finds.map r61)), (AV.ro 2 (p2.Finds.map r61))] (B r12), litA (B r12) = true, (!r12) = false, (p1.Tried != p2.Tried) = false, (B true) = (B true), litA (B true) = true]) (by kernel_rfl) ⟨(laws_eqProg_m hr3), rfl, c5, (laws_eqPctS_m hr6), rfl, c8, (laws_eqPairS_m hr9), rfl, c11, (laws_eqFoundS_m hr12), rfl, c14, c16, rfl, rfl, trivial⟩
noncomputable def body66 : Code := match Tryz.f66.body with | some c => c | none => .skip
noncomputable def laws_szIntS (p1 : (List Int)) (p2 : Int) : Option Int :=
  if (decide ((w64 (p2 - (p1.length : Int))) < 0)) = true then
    some (-1)
  else
    some (w64 (p2 - (p1.length : Int)))
theorem laws_szIntS_m {p1 : (List Int)} {p2 : Int} {r : Int} (h : laws_szIntS p1 p2 = some r) : Meets Tryz.prog 66 [(AV.ro 1 (p1.map o3)), (I p2)] (I r) := by
  refine meets_ofC Θ_ok Tryz.func66 rfl (c := body66) (by kernel_rfl) (Nat.le_of_ble_eq_true rfl) ?_
  intro E hP hn hx
  replace hn : E.n = 12 := hn
  have hm : E.P.follows .mixedOrders = true := by rw [hP]; exact mixed
  have hΘ : TOK E.P Θ := by rw [hP]; exact Θ_ok
  unfold laws_szIntS at h
  show WAt E body66 (FQ (RetE Θ Tryz.f66.results.toList [] [] (I r) E)) [] ⟨[(0, (AV.ro 1 (p1.map o3))), (1, (I p2))], [], [JJ]⟩
  rcases itS h with ⟨c3, h⟩ | ⟨c4, h⟩
  · have h := Option.some.inj h
    subst h
    exact go_ret hΘ hm hP hn (hs := [⟨3, .no, some (I (p1.length : Int))⟩, ⟨8, .br true, none⟩]) (rh := []) (ph := .raw) (ps := [AV.lit (.int .i64 (((p1.map o3).length : Nat) : Int)) = (I (p1.length : Int)), (decide ((w64 (p2 - (p1.length : Int))) < 0)) = true, (I (-1)) = (I (-1)), litA (I (-1)) = true]) (by kernel_rfl) ⟨(lenM o3), c3, rfl, rfl, trivial⟩
  · have h := Option.some.inj h
    subst h
    exact go_ret hΘ hm hP hn (hs := [⟨3, .no, some (I (p1.length : Int))⟩, ⟨8, .br false, none⟩]) (rh := []) (ph := .raw) (ps := [AV.lit (.int .i64 (((p1.map o3).length : Nat) : Int)) = (I (p1.length : Int)), (decide ((w64 (p2 - (p1.length : Int))) < 0)) = false, (I (w64 (p2 - (p1.length : Int)))) = (I (w64 (p2 - (p1.length : Int)))), litA (I (w64 (p2 - (p1.length : Int)))) = true]) (by kernel_rfl) ⟨(lenM o3), c4, rfl, rfl, trivial⟩
noncomputable def body36 : Code := match Tryz.f36.body with | some c => c | none => .skip
noncomputable def laws_szFound (p1 : GFound) (p2 : Int) : Option Int :=
  if (decide ((w64 (p2 - (p1.Sign.length : Int))) < 0)) = true then
    some (-1)
  else
    Option.bind (laws_szIntS p1.Picks (w64 (p2 - (p1.Sign.length : Int)))) fun r5 =>
    if (decide (r5 < 0)) = true then
      some (-1)
    else
      some r5
theorem laws_szFound_m {p1 : GFound} {p2 : Int} {r : Int} (h : laws_szFound p1 p2 = some r) : Meets Tryz.prog 36 [(AV.agg ((r72 p1))), (I p2)] (I r) := by
  refine meets_ofC Θ_ok Tryz.func36 rfl (c := body36) (by kernel_rfl) (Nat.le_of_ble_eq_true rfl) ?_
  intro E hP hn hx
  replace hn : E.n = 19 := hn
  have hm : E.P.follows .mixedOrders = true := by rw [hP]; exact mixed
  have hΘ : TOK E.P Θ := by rw [hP]; exact Θ_ok
  unfold laws_szFound at h
  show WAt E body36 (FQ (RetE Θ Tryz.f36.results.toList [] [] (I r) E)) [] ⟨[(0, (AV.agg ((r72 p1)))), (1, (I p2))], [], [JJ]⟩
  rcases itS h with ⟨c3, h⟩ | ⟨c4, h⟩
  · have h := Option.some.inj h
    subst h
    exact go_ret hΘ hm hP hn (hs := [⟨0, .new 1001, none⟩, ⟨5, .no, some (I (p1.Sign.length : Int))⟩, ⟨10, .br true, none⟩]) (rh := []) (ph := .raw) (ps := [AV.lit (.int .i64 (((sK p1.Sign).size : Nat) : Int)) = (I (p1.Sign.length : Int)), (decide ((w64 (p2 - (p1.Sign.length : Int))) < 0)) = true, (I (-1)) = (I (-1)), litA (I (-1)) = true]) (by kernel_rfl) ⟨rfl, c3, rfl, rfl, trivial⟩
  · obtain ⟨r5, hr5, h⟩ := bnS h
    rcases itS h with ⟨c6, h⟩ | ⟨c7, h⟩
    · have h := Option.some.inj h
      subst h
      exact go_ret hΘ hm hP hn (hs := [⟨0, .new 1001, none⟩, ⟨5, .no, some (I (p1.Sign.length : Int))⟩, ⟨10, .br false, none⟩, ⟨14, .callV [] (I r5), none⟩, ⟨18, .br true, none⟩]) (rh := []) (ph := .raw) (ps := [AV.lit (.int .i64 (((sK p1.Sign).size : Nat) : Int)) = (I (p1.Sign.length : Int)), (decide ((w64 (p2 - (p1.Sign.length : Int))) < 0)) = false, Meets Tryz.prog 66 [(AV.ro 1 (p1.Picks.map o3)), (I (w64 (p2 - (p1.Sign.length : Int))))] (I r5), litA (I r5) = true, (decide (r5 < 0)) = true, (I (-1)) = (I (-1)), litA (I (-1)) = true]) (by kernel_rfl) ⟨rfl, c4, (laws_szIntS_m hr5), rfl, c6, rfl, rfl, trivial⟩
    · have h := Option.some.inj h
      subst h
      exact go_ret hΘ hm hP hn (hs := [⟨0, .new 1001, none⟩, ⟨5, .no, some (I (p1.Sign.length : Int))⟩, ⟨10, .br false, none⟩, ⟨14, .callV [] (I r5), none⟩, ⟨18, .br false, none⟩]) (rh := []) (ph := .raw) (ps := [AV.lit (.int .i64 (((sK p1.Sign).size : Nat) : Int)) = (I (p1.Sign.length : Int)), (decide ((w64 (p2 - (p1.Sign.length : Int))) < 0)) = false, Meets Tryz.prog 66 [(AV.ro 1 (p1.Picks.map o3)), (I (w64 (p2 - (p1.Sign.length : Int))))] (I r5), litA (I r5) = true, (decide (r5 < 0)) = false, (I r5) = (I r5), litA (I r5) = true]) (by kernel_rfl) ⟨rfl, c4, (laws_szIntS_m hr5), rfl, c7, rfl, rfl, trivial⟩
noncomputable def body12 : Code := match Tryz.f12.body with | some c => c | none => .skip
noncomputable def laws_szFoundS_l0  (p1 : (List GFound)) : Nat → Int → Int → Option Int
  | 0, _, _ => none
  | n + 1, v5, v6 =>
  if (decide (v6 < (p1.length : Int))) = true then
    Option.bind (rd p1 v6) fun x8 =>
    Option.bind (laws_szFound x8 v5) fun r9 =>
    if (decide (r9 < 0)) = true then
      some (-1)
    else
      laws_szFoundS_l0 p1 n r9 (w64 (v6 + 1))
  else
    some v5
theorem laws_szFoundS_l0_m {E : Env} (hP : E.P = Tryz.prog) (hn : E.n = 27) (hx : ∀ p, p ∈ E.fx → p.1 ∈ ([] : List Nat)) (p1 : (List GFound))  : ∀ (n : Nat) (v5 : Int) (v6 : Int) (r : Int), laws_szFoundS_l0 p1 n v5 v6 = some r → WAt E body12 (FQ (RetE Θ Tryz.f12.results.toList [] [] (I r) E)) [true, true, true, false, true, false] ⟨[(0, (AV.ro 2 (p1.map r72))), (1, (I v5)), (5, (I v6))], [], [JJ]⟩ := by
  have hm : E.P.follows .mixedOrders = true := by rw [hP]; exact mixed
  have hΘ : TOK E.P Θ := by rw [hP]; exact Θ_ok
  intro n
  induction n with
  | zero => intro v5 v6 r h; simp only [laws_szFoundS_l0] at h; cases h
  | succ n ih =>
    intro v5 v6 r h
    simp only [laws_szFoundS_l0] at h
    rcases itS h with ⟨c7, h⟩ | ⟨c12, h⟩
    · obtain ⟨x8, hx8, h⟩ := bnS h
      obtain ⟨r9, hr9, h⟩ := bnS h
      rcases itS h with ⟨c10, h⟩ | ⟨c11, h⟩
      · have h := Option.some.inj h
        subst h
        exact go_ret hΘ hm hP hn (hs := [⟨2, .no, some (I (p1.length : Int))⟩, ⟨4, .br true, none⟩, ⟨7, .row (r72 x8), none⟩, ⟨10, .callV [[]] (I r9), none⟩, ⟨14, .br true, none⟩]) (rh := []) (ph := .raw) (ps := [AV.lit (.int .i64 (((p1.map r72).length : Nat) : Int)) = (I (p1.length : Int)), (decide (v6 < (p1.length : Int))) = true, (0 : Int) ≤ v6, (p1.map r72)[(Int.toNat v6)]? = some (r72 x8), Meets Tryz.prog 36 [(AV.agg ((r72 x8))), (I v5)] (I r9), litA (I r9) = true, (decide (r9 < 0)) = true, (I (-1)) = (I (-1)), litA (I (-1)) = true]) (by kernel_rfl) ⟨(lenM r72), c7, (rd0 hx8), (rdM r72 hx8), (laws_szFound_m hr9), rfl, c10, rfl, rfl, trivial⟩
      · exact go_to hΘ hm hx hP hn (hs := [⟨2, .no, some (I (p1.length : Int))⟩, ⟨4, .br true, none⟩, ⟨7, .row (r72 x8), none⟩, ⟨10, .callV [[]] (I r9), none⟩, ⟨14, .br false, none⟩]) (π := []) (ts := [0, 1, 5]) (kp := []) (ps := [AV.lit (.int .i64 (((p1.map r72).length : Nat) : Int)) = (I (p1.length : Int)), (decide (v6 < (p1.length : Int))) = true, (0 : Int) ≤ v6, (p1.map r72)[(Int.toNat v6)]? = some (r72 x8), Meets Tryz.prog 36 [(AV.agg ((r72 x8))), (I v5)] (I r9), litA (I r9) = true, (decide (r9 < 0)) = false]) (by kernel_rfl) ⟨(lenM r72), c7, (rd0 hx8), (rdM r72 hx8), (laws_szFound_m hr9), rfl, c11, trivial⟩ (ih r9 (w64 (v6 + 1)) _ h)
    · have h := Option.some.inj h
      subst h
      exact go_ret hΘ hm hP hn (hs := [⟨2, .no, some (I (p1.length : Int))⟩, ⟨4, .br false, none⟩]) (rh := []) (ph := .raw) (ps := [AV.lit (.int .i64 (((p1.map r72).length : Nat) : Int)) = (I (p1.length : Int)), (decide (v6 < (p1.length : Int))) = false, (I v5) = (I v5), litA (I v5) = true]) (by kernel_rfl) ⟨(lenM r72), c12, rfl, rfl, trivial⟩
noncomputable def laws_szFoundS (p1 : (List GFound)) (p2 : Int) : Option Int :=
  if (decide ((w64 (p2 - (p1.length : Int))) < 0)) = true then
    some (-1)
  else
    laws_szFoundS_l0 p1 FU (w64 (p2 - (p1.length : Int))) 0
theorem laws_szFoundS_m {p1 : (List GFound)} {p2 : Int} {r : Int} (h : laws_szFoundS p1 p2 = some r) : Meets Tryz.prog 12 [(AV.ro 2 (p1.map r72)), (I p2)] (I r) := by
  refine meets_ofC Θ_ok Tryz.func12 rfl (c := body12) (by kernel_rfl) (Nat.le_of_ble_eq_true rfl) ?_
  intro E hP hn hx
  replace hn : E.n = 27 := hn
  have hm : E.P.follows .mixedOrders = true := by rw [hP]; exact mixed
  have hΘ : TOK E.P Θ := by rw [hP]; exact Θ_ok
  unfold laws_szFoundS at h
  show WAt E body12 (FQ (RetE Θ Tryz.f12.results.toList [] [] (I r) E)) [] ⟨[(0, (AV.ro 2 (p1.map r72))), (1, (I p2))], [], [JJ]⟩
  rcases itS h with ⟨c3, h⟩ | ⟨c4, h⟩
  · have h := Option.some.inj h
    subst h
    exact go_ret hΘ hm hP hn (hs := [⟨3, .no, some (I (p1.length : Int))⟩, ⟨8, .br true, none⟩]) (rh := []) (ph := .raw) (ps := [AV.lit (.int .i64 (((p1.map r72).length : Nat) : Int)) = (I (p1.length : Int)), (decide ((w64 (p2 - (p1.length : Int))) < 0)) = true, (I (-1)) = (I (-1)), litA (I (-1)) = true]) (by kernel_rfl) ⟨(lenM r72), c3, rfl, rfl, trivial⟩
  · exact go_to hΘ hm hx hP hn (hs := [⟨3, .no, some (I (p1.length : Int))⟩, ⟨8, .br false, none⟩]) (π := []) (ts := [0, 1, 5]) (kp := []) (ps := [AV.lit (.int .i64 (((p1.map r72).length : Nat) : Int)) = (I (p1.length : Int)), (decide ((w64 (p2 - (p1.length : Int))) < 0)) = false]) (by kernel_rfl) ⟨(lenM r72), c4, trivial⟩ (laws_szFoundS_l0_m hP hn hx p1 FU (w64 (p2 - (p1.length : Int))) 0 _ h)
noncomputable def body11 : Code := match Tryz.f11.body with | some c => c | none => .skip
noncomputable def laws_szPairS (p1 : (List GPair)) (p2 : Int) : Option Int :=
  if (decide ((w64 (p2 - (p1.length : Int))) < 0)) = true then
    some (-1)
  else
    some (w64 (p2 - (p1.length : Int)))
theorem laws_szPairS_m {p1 : (List GPair)} {p2 : Int} {r : Int} (h : laws_szPairS p1 p2 = some r) : Meets Tryz.prog 11 [(AV.ro 3 (p1.map o87)), (I p2)] (I r) := by
  refine meets_ofC Θ_ok Tryz.func11 rfl (c := body11) (by kernel_rfl) (Nat.le_of_ble_eq_true rfl) ?_
  intro E hP hn hx
  replace hn : E.n = 12 := hn
  have hm : E.P.follows .mixedOrders = true := by rw [hP]; exact mixed
  have hΘ : TOK E.P Θ := by rw [hP]; exact Θ_ok
  unfold laws_szPairS at h
  show WAt E body11 (FQ (RetE Θ Tryz.f11.results.toList [] [] (I r) E)) [] ⟨[(0, (AV.ro 3 (p1.map o87))), (1, (I p2))], [], [JJ]⟩
  rcases itS h with ⟨c3, h⟩ | ⟨c4, h⟩
  · have h := Option.some.inj h
    subst h
    exact go_ret hΘ hm hP hn (hs := [⟨3, .no, some (I (p1.length : Int))⟩, ⟨8, .br true, none⟩]) (rh := []) (ph := .raw) (ps := [AV.lit (.int .i64 (((p1.map o87).length : Nat) : Int)) = (I (p1.length : Int)), (decide ((w64 (p2 - (p1.length : Int))) < 0)) = true, (I (-1)) = (I (-1)), litA (I (-1)) = true]) (by kernel_rfl) ⟨(lenM o87), c3, rfl, rfl, trivial⟩
  · have h := Option.some.inj h
    subst h
    exact go_ret hΘ hm hP hn (hs := [⟨3, .no, some (I (p1.length : Int))⟩, ⟨8, .br false, none⟩]) (rh := []) (ph := .raw) (ps := [AV.lit (.int .i64 (((p1.map o87).length : Nat) : Int)) = (I (p1.length : Int)), (decide ((w64 (p2 - (p1.length : Int))) < 0)) = false, (I (w64 (p2 - (p1.length : Int)))) = (I (w64 (p2 - (p1.length : Int)))), litA (I (w64 (p2 - (p1.length : Int)))) = true]) (by kernel_rfl) ⟨(lenM o87), c4, rfl, rfl, trivial⟩
end Go.Proofs.YthhcnmideecfpaaGreat
