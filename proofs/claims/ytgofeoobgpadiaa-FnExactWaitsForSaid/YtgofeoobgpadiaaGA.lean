/- Functions as plain data, and that the code comes to them; no condition. -/

import Derived.Test.YtgofeoobgpadiaaGT
import Derived.Test.YtgofeoobgpadiaaSB
set_option linter.unusedVariables false
set_option maxRecDepth 100000
namespace Go.Proofs.Ytgofeoobgpadiaa
open Go Go.T
noncomputable def body44 : Code := match Try.f44.body with | some c => c | none => .skip
noncomputable def impl_in (p1 : Int) (p2 : Int) (p3 : Int) : Option Bool :=
  if (decide (p2 ≤ p1)) = true then
    some (decide (p1 ≤ p3))
  else
    some false
theorem impl_in_m {p1 : Int} {p2 : Int} {p3 : Int} {r : Bool} (h : impl_in p1 p2 p3 = some r) : Meets Try.prog 44 [(I p1), (I p2), (I p3)] (B r) := by
  refine meets_ofC Θ_ok Try.func44 rfl (c := body44) (by kernel_rfl) (Nat.le_of_ble_eq_true rfl) ?_
  intro E hP hn hx
  replace hn : E.n = 15 := hn
  have hm : E.P.follows .mixedOrders = true := by rw [hP]; exact mixed
  have hΘ : TOK E.P Θ := by rw [hP]; exact Θ_ok
  unfold impl_in at h
  show WAt E body44 (FQ (RetE Θ Try.f44.results.toList [] [] (B r) E)) [] ⟨[(0, (I p1)), (1, (I p2)), (2, (I p3))], [], [JJ]⟩
  rcases itS h with ⟨c4, h⟩ | ⟨c5, h⟩
  · have h := Option.some.inj h
    subst h
    exact go_ret hΘ hm hP hn (hs := [⟨4, .no, some (B true)⟩]) (rh := []) (ph := .raw) (ps := [(B (decide (p2 ≤ p1))) = (B true), (B (decide (p1 ≤ p3))) = (B (decide (p1 ≤ p3))), litA (B (decide (p1 ≤ p3))) = true]) (by kernel_rfl) ⟨(litB c4), rfl, rfl, trivial⟩
  · have h := Option.some.inj h
    subst h
    exact go_ret hΘ hm hP hn (hs := [⟨4, .no, some (B false)⟩]) (rh := []) (ph := .raw) (ps := [(B (decide (p2 ≤ p1))) = (B false), (B false) = (B false), litA (B false) = true]) (by kernel_rfl) ⟨(litB c5), rfl, rfl, trivial⟩
noncomputable def body102 : Code := match Try.f102.body with | some c => c | none => .skip
noncomputable def impl_Op_names_j0  (p1 : GOp) (v3 : Bool) : Option Int :=
  if v3 = true then
    some 1
  else
    if (p1.Code == 16) = true then
      some 2
    else
      some 0
theorem impl_Op_names_j0_m {E : Env} (hP : E.P = Try.prog) (hn : E.n = 16) (hx : ∀ p, p ∈ E.fx → p.1 ∈ ([] : List Nat)) (p1 : GOp)  (v3 : Bool) (r : Int) (h : impl_Op_names_j0 p1 v3 = some r) : WAt E body102 (FQ (RetE Θ Try.f102.results.toList [] [] (I r) E)) [true, false, true, false, true] ⟨[(4, (I p1.Code)), (5, (B v3))], [], [JJ]⟩ := by
  have hm : E.P.follows .mixedOrders = true := by rw [hP]; exact mixed
  have hΘ : TOK E.P Θ := by rw [hP]; exact Θ_ok
  unfold impl_Op_names_j0 at h
  rcases itS h with ⟨c4, h⟩ | ⟨c5, h⟩
  · have h := Option.some.inj h
    subst h
    exact go_ret hΘ hm hP hn (hs := [⟨0, .br true, none⟩]) (rh := []) (ph := .raw) (ps := [v3 = true, (I 1) = (I 1), litA (I 1) = true]) (by kernel_rfl) ⟨c4, rfl, rfl, trivial⟩
  · rcases itS h with ⟨c6, h⟩ | ⟨c7, h⟩
    · have h := Option.some.inj h
      subst h
      exact go_ret hΘ hm hP hn (hs := [⟨0, .br false, none⟩, ⟨3, .br true, none⟩]) (rh := []) (ph := .raw) (ps := [v3 = false, (p1.Code == 16) = true, (I 2) = (I 2), litA (I 2) = true]) (by kernel_rfl) ⟨c5, c6, rfl, rfl, trivial⟩
    · have h := Option.some.inj h
      subst h
      exact go_ret hΘ hm hP hn (hs := [⟨0, .br false, none⟩, ⟨3, .br false, none⟩]) (rh := []) (ph := .raw) (ps := [v3 = false, (p1.Code == 16) = false, (I 0) = (I 0), litA (I 0) = true]) (by kernel_rfl) ⟨c5, c7, rfl, rfl, trivial⟩
noncomputable def impl_Op_names (p1 : GOp) : Option Int :=
  if (p1.Code == 2) = true then
    impl_Op_names_j0 p1 (p1.Code == 2)
  else
    if (p1.Code == 3) = true then
      impl_Op_names_j0 p1 (p1.Code == 3)
    else
      if (p1.Code == 10) = true then
        impl_Op_names_j0 p1 (p1.Code == 10)
      else
        if (p1.Code == 11) = true then
          impl_Op_names_j0 p1 (p1.Code == 11)
        else
          if (p1.Code == 12) = true then
            impl_Op_names_j0 p1 (p1.Code == 12)
          else
            if (p1.Code == 13) = true then
              impl_Op_names_j0 p1 (p1.Code == 13)
            else
              if (p1.Code == 14) = true then
                impl_Op_names_j0 p1 (p1.Code == 14)
              else
                impl_Op_names_j0 p1 (p1.Code == 17)
theorem impl_Op_names_m {p1 : GOp} {r : Int} (h : impl_Op_names p1 = some r) : Meets Try.prog 102 [(AV.agg ((o85 p1)))] (I r) := by
  refine meets_ofC Θ_ok Try.func102 rfl (c := body102) (by kernel_rfl) (Nat.le_of_ble_eq_true rfl) ?_
  intro E hP hn hx
  replace hn : E.n = 16 := hn
  have hm : E.P.follows .mixedOrders = true := by rw [hP]; exact mixed
  have hΘ : TOK E.P Θ := by rw [hP]; exact Θ_ok
  unfold impl_Op_names at h
  show WAt E body102 (FQ (RetE Θ Try.f102.results.toList [] [] (I r) E)) [] ⟨[(0, (AV.agg ((o85 p1))))], [], [JJ]⟩
  rcases itS h with ⟨c2, h⟩ | ⟨c8, h⟩
  · exact go_to hΘ hm hx hP hn (hs := [⟨0, .new 1001, none⟩, ⟨6, .br true, none⟩]) (π := []) (ts := [4, 5]) (kp := []) (ps := [(p1.Code == 2) = true]) (by kernel_rfl) ⟨c2, trivial⟩ (impl_Op_names_j0_m hP hn hx p1 (p1.Code == 2) _ h)
  · rcases itS h with ⟨c9, h⟩ | ⟨c10, h⟩
    · exact go_to hΘ hm hx hP hn (hs := [⟨0, .new 1001, none⟩, ⟨6, .br false, none⟩, ⟨9, .br true, none⟩]) (π := []) (ts := [4, 5]) (kp := []) (ps := [(p1.Code == 2) = false, (p1.Code == 3) = true]) (by kernel_rfl) ⟨c8, c9, trivial⟩ (impl_Op_names_j0_m hP hn hx p1 (p1.Code == 3) _ h)
    · rcases itS h with ⟨c11, h⟩ | ⟨c12, h⟩
      · exact go_to hΘ hm hx hP hn (hs := [⟨0, .new 1001, none⟩, ⟨6, .br false, none⟩, ⟨9, .br false, none⟩, ⟨12, .br true, none⟩]) (π := []) (ts := [4, 5]) (kp := []) (ps := [(p1.Code == 2) = false, (p1.Code == 3) = false, (p1.Code == 10) = true]) (by kernel_rfl) ⟨c8, c10, c11, trivial⟩ (impl_Op_names_j0_m hP hn hx p1 (p1.Code == 10) _ h)
      · rcases itS h with ⟨c13, h⟩ | ⟨c14, h⟩
        · exact go_to hΘ hm hx hP hn (hs := [⟨0, .new 1001, none⟩, ⟨6, .br false, none⟩, ⟨9, .br false, none⟩, ⟨12, .br false, none⟩, ⟨15, .br true, none⟩]) (π := []) (ts := [4, 5]) (kp := []) (ps := [(p1.Code == 2) = false, (p1.Code == 3) = false, (p1.Code == 10) = false, (p1.Code == 11) = true]) (by kernel_rfl) ⟨c8, c10, c12, c13, trivial⟩ (impl_Op_names_j0_m hP hn hx p1 (p1.Code == 11) _ h)
        · rcases itS h with ⟨c15, h⟩ | ⟨c16, h⟩
          · exact go_to hΘ hm hx hP hn (hs := [⟨0, .new 1001, none⟩, ⟨6, .br false, none⟩, ⟨9, .br false, none⟩, ⟨12, .br false, none⟩, ⟨15, .br false, none⟩, ⟨18, .br true, none⟩]) (π := []) (ts := [4, 5]) (kp := []) (ps := [(p1.Code == 2) = false, (p1.Code == 3) = false, (p1.Code == 10) = false, (p1.Code == 11) = false, (p1.Code == 12) = true]) (by kernel_rfl) ⟨c8, c10, c12, c14, c15, trivial⟩ (impl_Op_names_j0_m hP hn hx p1 (p1.Code == 12) _ h)
          · rcases itS h with ⟨c17, h⟩ | ⟨c18, h⟩
            · exact go_to hΘ hm hx hP hn (hs := [⟨0, .new 1001, none⟩, ⟨6, .br false, none⟩, ⟨9, .br false, none⟩, ⟨12, .br false, none⟩, ⟨15, .br false, none⟩, ⟨18, .br false, none⟩, ⟨21, .br true, none⟩]) (π := []) (ts := [4, 5]) (kp := []) (ps := [(p1.Code == 2) = false, (p1.Code == 3) = false, (p1.Code == 10) = false, (p1.Code == 11) = false, (p1.Code == 12) = false, (p1.Code == 13) = true]) (by kernel_rfl) ⟨c8, c10, c12, c14, c16, c17, trivial⟩ (impl_Op_names_j0_m hP hn hx p1 (p1.Code == 13) _ h)
            · rcases itS h with ⟨c19, h⟩ | ⟨c20, h⟩
              · exact go_to hΘ hm hx hP hn (hs := [⟨0, .new 1001, none⟩, ⟨6, .br false, none⟩, ⟨9, .br false, none⟩, ⟨12, .br false, none⟩, ⟨15, .br false, none⟩, ⟨18, .br false, none⟩, ⟨21, .br false, none⟩, ⟨24, .br true, none⟩]) (π := []) (ts := [4, 5]) (kp := []) (ps := [(p1.Code == 2) = false, (p1.Code == 3) = false, (p1.Code == 10) = false, (p1.Code == 11) = false, (p1.Code == 12) = false, (p1.Code == 13) = false, (p1.Code == 14) = true]) (by kernel_rfl) ⟨c8, c10, c12, c14, c16, c18, c19, trivial⟩ (impl_Op_names_j0_m hP hn hx p1 (p1.Code == 14) _ h)
              · exact go_to hΘ hm hx hP hn (hs := [⟨0, .new 1001, none⟩, ⟨6, .br false, none⟩, ⟨9, .br false, none⟩, ⟨12, .br false, none⟩, ⟨15, .br false, none⟩, ⟨18, .br false, none⟩, ⟨21, .br false, none⟩, ⟨24, .br false, none⟩]) (π := []) (ts := [4, 5]) (kp := []) (ps := [(p1.Code == 2) = false, (p1.Code == 3) = false, (p1.Code == 10) = false, (p1.Code == 11) = false, (p1.Code == 12) = false, (p1.Code == 13) = false, (p1.Code == 14) = false]) (by kernel_rfl) ⟨c8, c10, c12, c14, c16, c18, c20, trivial⟩ (impl_Op_names_j0_m hP hn hx p1 (p1.Code == 17) _ h)
section
open Go.RowKit
theorem bits_run (m : Nat) (w : World) : (callFunc 119 #[.float .f64 m]).run Try.prog w = .ok (.value (.int .u64 (m : Int))) w := by
  rw [run_callFunc_extern Try.func119 (by kernel_rfl) (by kernel_rfl) (by kernel_rfl) (e := Extern.MathFloatBits.float64bits) (by kernel_rfl)]; rfl
theorem same_calls (m n : Nat) (w : World) : Calls Try.prog 103 #[.float .f64 m, .float .f64 n] w fun e w' => e = .returned (.bool (sameN m n)) ∧ w' = w := by
  have hB := bits_run
  have hi : ((m : Int) == (n : Int)) = (m == n) := by rw [Bool.eq_iff_iff, beq_iff_eq, beq_iff_eq]; exact ⟨fun h => by omega, fun h => by omega⟩
  have hs : sameN m n = ((fNaN m && fNaN n) || m == n) := rfl
  rw [hs]
  go_enter Try.func103, Try.ntmps103
  go_wp2
  all_goals first
    | (rename_i K ha
       rw [hB, Oper.upon_value]
       refine ha _ _ ?_
       clear ha
       go_wp2
       rename_i K2 ha2
       rw [hB, Oper.upon_value]
       refine ha2 _ _ ?_
       clear ha2
       go_wp2)
    | skip
  all_goals
    have c1 := nan_cmp m
    have c2 := nan_cmp n
    have d1 : FloatKind.f64.format.order m m = some .eq ↔ fNaN m = false := by rw [← c1]; simp
    have d2 : FloatKind.f64.format.order n n = some .eq ↔ fNaN n = false := by rw [← c2]; simp
    go_ret
    cases h1 : fNaN m <;> cases h2 : fNaN n <;> simp_all
end
noncomputable def impl_SameNum (p1 : Nat) (p2 : Nat) : Option Bool :=
  some (sameN p1 p2)
theorem impl_SameNum_m {p1 : Nat} {p2 : Nat} {r : Bool} (h : impl_SameNum p1 p2 = some r) : Meets Try.prog 103 [(FK p1), (FK p2)] (B r) := by
  cases h
  exact meets_same (Go.Proofs.enters_of Try.func103 rfl rfl) same_calls
noncomputable def body93 : Code := match Try.f93.body with | some c => c | none => .skip
noncomputable def impl_Op_fits (p1 : GOp) : Option Bool :=
  Option.bind (impl_Op_names p1) fun r2 =>
  Option.bind (impl_in p1.Code 1 17) fun r3 =>
  if r3 = true then
    if (decide (r2 > 0)) = true then
      if (decide (r2 > 1)) = true then
        if (p1.Code == 1) = true then
          some true
        else
          Option.bind (impl_SameNum p1.V 0) fun r9 =>
          some r9
      else
        if (p1.B == 0) = true then
          if (p1.Code == 1) = true then
            some true
          else
            Option.bind (impl_SameNum p1.V 0) fun r14 =>
            some r14
        else
          some false
    else
      if (p1.A == 0) = true then
        if (decide (r2 > 1)) = true then
          if (p1.Code == 1) = true then
            some true
          else
            Option.bind (impl_SameNum p1.V 0) fun r21 =>
            some r21
        else
          if (p1.B == 0) = true then
            if (p1.Code == 1) = true then
              some true
            else
              Option.bind (impl_SameNum p1.V 0) fun r30 =>
              some r30
          else
            some false
      else
        some false
  else
    some false
theorem impl_Op_fits_m {p1 : GOp} {r : Bool} (h : impl_Op_fits p1 = some r) : Meets Try.prog 93 [(AV.agg ((o85 p1)))] (B r) := by
  refine meets_ofC Θ_ok Try.func93 rfl (c := body93) (by kernel_rfl) (Nat.le_of_ble_eq_true rfl) ?_
  intro E hP hn hx
  replace hn : E.n = 37 := hn
  have hm : E.P.follows .mixedOrders = true := by rw [hP]; exact mixed
  have hΘ : TOK E.P Θ := by rw [hP]; exact Θ_ok
  unfold impl_Op_fits at h
  show WAt E body93 (FQ (RetE Θ Try.f93.results.toList [] [] (B r) E)) [] ⟨[(0, (AV.agg ((o85 p1))))], [], [JJ]⟩
  obtain ⟨r2, hr2, h⟩ := bnS h
  obtain ⟨r3, hr3, h⟩ := bnS h
  rcases itS h with ⟨c4, h⟩ | ⟨c33, h⟩
  · rcases itS h with ⟨c5, h⟩ | ⟨c16, h⟩
    · rcases itS h with ⟨c6, h⟩ | ⟨c10, h⟩
      · rcases itS h with ⟨c7, h⟩ | ⟨c8, h⟩
        · have h := Option.some.inj h
          subst h
          exact go_ret hΘ hm hP hn (hs := [⟨0, .new 1001, none⟩, ⟨3, .callV [[]] (I r2), none⟩, ⟨7, .callV [] (B r3), none⟩, ⟨8, .no, some (B true)⟩, ⟨11, .no, some (B true)⟩, ⟨20, .no, some (B true)⟩, ⟨30, .no, some (B true)⟩]) (rh := []) (ph := .raw) (ps := [Meets Try.prog 102 [(AV.agg ((o85 p1)))] (I r2), litA (I r2) = true, Meets Try.prog 44 [(I p1.Code), (I 1), (I 17)] (B r3), litA (B r3) = true, (B r3) = (B true), (B (decide (r2 > 0))) = (B true), (B (decide (r2 > 1))) = (B true), (B (p1.Code == 1)) = (B true), (B true) = (B true), litA (B true) = true]) (by kernel_rfl) ⟨(impl_Op_names_m hr2), rfl, (impl_in_m hr3), rfl, (litB c4), (litB c5), (litB c6), (litB c7), rfl, rfl, trivial⟩
        · obtain ⟨r9, hr9, h⟩ := bnS h
          have h := Option.some.inj h
          subst h
          exact go_ret hΘ hm hP hn (hs := [⟨0, .new 1001, none⟩, ⟨3, .callV [[]] (I r2), none⟩, ⟨7, .callV [] (B r3), none⟩, ⟨8, .no, some (B true)⟩, ⟨11, .no, some (B true)⟩, ⟨20, .no, some (B true)⟩, ⟨30, .no, some (B false)⟩, ⟨33, .callV [] (B r9), none⟩]) (rh := []) (ph := .raw) (ps := [Meets Try.prog 102 [(AV.agg ((o85 p1)))] (I r2), litA (I r2) = true, Meets Try.prog 44 [(I p1.Code), (I 1), (I 17)] (B r3), litA (B r3) = true, (B r3) = (B true), (B (decide (r2 > 0))) = (B true), (B (decide (r2 > 1))) = (B true), (B (p1.Code == 1)) = (B false), Meets Try.prog 103 [(FK p1.V), (FK 0)] (B r9), litA (B r9) = true, (B r9) = (B r9), litA (B r9) = true]) (by kernel_rfl) ⟨(impl_Op_names_m hr2), rfl, (impl_in_m hr3), rfl, (litB c4), (litB c5), (litB c6), (litB c8), (impl_SameNum_m hr9), rfl, rfl, rfl, trivial⟩
      · rcases itS h with ⟨c11, h⟩ | ⟨c15, h⟩
        · rcases itS h with ⟨c12, h⟩ | ⟨c13, h⟩
          · have h := Option.some.inj h
            subst h
            exact go_ret hΘ hm hP hn (hs := [⟨0, .new 1001, none⟩, ⟨3, .callV [[]] (I r2), none⟩, ⟨7, .callV [] (B r3), none⟩, ⟨8, .no, some (B true)⟩, ⟨11, .no, some (B true)⟩, ⟨20, .no, some (B false)⟩, ⟨26, .no, some (B true)⟩, ⟨30, .no, some (B true)⟩]) (rh := []) (ph := .raw) (ps := [Meets Try.prog 102 [(AV.agg ((o85 p1)))] (I r2), litA (I r2) = true, Meets Try.prog 44 [(I p1.Code), (I 1), (I 17)] (B r3), litA (B r3) = true, (B r3) = (B true), (B (decide (r2 > 0))) = (B true), (B (decide (r2 > 1))) = (B false), (B (p1.B == 0)) = (B true), (B (p1.Code == 1)) = (B true), (B true) = (B true), litA (B true) = true]) (by kernel_rfl) ⟨(impl_Op_names_m hr2), rfl, (impl_in_m hr3), rfl, (litB c4), (litB c5), (litB c10), (litB c11), (litB c12), rfl, rfl, trivial⟩
          · obtain ⟨r14, hr14, h⟩ := bnS h
            have h := Option.some.inj h
            subst h
            exact go_ret hΘ hm hP hn (hs := [⟨0, .new 1001, none⟩, ⟨3, .callV [[]] (I r2), none⟩, ⟨7, .callV [] (B r3), none⟩, ⟨8, .no, some (B true)⟩, ⟨11, .no, some (B true)⟩, ⟨20, .no, some (B false)⟩, ⟨26, .no, some (B true)⟩, ⟨30, .no, some (B false)⟩, ⟨33, .callV [] (B r14), none⟩]) (rh := []) (ph := .raw) (ps := [Meets Try.prog 102 [(AV.agg ((o85 p1)))] (I r2), litA (I r2) = true, Meets Try.prog 44 [(I p1.Code), (I 1), (I 17)] (B r3), litA (B r3) = true, (B r3) = (B true), (B (decide (r2 > 0))) = (B true), (B (decide (r2 > 1))) = (B false), (B (p1.B == 0)) = (B true), (B (p1.Code == 1)) = (B false), Meets Try.prog 103 [(FK p1.V), (FK 0)] (B r14), litA (B r14) = true, (B r14) = (B r14), litA (B r14) = true]) (by kernel_rfl) ⟨(impl_Op_names_m hr2), rfl, (impl_in_m hr3), rfl, (litB c4), (litB c5), (litB c10), (litB c11), (litB c13), (impl_SameNum_m hr14), rfl, rfl, rfl, trivial⟩
        · have h := Option.some.inj h
          subst h
          exact go_ret hΘ hm hP hn (hs := [⟨0, .new 1001, none⟩, ⟨3, .callV [[]] (I r2), none⟩, ⟨7, .callV [] (B r3), none⟩, ⟨8, .no, some (B true)⟩, ⟨11, .no, some (B true)⟩, ⟨20, .no, some (B false)⟩, ⟨26, .no, some (B false)⟩]) (rh := []) (ph := .raw) (ps := [Meets Try.prog 102 [(AV.agg ((o85 p1)))] (I r2), litA (I r2) = true, Meets Try.prog 44 [(I p1.Code), (I 1), (I 17)] (B r3), litA (B r3) = true, (B r3) = (B true), (B (decide (r2 > 0))) = (B true), (B (decide (r2 > 1))) = (B false), (B (p1.B == 0)) = (B false), (B false) = (B false), litA (B false) = true]) (by kernel_rfl) ⟨(impl_Op_names_m hr2), rfl, (impl_in_m hr3), rfl, (litB c4), (litB c5), (litB c10), (litB c15), rfl, rfl, trivial⟩
    · rcases itS h with ⟨c17, h⟩ | ⟨c32, h⟩
      · rcases itS h with ⟨c18, h⟩ | ⟨c22, h⟩
        · rcases itS h with ⟨c19, h⟩ | ⟨c20, h⟩
          · have h := Option.some.inj h
            subst h
            exact go_ret hΘ hm hP hn (hs := [⟨0, .new 1001, none⟩, ⟨3, .callV [[]] (I r2), none⟩, ⟨7, .callV [] (B r3), none⟩, ⟨8, .no, some (B true)⟩, ⟨11, .no, some (B false)⟩, ⟨17, .no, some (B true)⟩, ⟨20, .no, some (B true)⟩, ⟨30, .no, some (B true)⟩]) (rh := []) (ph := .raw) (ps := [Meets Try.prog 102 [(AV.agg ((o85 p1)))] (I r2), litA (I r2) = true, Meets Try.prog 44 [(I p1.Code), (I 1), (I 17)] (B r3), litA (B r3) = true, (B r3) = (B true), (B (decide (r2 > 0))) = (B false), (B (p1.A == 0)) = (B true), (B (decide (r2 > 1))) = (B true), (B (p1.Code == 1)) = (B true), (B true) = (B true), litA (B true) = true]) (by kernel_rfl) ⟨(impl_Op_names_m hr2), rfl, (impl_in_m hr3), rfl, (litB c4), (litB c16), (litB c17), (litB c18), (litB c19), rfl, rfl, trivial⟩
          · obtain ⟨r21, hr21, h⟩ := bnS h
            have h := Option.some.inj h
            subst h
            exact go_ret hΘ hm hP hn (hs := [⟨0, .new 1001, none⟩, ⟨3, .callV [[]] (I r2), none⟩, ⟨7, .callV [] (B r3), none⟩, ⟨8, .no, some (B true)⟩, ⟨11, .no, some (B false)⟩, ⟨17, .no, some (B true)⟩, ⟨20, .no, some (B true)⟩, ⟨30, .no, some (B false)⟩, ⟨33, .callV [] (B r21), none⟩]) (rh := []) (ph := .raw) (ps := [Meets Try.prog 102 [(AV.agg ((o85 p1)))] (I r2), litA (I r2) = true, Meets Try.prog 44 [(I p1.Code), (I 1), (I 17)] (B r3), litA (B r3) = true, (B r3) = (B true), (B (decide (r2 > 0))) = (B false), (B (p1.A == 0)) = (B true), (B (decide (r2 > 1))) = (B true), (B (p1.Code == 1)) = (B false), Meets Try.prog 103 [(FK p1.V), (FK 0)] (B r21), litA (B r21) = true, (B r21) = (B r21), litA (B r21) = true]) (by kernel_rfl) ⟨(impl_Op_names_m hr2), rfl, (impl_in_m hr3), rfl, (litB c4), (litB c16), (litB c17), (litB c18), (litB c20), (impl_SameNum_m hr21), rfl, rfl, rfl, trivial⟩
        · rcases itS h with ⟨c23, h⟩ | ⟨c31, h⟩
          · rcases itS h with ⟨c24, h⟩ | ⟨c25, h⟩
            · have h := Option.some.inj h
              subst h
              exact go_ret hΘ hm hP hn (hs := [⟨0, .new 1001, none⟩, ⟨3, .callV [[]] (I r2), none⟩, ⟨7, .callV [] (B r3), none⟩, ⟨8, .no, some (B true)⟩, ⟨11, .no, some (B false)⟩, ⟨17, .no, some (B true)⟩, ⟨20, .no, some (B false)⟩, ⟨26, .no, some (B true)⟩, ⟨30, .no, some (B true)⟩]) (rh := []) (ph := .raw) (ps := [Meets Try.prog 102 [(AV.agg ((o85 p1)))] (I r2), litA (I r2) = true, Meets Try.prog 44 [(I p1.Code), (I 1), (I 17)] (B r3), litA (B r3) = true, (B r3) = (B true), (B (decide (r2 > 0))) = (B false), (B (p1.A == 0)) = (B true), (B (decide (r2 > 1))) = (B false), (B (p1.B == 0)) = (B true), (B (p1.Code == 1)) = (B true), (B true) = (B true), litA (B true) = true]) (by kernel_rfl) ⟨(impl_Op_names_m hr2), rfl, (impl_in_m hr3), rfl, (litB c4), (litB c16), (litB c17), (litB c22), (litB c23), (litB c24), rfl, rfl, trivial⟩
            · obtain ⟨r30, hr30, h⟩ := bnS h
              have h := Option.some.inj h
              subst h
              exact go_ret hΘ hm hP hn (hs := [⟨0, .new 1001, none⟩, ⟨3, .callV [[]] (I r2), none⟩, ⟨7, .callV [] (B r3), none⟩, ⟨8, .no, some (B true)⟩, ⟨11, .no, some (B false)⟩, ⟨17, .no, some (B true)⟩, ⟨20, .no, some (B false)⟩, ⟨26, .no, some (B true)⟩, ⟨30, .no, some (B false)⟩, ⟨33, .callV [] (B r30), none⟩]) (rh := []) (ph := .raw) (ps := [Meets Try.prog 102 [(AV.agg ((o85 p1)))] (I r2), litA (I r2) = true, Meets Try.prog 44 [(I p1.Code), (I 1), (I 17)] (B r3), litA (B r3) = true, (B r3) = (B true), (B (decide (r2 > 0))) = (B false), (B (p1.A == 0)) = (B true), (B (decide (r2 > 1))) = (B false), (B (p1.B == 0)) = (B true), (B (p1.Code == 1)) = (B false), Meets Try.prog 103 [(FK p1.V), (FK 0)] (B r30), litA (B r30) = true, (B r30) = (B r30), litA (B r30) = true]) (by kernel_rfl) ⟨(impl_Op_names_m hr2), rfl, (impl_in_m hr3), rfl, (litB c4), (litB c16), (litB c17), (litB c22), (litB c23), (litB c25), (impl_SameNum_m hr30), rfl, rfl, rfl, trivial⟩
          · have h := Option.some.inj h
            subst h
            exact go_ret hΘ hm hP hn (hs := [⟨0, .new 1001, none⟩, ⟨3, .callV [[]] (I r2), none⟩, ⟨7, .callV [] (B r3), none⟩, ⟨8, .no, some (B true)⟩, ⟨11, .no, some (B false)⟩, ⟨17, .no, some (B true)⟩, ⟨20, .no, some (B false)⟩, ⟨26, .no, some (B false)⟩]) (rh := []) (ph := .raw) (ps := [Meets Try.prog 102 [(AV.agg ((o85 p1)))] (I r2), litA (I r2) = true, Meets Try.prog 44 [(I p1.Code), (I 1), (I 17)] (B r3), litA (B r3) = true, (B r3) = (B true), (B (decide (r2 > 0))) = (B false), (B (p1.A == 0)) = (B true), (B (decide (r2 > 1))) = (B false), (B (p1.B == 0)) = (B false), (B false) = (B false), litA (B false) = true]) (by kernel_rfl) ⟨(impl_Op_names_m hr2), rfl, (impl_in_m hr3), rfl, (litB c4), (litB c16), (litB c17), (litB c22), (litB c31), rfl, rfl, trivial⟩
      · have h := Option.some.inj h
        subst h
        exact go_ret hΘ hm hP hn (hs := [⟨0, .new 1001, none⟩, ⟨3, .callV [[]] (I r2), none⟩, ⟨7, .callV [] (B r3), none⟩, ⟨8, .no, some (B true)⟩, ⟨11, .no, some (B false)⟩, ⟨17, .no, some (B false)⟩]) (rh := []) (ph := .raw) (ps := [Meets Try.prog 102 [(AV.agg ((o85 p1)))] (I r2), litA (I r2) = true, Meets Try.prog 44 [(I p1.Code), (I 1), (I 17)] (B r3), litA (B r3) = true, (B r3) = (B true), (B (decide (r2 > 0))) = (B false), (B (p1.A == 0)) = (B false), (B false) = (B false), litA (B false) = true]) (by kernel_rfl) ⟨(impl_Op_names_m hr2), rfl, (impl_in_m hr3), rfl, (litB c4), (litB c16), (litB c32), rfl, rfl, trivial⟩
  · have h := Option.some.inj h
    subst h
    exact go_ret hΘ hm hP hn (hs := [⟨0, .new 1001, none⟩, ⟨3, .callV [[]] (I r2), none⟩, ⟨7, .callV [] (B r3), none⟩, ⟨8, .no, some (B false)⟩]) (rh := []) (ph := .raw) (ps := [Meets Try.prog 102 [(AV.agg ((o85 p1)))] (I r2), litA (I r2) = true, Meets Try.prog 44 [(I p1.Code), (I 1), (I 17)] (B r3), litA (B r3) = true, (B r3) = (B false), (B false) = (B false), litA (B false) = true]) (by kernel_rfl) ⟨(impl_Op_names_m hr2), rfl, (impl_in_m hr3), rfl, (litB c33), rfl, rfl, trivial⟩
noncomputable def body76 : Code := match Try.f76.body with | some c => c | none => .skip
noncomputable def impl_Prog_isGood_j2  (p1 : GProg) (p2 : GOp) (v18 : Bool) : Option Bool :=
  if v18 = true then
    Option.bind (impl_in p2.A 0 (w64 (p1.Locks - 1))) fun r20 =>
    some r20
  else
    if (p2.Code == 14) = true then
      Option.bind (impl_in p2.A 0 (w64 ((p1.Routines.length : Int) - 1))) fun r30 =>
      some r30
    else
      if (p2.Code == 16) = true then
        Option.bind (impl_in p2.A 0 (w64 (p1.Conds - 1))) fun r36 =>
        if r36 = true then
          Option.bind (impl_in p2.B 0 (w64 (p1.Locks - 1))) fun r40 =>
          some r40
        else
          some false
      else
        if (p2.Code == 17) = true then
          Option.bind (impl_in p2.A 0 (w64 (p1.Conds - 1))) fun r44 =>
          some r44
        else
          some true
theorem impl_Prog_isGood_j2_m {E : Env} (hP : E.P = Try.prog) (hn : E.n = 70) (hx : ∀ p, p ∈ E.fx → p.1 ∈ ([] : List Nat)) (p1 : GProg) (p2 : GOp)  (v18 : Bool) (r : Bool) (h : impl_Prog_isGood_j2 p1 p2 v18 = some r) : WAt E body76 (FQ (RetE Θ Try.f76.results.toList [] [] (B r) E)) [true, true, false, true, false, true, true, true, true, true] ⟨[(3, (AV.ptr 1 0 0)), (4, (AV.ptr 2 0 0)), (11, (I p2.Code)), (28, (B v18))], [(1, some ⟨35, 4, [((r35 p1))]⟩), (2, some ⟨85, 4, [((o85 p2))]⟩)], [1, 2, JJ]⟩ := by
  have hm : E.P.follows .mixedOrders = true := by rw [hP]; exact mixed
  have hΘ : TOK E.P Θ := by rw [hP]; exact Θ_ok
  unfold impl_Prog_isGood_j2 at h
  rcases itS h with ⟨c19, h⟩ | ⟨c21, h⟩
  · obtain ⟨r20, hr20, h⟩ := bnS h
    have h := Option.some.inj h
    subst h
    exact go_ret hΘ hm hP hn (hs := [⟨0, .br true, none⟩, ⟨6, .callV [] (B r20), none⟩]) (rh := []) (ph := .raw) (ps := [v18 = true, Meets Try.prog 44 [(I p2.A), (I 0), (I (w64 (p1.Locks - 1)))] (B r20), litA (B r20) = true, (B r20) = (B r20), litA (B r20) = true]) (by kernel_rfl) ⟨c19, (impl_in_m hr20), rfl, rfl, rfl, trivial⟩
  · rcases itS h with ⟨c22, h⟩ | ⟨c31, h⟩
    · obtain ⟨r30, hr30, h⟩ := bnS h
      have h := Option.some.inj h
      subst h
      exact go_ret hΘ hm hP hn (hs := [⟨0, .br false, none⟩, ⟨3, .br true, none⟩, ⟨8, .no, some (I (p1.Routines.length : Int))⟩, ⟨10, .callV [] (B r30), none⟩]) (rh := []) (ph := .raw) (ps := [v18 = false, (p2.Code == 14) = true, AV.lit (.int .i64 (((p1.Routines.map r82).length : Nat) : Int)) = (I (p1.Routines.length : Int)), Meets Try.prog 44 [(I p2.A), (I 0), (I (w64 ((p1.Routines.length : Int) - 1)))] (B r30), litA (B r30) = true, (B r30) = (B r30), litA (B r30) = true]) (by kernel_rfl) ⟨c21, c22, (lenM r82), (impl_in_m hr30), rfl, rfl, rfl, trivial⟩
    · rcases itS h with ⟨c32, h⟩ | ⟨c42, h⟩
      · obtain ⟨r36, hr36, h⟩ := bnS h
        rcases itS h with ⟨c37, h⟩ | ⟨c41, h⟩
        · obtain ⟨r40, hr40, h⟩ := bnS h
          have h := Option.some.inj h
          subst h
          exact go_ret hΘ hm hP hn (hs := [⟨0, .br false, none⟩, ⟨3, .br false, none⟩, ⟨6, .br true, none⟩, ⟨12, .callV [] (B r36), none⟩, ⟨13, .no, some (B true)⟩, ⟨19, .callV [] (B r40), none⟩]) (rh := []) (ph := .raw) (ps := [v18 = false, (p2.Code == 14) = false, (p2.Code == 16) = true, Meets Try.prog 44 [(I p2.A), (I 0), (I (w64 (p1.Conds - 1)))] (B r36), litA (B r36) = true, (B r36) = (B true), Meets Try.prog 44 [(I p2.B), (I 0), (I (w64 (p1.Locks - 1)))] (B r40), litA (B r40) = true, (B r40) = (B r40), litA (B r40) = true]) (by kernel_rfl) ⟨c21, c31, c32, (impl_in_m hr36), rfl, (litB c37), (impl_in_m hr40), rfl, rfl, rfl, trivial⟩
        · have h := Option.some.inj h
          subst h
          exact go_ret hΘ hm hP hn (hs := [⟨0, .br false, none⟩, ⟨3, .br false, none⟩, ⟨6, .br true, none⟩, ⟨12, .callV [] (B r36), none⟩, ⟨13, .no, some (B false)⟩]) (rh := []) (ph := .raw) (ps := [v18 = false, (p2.Code == 14) = false, (p2.Code == 16) = true, Meets Try.prog 44 [(I p2.A), (I 0), (I (w64 (p1.Conds - 1)))] (B r36), litA (B r36) = true, (B r36) = (B false), (B false) = (B false), litA (B false) = true]) (by kernel_rfl) ⟨c21, c31, c32, (impl_in_m hr36), rfl, (litB c41), rfl, rfl, trivial⟩
      · rcases itS h with ⟨c43, h⟩ | ⟨c45, h⟩
        · obtain ⟨r44, hr44, h⟩ := bnS h
          have h := Option.some.inj h
          subst h
          exact go_ret hΘ hm hP hn (hs := [⟨0, .br false, none⟩, ⟨3, .br false, none⟩, ⟨6, .br false, none⟩, ⟨9, .br true, none⟩, ⟨15, .callV [] (B r44), none⟩]) (rh := []) (ph := .raw) (ps := [v18 = false, (p2.Code == 14) = false, (p2.Code == 16) = false, (p2.Code == 17) = true, Meets Try.prog 44 [(I p2.A), (I 0), (I (w64 (p1.Conds - 1)))] (B r44), litA (B r44) = true, (B r44) = (B r44), litA (B r44) = true]) (by kernel_rfl) ⟨c21, c31, c42, c43, (impl_in_m hr44), rfl, rfl, rfl, trivial⟩
        · have h := Option.some.inj h
          subst h
          exact go_ret hΘ hm hP hn (hs := [⟨0, .br false, none⟩, ⟨3, .br false, none⟩, ⟨6, .br false, none⟩, ⟨9, .br false, none⟩]) (rh := []) (ph := .raw) (ps := [v18 = false, (p2.Code == 14) = false, (p2.Code == 16) = false, (p2.Code == 17) = false, (B true) = (B true), litA (B true) = true]) (by kernel_rfl) ⟨c21, c31, c42, c45, rfl, rfl, trivial⟩
noncomputable def impl_Prog_isGood_j1  (p1 : GProg) (p2 : GOp) (p3 : Int) (v13 : Bool) : Option Bool :=
  if v13 = true then
    Option.bind (impl_in p2.A 0 p3) fun r15 =>
    some r15
  else
    if (p2.Code == 12) = true then
      impl_Prog_isGood_j2 p1 p2 (p2.Code == 12)
    else
      impl_Prog_isGood_j2 p1 p2 (p2.Code == 13)
theorem impl_Prog_isGood_j1_m {E : Env} (hP : E.P = Try.prog) (hn : E.n = 70) (hx : ∀ p, p ∈ E.fx → p.1 ∈ ([] : List Nat)) (p1 : GProg) (p2 : GOp) (p3 : Int)  (v13 : Bool) (r : Bool) (h : impl_Prog_isGood_j1 p1 p2 p3 v13 = some r) : WAt E body76 (FQ (RetE Θ Try.f76.results.toList [] [] (B r) E)) [true, true, false, true, false, true, true, true] ⟨[(2, (I p3)), (3, (AV.ptr 1 0 0)), (4, (AV.ptr 2 0 0)), (11, (I p2.Code)), (21, (B v13))], [(1, some ⟨35, 4, [((r35 p1))]⟩), (2, some ⟨85, 4, [((o85 p2))]⟩)], [1, 2, JJ]⟩ := by
  have hm : E.P.follows .mixedOrders = true := by rw [hP]; exact mixed
  have hΘ : TOK E.P Θ := by rw [hP]; exact Θ_ok
  unfold impl_Prog_isGood_j1 at h
  rcases itS h with ⟨c14, h⟩ | ⟨c16, h⟩
  · obtain ⟨r15, hr15, h⟩ := bnS h
    have h := Option.some.inj h
    subst h
    exact go_ret hΘ hm hP hn (hs := [⟨0, .br true, none⟩, ⟨4, .callV [] (B r15), none⟩]) (rh := []) (ph := .raw) (ps := [v13 = true, Meets Try.prog 44 [(I p2.A), (I 0), (I p3)] (B r15), litA (B r15) = true, (B r15) = (B r15), litA (B r15) = true]) (by kernel_rfl) ⟨c14, (impl_in_m hr15), rfl, rfl, rfl, trivial⟩
  · rcases itS h with ⟨c17, h⟩ | ⟨c46, h⟩
    · exact go_to hΘ hm hx hP hn (hs := [⟨0, .br false, none⟩, ⟨3, .br true, none⟩]) (π := [(1, 1), (2, 2)]) (ts := [3, 4, 11, 28]) (kp := []) (ps := [v13 = false, (p2.Code == 12) = true, RenOK [(1, 1), (2, 2)] [((r35 p1))], RenOK [(1, 1), (2, 2)] [((o85 p2))]]) (by kernel_rfl) ⟨c16, c17, (rok (treeB t35 p1)), (rok rfl), trivial⟩ (impl_Prog_isGood_j2_m hP hn hx p1 p2 (p2.Code == 12) _ h)
    · exact go_to hΘ hm hx hP hn (hs := [⟨0, .br false, none⟩, ⟨3, .br false, none⟩]) (π := [(1, 1), (2, 2)]) (ts := [3, 4, 11, 28]) (kp := []) (ps := [v13 = false, (p2.Code == 12) = false, RenOK [(1, 1), (2, 2)] [((r35 p1))], RenOK [(1, 1), (2, 2)] [((o85 p2))]]) (by kernel_rfl) ⟨c16, c46, (rok (treeB t35 p1)), (rok rfl), trivial⟩ (impl_Prog_isGood_j2_m hP hn hx p1 p2 (p2.Code == 13) _ h)
noncomputable def impl_Prog_isGood_j0  (p1 : GProg) (p2 : GOp) (p3 : Int) (v8 : Bool) : Option Bool :=
  if v8 = true then
    Option.bind (impl_in p2.A 0 (w64 (p1.Cells - 1))) fun r10 =>
    some r10
  else
    if (p2.Code == 10) = true then
      impl_Prog_isGood_j1 p1 p2 p3 (p2.Code == 10)
    else
      impl_Prog_isGood_j1 p1 p2 p3 (p2.Code == 11)
theorem impl_Prog_isGood_j0_m {E : Env} (hP : E.P = Try.prog) (hn : E.n = 70) (hx : ∀ p, p ∈ E.fx → p.1 ∈ ([] : List Nat)) (p1 : GProg) (p2 : GOp) (p3 : Int)  (v8 : Bool) (r : Bool) (h : impl_Prog_isGood_j0 p1 p2 p3 v8 = some r) : WAt E body76 (FQ (RetE Θ Try.f76.results.toList [] [] (B r) E)) [true, true, false, true, false, true] ⟨[(2, (I p3)), (3, (AV.ptr 1 0 0)), (4, (AV.ptr 2 0 0)), (11, (I p2.Code)), (12, (B v8))], [(1, some ⟨35, 4, [((r35 p1))]⟩), (2, some ⟨85, 4, [((o85 p2))]⟩)], [1, 2, JJ]⟩ := by
  have hm : E.P.follows .mixedOrders = true := by rw [hP]; exact mixed
  have hΘ : TOK E.P Θ := by rw [hP]; exact Θ_ok
  unfold impl_Prog_isGood_j0 at h
  rcases itS h with ⟨c9, h⟩ | ⟨c11, h⟩
  · obtain ⟨r10, hr10, h⟩ := bnS h
    have h := Option.some.inj h
    subst h
    exact go_ret hΘ hm hP hn (hs := [⟨0, .br true, none⟩, ⟨6, .callV [] (B r10), none⟩]) (rh := []) (ph := .raw) (ps := [v8 = true, Meets Try.prog 44 [(I p2.A), (I 0), (I (w64 (p1.Cells - 1)))] (B r10), litA (B r10) = true, (B r10) = (B r10), litA (B r10) = true]) (by kernel_rfl) ⟨c9, (impl_in_m hr10), rfl, rfl, rfl, trivial⟩
  · rcases itS h with ⟨c12, h⟩ | ⟨c47, h⟩
    · exact go_to hΘ hm hx hP hn (hs := [⟨0, .br false, none⟩, ⟨3, .br true, none⟩]) (π := [(1, 1), (2, 2)]) (ts := [2, 3, 4, 11, 21]) (kp := []) (ps := [v8 = false, (p2.Code == 10) = true, RenOK [(1, 1), (2, 2)] [((r35 p1))], RenOK [(1, 1), (2, 2)] [((o85 p2))]]) (by kernel_rfl) ⟨c11, c12, (rok (treeB t35 p1)), (rok rfl), trivial⟩ (impl_Prog_isGood_j1_m hP hn hx p1 p2 p3 (p2.Code == 10) _ h)
    · exact go_to hΘ hm hx hP hn (hs := [⟨0, .br false, none⟩, ⟨3, .br false, none⟩]) (π := [(1, 1), (2, 2)]) (ts := [2, 3, 4, 11, 21]) (kp := []) (ps := [v8 = false, (p2.Code == 10) = false, RenOK [(1, 1), (2, 2)] [((r35 p1))], RenOK [(1, 1), (2, 2)] [((o85 p2))]]) (by kernel_rfl) ⟨c11, c47, (rok (treeB t35 p1)), (rok rfl), trivial⟩ (impl_Prog_isGood_j1_m hP hn hx p1 p2 p3 (p2.Code == 11) _ h)
noncomputable def impl_Prog_isGood (p1 : GProg) (p2 : GOp) (p3 : Int) : Option Bool :=
  Option.bind (impl_Op_fits p2) fun r4 =>
  if (!r4) = true then
    some false
  else
    if (p2.Code == 2) = true then
      impl_Prog_isGood_j0 p1 p2 p3 (p2.Code == 2)
    else
      impl_Prog_isGood_j0 p1 p2 p3 (p2.Code == 3)
theorem impl_Prog_isGood_m {p1 : GProg} {p2 : GOp} {p3 : Int} {r : Bool} (h : impl_Prog_isGood p1 p2 p3 = some r) : Meets Try.prog 76 [(AV.agg ((r35 p1))), (AV.agg ((o85 p2))), (I p3)] (B r) := by
  refine meets_ofC Θ_ok Try.func76 rfl (c := body76) (by kernel_rfl) (Nat.le_of_ble_eq_true rfl) ?_
  intro E hP hn hx
  replace hn : E.n = 70 := hn
  have hm : E.P.follows .mixedOrders = true := by rw [hP]; exact mixed
  have hΘ : TOK E.P Θ := by rw [hP]; exact Θ_ok
  unfold impl_Prog_isGood at h
  show WAt E body76 (FQ (RetE Θ Try.f76.results.toList [] [] (B r) E)) [] ⟨[(0, (AV.agg ((r35 p1)))), (1, (AV.agg ((o85 p2)))), (2, (I p3))], [], [JJ]⟩
  obtain ⟨r4, hr4, h⟩ := bnS h
  rcases itS h with ⟨c5, h⟩ | ⟨c6, h⟩
  · have h := Option.some.inj h
    subst h
    exact go_ret hΘ hm hP hn (hs := [⟨0, .new 1001, none⟩, ⟨1, .new 1002, none⟩, ⟨4, .callV [[]] (B r4), none⟩, ⟨6, .br true, none⟩]) (rh := []) (ph := .raw) (ps := [Meets Try.prog 93 [(AV.agg ((o85 p2)))] (B r4), litA (B r4) = true, (!r4) = true, (B false) = (B false), litA (B false) = true]) (by kernel_rfl) ⟨(impl_Op_fits_m hr4), rfl, c5, rfl, rfl, trivial⟩
  · rcases itS h with ⟨c7, h⟩ | ⟨c48, h⟩
    · exact go_to hΘ hm hx hP hn (hs := [⟨0, .new 1001, none⟩, ⟨1, .new 1002, none⟩, ⟨4, .callV [[]] (B r4), none⟩, ⟨6, .br false, none⟩, ⟨11, .br true, none⟩]) (π := [(1001, 1), (1002, 2)]) (ts := [2, 3, 4, 11, 12]) (kp := []) (ps := [Meets Try.prog 93 [(AV.agg ((o85 p2)))] (B r4), litA (B r4) = true, (!r4) = false, (p2.Code == 2) = true, RenOK [(1001, 1), (1002, 2)] [((r35 p1))], RenOK [(1001, 1), (1002, 2)] [((o85 p2))]]) (by kernel_rfl) ⟨(impl_Op_fits_m hr4), rfl, c6, c7, (rok (treeB t35 p1)), (rok rfl), trivial⟩ (impl_Prog_isGood_j0_m hP hn hx p1 p2 p3 (p2.Code == 2) _ h)
    · exact go_to hΘ hm hx hP hn (hs := [⟨0, .new 1001, none⟩, ⟨1, .new 1002, none⟩, ⟨4, .callV [[]] (B r4), none⟩, ⟨6, .br false, none⟩, ⟨11, .br false, none⟩]) (π := [(1001, 1), (1002, 2)]) (ts := [2, 3, 4, 11, 12]) (kp := []) (ps := [Meets Try.prog 93 [(AV.agg ((o85 p2)))] (B r4), litA (B r4) = true, (!r4) = false, (p2.Code == 2) = false, RenOK [(1001, 1), (1002, 2)] [((r35 p1))], RenOK [(1001, 1), (1002, 2)] [((o85 p2))]]) (by kernel_rfl) ⟨(impl_Op_fits_m hr4), rfl, c6, c48, (rok (treeB t35 p1)), (rok rfl), trivial⟩ (impl_Prog_isGood_j0_m hP hn hx p1 p2 p3 (p2.Code == 3) _ h)
noncomputable def body75 : Code := match Try.f75.body with | some c => c | none => .skip
noncomputable def impl_GoodProg_1 (p1 : GOp) (p2 : GProg) (p3 : (List GOp)) : Option Bool :=
  Option.bind (impl_Prog_isGood p2 p1 (p3.length : Int)) fun r4 =>
  some (!r4)
theorem impl_GoodProg_1_m {p1 : GOp} {p2 : GProg} {p3 : (List GOp)} {r : Bool} (h : impl_GoodProg_1 p1 p2 p3 = some r) : Meets Try.prog 75 [(AV.agg ((o85 p1))), (AV.rop (r35 p2) 0), (AV.rop (r82 p3) 0)] (B r) := by
  refine meets_ofC Θ_ok Try.func75 rfl (c := body75) (by kernel_rfl) (Nat.le_of_ble_eq_true rfl) ?_
  intro E hP hn hx
  replace hn : E.n = 11 := hn
  have hm : E.P.follows .mixedOrders = true := by rw [hP]; exact mixed
  have hΘ : TOK E.P Θ := by rw [hP]; exact Θ_ok
  unfold impl_GoodProg_1 at h
  show WAt E body75 (FQ (RetE Θ Try.f75.results.toList [] [] (B r) E)) [] ⟨[(0, (AV.agg ((o85 p1)))), (1, (AV.rop (r35 p2) 0)), (2, (AV.rop (r82 p3) 0))], [], [JJ]⟩
  obtain ⟨r4, hr4, h⟩ := bnS h
  have h := Option.some.inj h
  subst h
  exact go_ret hΘ hm hP hn (hs := [⟨0, .new 1001, none⟩, ⟨5, .no, some (I (p3.length : Int))⟩, ⟨6, .callV [[], []] (B r4), none⟩]) (rh := []) (ph := .raw) (ps := [AV.lit (.int .i64 (((p3.map o85).length : Nat) : Int)) = (I (p3.length : Int)), Meets Try.prog 76 [(AV.agg ((r35 p2))), (AV.agg ((o85 p1))), (I (p3.length : Int))] (B r4), litA (B r4) = true, (B (!r4)) = (B (!r4)), litA (B (!r4)) = true]) (by kernel_rfl) ⟨(lenM o85), (impl_Prog_isGood_m hr4), rfl, rfl, rfl, trivial⟩
noncomputable def body92 : Code := match Try.f92.body with | some c => c | none => .skip
noncomputable def slices_IndexFunc_Op_Op__impl_GoodProg_1_l0  (p1 : (List GOp)) (p2 : GProg) (p3 : (List GOp)) : Nat → Int → Option Int
  | 0, _ => none
  | n + 1, v4 =>
  if (decide (v4 < (p1.length : Int))) = true then
    Option.bind (rd p1 v4) fun x6 =>
    Option.bind (impl_GoodProg_1 x6 p2 p3) fun r7 =>
    if r7 = true then
      some v4
    else
      slices_IndexFunc_Op_Op__impl_GoodProg_1_l0 p1 p2 p3 n (w64 (v4 + 1))
  else
    some (-1)
theorem slices_IndexFunc_Op_Op__impl_GoodProg_1_l0_m {E : Env} (hP : E.P = Try.prog) (hn : E.n = 19) (hx : ∀ p, p ∈ E.fx → p.1 ∈ ([] : List Nat)) (p1 : (List GOp)) (p2 : GProg) (p3 : (List GOp))  : ∀ (n : Nat) (v4 : Int) (r : Int), slices_IndexFunc_Op_Op__impl_GoodProg_1_l0 p1 p2 p3 n v4 = some r → WAt E body92 (FQ (RetE Θ Try.f92.results.toList [] [] (I r) E)) [true, false, true, false] ⟨[(0, (AV.ro 4 (p1.map o85))), (1, (AV.fn 75 [(AV.rop (r35 p2) 0), (AV.rop (r82 p3) 0)])), (7, (I (p1.length : Int))), (8, (I v4))], [], [JJ]⟩ := by
  have hm : E.P.follows .mixedOrders = true := by rw [hP]; exact mixed
  have hΘ : TOK E.P Θ := by rw [hP]; exact Θ_ok
  intro n
  induction n with
  | zero => intro v4 r h; simp only [slices_IndexFunc_Op_Op__impl_GoodProg_1_l0] at h; cases h
  | succ n ih =>
    intro v4 r h
    simp only [slices_IndexFunc_Op_Op__impl_GoodProg_1_l0] at h
    rcases itS h with ⟨c5, h⟩ | ⟨c10, h⟩
    · obtain ⟨x6, hx6, h⟩ := bnS h
      obtain ⟨r7, hr7, h⟩ := bnS h
      rcases itS h with ⟨c8, h⟩ | ⟨c9, h⟩
      · have h := Option.some.inj h
        subst h
        exact go_ret hΘ hm hP hn (hs := [⟨1, .br true, none⟩, ⟨7, .row (o85 x6), none⟩, ⟨9, .callV [[]] (B r7), none⟩, ⟨10, .br true, none⟩]) (rh := []) (ph := .raw) (ps := [(decide (v4 < (p1.length : Int))) = true, (0 : Int) ≤ v4, (p1.map o85)[(Int.toNat v4)]? = some (o85 x6), Meets Try.prog 75 [(AV.agg ((o85 x6))), (AV.rop (r35 p2) 0), (AV.rop (r82 p3) 0)] (B r7), litA (B r7) = true, r7 = true, (I v4) = (I v4), litA (I v4) = true]) (by kernel_rfl) ⟨c5, (rd0 hx6), (rdM o85 hx6), (impl_GoodProg_1_m hr7), rfl, c8, rfl, rfl, trivial⟩
      · exact go_to hΘ hm hx hP hn (hs := [⟨1, .br true, none⟩, ⟨7, .row (o85 x6), none⟩, ⟨9, .callV [[]] (B r7), none⟩, ⟨10, .br false, none⟩]) (π := []) (ts := [0, 1, 7, 8]) (kp := []) (ps := [(decide (v4 < (p1.length : Int))) = true, (0 : Int) ≤ v4, (p1.map o85)[(Int.toNat v4)]? = some (o85 x6), Meets Try.prog 75 [(AV.agg ((o85 x6))), (AV.rop (r35 p2) 0), (AV.rop (r82 p3) 0)] (B r7), litA (B r7) = true, r7 = false]) (by kernel_rfl) ⟨c5, (rd0 hx6), (rdM o85 hx6), (impl_GoodProg_1_m hr7), rfl, c9, trivial⟩ (ih (w64 (v4 + 1)) _ h)
    · have h := Option.some.inj h
      subst h
      exact go_ret hΘ hm hP hn (hs := [⟨1, .br false, none⟩]) (rh := []) (ph := .raw) (ps := [(decide (v4 < (p1.length : Int))) = false, (I (-1)) = (I (-1)), litA (I (-1)) = true]) (by kernel_rfl) ⟨c10, rfl, rfl, trivial⟩
noncomputable def slices_IndexFunc_Op_Op__impl_GoodProg_1 (p1 : (List GOp)) (p2 : GProg) (p3 : (List GOp)) : Option Int :=
  slices_IndexFunc_Op_Op__impl_GoodProg_1_l0 p1 p2 p3 FU 0
theorem slices_IndexFunc_Op_Op__impl_GoodProg_1_m {p1 : (List GOp)} {p2 : GProg} {p3 : (List GOp)} {r : Int} (h : slices_IndexFunc_Op_Op__impl_GoodProg_1 p1 p2 p3 = some r) : Meets Try.prog 92 [(AV.ro 4 (p1.map o85)), (AV.fn 75 [(AV.rop (r35 p2) 0), (AV.rop (r82 p3) 0)])] (I r) := by
  refine meets_ofC Θ_ok Try.func92 rfl (c := body92) (by kernel_rfl) (Nat.le_of_ble_eq_true rfl) ?_
  intro E hP hn hx
  replace hn : E.n = 19 := hn
  have hm : E.P.follows .mixedOrders = true := by rw [hP]; exact mixed
  have hΘ : TOK E.P Θ := by rw [hP]; exact Θ_ok
  unfold slices_IndexFunc_Op_Op__impl_GoodProg_1 at h
  show WAt E body92 (FQ (RetE Θ Try.f92.results.toList [] [] (I r) E)) [] ⟨[(0, (AV.ro 4 (p1.map o85))), (1, (AV.fn 75 [(AV.rop (r35 p2) 0), (AV.rop (r82 p3) 0)]))], [], [JJ]⟩
  exact go_to hΘ hm hx hP hn (hs := [⟨2, .no, some (I (p1.length : Int))⟩]) (π := []) (ts := [0, 1, 7, 8]) (kp := []) (ps := [AV.lit (.int .i64 (((p1.map o85).length : Nat) : Int)) = (I (p1.length : Int))]) (by kernel_rfl) ⟨(lenM o85), trivial⟩ (slices_IndexFunc_Op_Op__impl_GoodProg_1_l0_m hP hn hx p1 p2 p3 FU 0 _ h)
noncomputable def body74 : Code := match Try.f74.body with | some c => c | none => .skip
noncomputable def slices_ContainsFunc_Op_Op__impl_GoodProg_1 (p1 : (List GOp)) (p2 : GProg) (p3 : (List GOp)) : Option Bool :=
  Option.bind (slices_IndexFunc_Op_Op__impl_GoodProg_1 p1 p2 p3) fun r4 =>
  some (decide (r4 ≥ 0))
theorem slices_ContainsFunc_Op_Op__impl_GoodProg_1_m {p1 : (List GOp)} {p2 : GProg} {p3 : (List GOp)} {r : Bool} (h : slices_ContainsFunc_Op_Op__impl_GoodProg_1 p1 p2 p3 = some r) : Meets Try.prog 74 [(AV.ro 4 (p1.map o85)), (AV.fn 75 [(AV.rop (r35 p2) 0), (AV.rop (r82 p3) 0)])] (B r) := by
  refine meets_ofC Θ_ok Try.func74 rfl (c := body74) (by kernel_rfl) (Nat.le_of_ble_eq_true rfl) ?_
  intro E hP hn hx
  replace hn : E.n = 9 := hn
  have hm : E.P.follows .mixedOrders = true := by rw [hP]; exact mixed
  have hΘ : TOK E.P Θ := by rw [hP]; exact Θ_ok
  unfold slices_ContainsFunc_Op_Op__impl_GoodProg_1 at h
  show WAt E body74 (FQ (RetE Θ Try.f74.results.toList [] [] (B r) E)) [] ⟨[(0, (AV.ro 4 (p1.map o85))), (1, (AV.fn 75 [(AV.rop (r35 p2) 0), (AV.rop (r82 p3) 0)]))], [], [JJ]⟩
  obtain ⟨r4, hr4, h⟩ := bnS h
  have h := Option.some.inj h
  subst h
  exact go_ret hΘ hm hP hn (hs := [⟨3, .callV [] (I r4), none⟩]) (rh := []) (ph := .raw) (ps := [Meets Try.prog 92 [(AV.ro 4 (p1.map o85)), (AV.fn 75 [(AV.rop (r35 p2) 0), (AV.rop (r82 p3) 0)])] (I r4), litA (I r4) = true, (B (decide (r4 ≥ 0))) = (B (decide (r4 ≥ 0))), litA (B (decide (r4 ≥ 0))) = true]) (by kernel_rfl) ⟨(slices_IndexFunc_Op_Op__impl_GoodProg_1_m hr4), rfl, rfl, rfl, trivial⟩
noncomputable def body43 : Code := match Try.f43.body with | some c => c | none => .skip
noncomputable def impl_GoodProg_l0  (p1 : GProg) : Nat → GProg → Int → Option Bool
  | 0, _, _ => none
  | n + 1, a14, v15 =>
  if (decide (v15 < (p1.Routines.length : Int))) = true then
    Option.bind (rd p1.Routines v15) fun x17 =>
    if (decide ((x17.length : Int) > 24)) = true then
      some false
    else
      Option.bind (slices_ContainsFunc_Op_Op__impl_GoodProg_1 x17 a14 x17) fun r20 =>
      if r20 = true then
        some false
      else
        impl_GoodProg_l0 p1 n a14 (w64 (v15 + 1))
  else
    some true
theorem impl_GoodProg_l0_m {E : Env} (hP : E.P = Try.prog) (hn : E.n = 44) (hx : ∀ p, p ∈ E.fx → p.1 ∈ ([] : List Nat)) (p1 : GProg)  : ∀ (n : Nat) (a14 : GProg) (v15 : Int) (r : Bool), impl_GoodProg_l0 p1 n a14 v15 = some r → WAt E body43 (FQ (RetE Θ Try.f43.results.toList [] [] (B r) E)) [true, true, false, true, false] ⟨[(1, (AV.ptr 1 0 0)), (29, (AV.ro 1 (p1.Routines.map r82))), (30, (I (p1.Routines.length : Int))), (31, (I v15))], [(1, some ⟨35, 4, [((r35 a14))]⟩)], [1, JJ]⟩ := by
  have hm : E.P.follows .mixedOrders = true := by rw [hP]; exact mixed
  have hΘ : TOK E.P Θ := by rw [hP]; exact Θ_ok
  intro n
  induction n with
  | zero => intro a14 v15 r h; simp only [impl_GoodProg_l0] at h; cases h
  | succ n ih =>
    intro a14 v15 r h
    simp only [impl_GoodProg_l0] at h
    rcases itS h with ⟨c16, h⟩ | ⟨c23, h⟩
    · obtain ⟨x17, hx17, h⟩ := bnS h
      rcases itS h with ⟨c18, h⟩ | ⟨c19, h⟩
      · have h := Option.some.inj h
        subst h
        exact go_ret hΘ hm hP hn (hs := [⟨1, .br true, none⟩, ⟨2, .row (r82 x17), none⟩, ⟨4, .new 1001, none⟩, ⟨7, .no, some (I (x17.length : Int))⟩, ⟨9, .no, some (B true)⟩]) (rh := []) (ph := .raw) (ps := [(decide (v15 < (p1.Routines.length : Int))) = true, (0 : Int) ≤ v15, (p1.Routines.map r82)[(Int.toNat v15)]? = some (r82 x17), AV.lit (.int .i64 (((x17.map o85).length : Nat) : Int)) = (I (x17.length : Int)), (B (decide ((x17.length : Int) > 24))) = (B true), (B false) = (B false), litA (B false) = true]) (by kernel_rfl) ⟨c16, (rd0 hx17), (rdM r82 hx17), (lenM o85), (litB c18), rfl, rfl, trivial⟩
      · obtain ⟨r20, hr20, h⟩ := bnS h
        rcases itS h with ⟨c21, h⟩ | ⟨c22, h⟩
        · have h := Option.some.inj h
          subst h
          exact go_ret hΘ hm hP hn (hs := [⟨1, .br true, none⟩, ⟨2, .row (r82 x17), none⟩, ⟨4, .new 1001, none⟩, ⟨7, .no, some (I (x17.length : Int))⟩, ⟨9, .no, some (B false)⟩, ⟨12, .callV [[((r35 a14)), (r35 a14)], [[(AV.ro 4 (x17.map o85))], (r82 x17)]] (B r20), none⟩, ⟨14, .br true, none⟩]) (rh := []) (ph := .raw) (ps := [(decide (v15 < (p1.Routines.length : Int))) = true, (0 : Int) ≤ v15, (p1.Routines.map r82)[(Int.toNat v15)]? = some (r82 x17), AV.lit (.int .i64 (((x17.map o85).length : Nat) : Int)) = (I (x17.length : Int)), (B (decide ((x17.length : Int) > 24))) = (B false), Meets Try.prog 74 [(AV.ro 4 (x17.map o85)), (AV.fn 75 [(AV.rop (r35 a14) 0), (AV.rop (r82 x17) 0)])] (B r20), litA (B r20) = true, [((r35 a14))][0]? = some ((r35 a14)), treeL ((r35 a14)) = true, frzL ((r35 a14)) = (r35 a14), [[(AV.ro 4 (x17.map o85))]][0]? = some [(AV.ro 4 (x17.map o85))], treeL [(AV.ro 4 (x17.map o85))] = true, frzL [(AV.ro 4 (x17.map o85))] = (r82 x17), r20 = true, (B false) = (B false), litA (B false) = true]) (by kernel_rfl) ⟨c16, (rd0 hx17), (rdM r82 hx17), (lenM o85), (litB c19), (slices_ContainsFunc_Op_Op__impl_GoodProg_1_m hr20), rfl, rfl, rfl, rfl, rfl, rfl, rfl, c21, rfl, rfl, trivial⟩
        · exact go_to hΘ hm hx hP hn (hs := [⟨1, .br true, none⟩, ⟨2, .row (r82 x17), none⟩, ⟨4, .new 1001, none⟩, ⟨7, .no, some (I (x17.length : Int))⟩, ⟨9, .no, some (B false)⟩, ⟨12, .callV [[((r35 a14)), (r35 a14)], [[(AV.ro 4 (x17.map o85))], (r82 x17)]] (B r20), none⟩, ⟨14, .br false, none⟩]) (π := [(1, 1)]) (ts := [1, 29, 30, 31]) (kp := []) (ps := [(decide (v15 < (p1.Routines.length : Int))) = true, (0 : Int) ≤ v15, (p1.Routines.map r82)[(Int.toNat v15)]? = some (r82 x17), AV.lit (.int .i64 (((x17.map o85).length : Nat) : Int)) = (I (x17.length : Int)), (B (decide ((x17.length : Int) > 24))) = (B false), Meets Try.prog 74 [(AV.ro 4 (x17.map o85)), (AV.fn 75 [(AV.rop (r35 a14) 0), (AV.rop (r82 x17) 0)])] (B r20), litA (B r20) = true, [((r35 a14))][0]? = some ((r35 a14)), treeL ((r35 a14)) = true, frzL ((r35 a14)) = (r35 a14), [[(AV.ro 4 (x17.map o85))]][0]? = some [(AV.ro 4 (x17.map o85))], treeL [(AV.ro 4 (x17.map o85))] = true, frzL [(AV.ro 4 (x17.map o85))] = (r82 x17), r20 = false, RenOK [(1, 1)] [((r35 a14))]]) (by kernel_rfl) ⟨c16, (rd0 hx17), (rdM r82 hx17), (lenM o85), (litB c19), (slices_ContainsFunc_Op_Op__impl_GoodProg_1_m hr20), rfl, rfl, rfl, rfl, rfl, rfl, rfl, c22, (rok (treeB t35 a14)), trivial⟩ (ih a14 (w64 (v15 + 1)) _ h)
    · have h := Option.some.inj h
      subst h
      exact go_ret hΘ hm hP hn (hs := [⟨1, .br false, none⟩]) (rh := []) (ph := .raw) (ps := [(decide (v15 < (p1.Routines.length : Int))) = false, (B true) = (B true), litA (B true) = true]) (by kernel_rfl) ⟨c23, rfl, rfl, trivial⟩
noncomputable def impl_GoodProg (p1 : GProg) : Option Bool :=
  Option.bind (impl_in p1.Cells 0 4) fun r2 =>
  if (!r2) = true then
    some false
  else
    Option.bind (impl_in p1.Locks 0 4) fun r5 =>
    if (!r5) = true then
      some false
    else
      Option.bind (impl_in p1.Conds 0 2) fun r8 =>
      if (!r8) = true then
        some false
      else
        Option.bind (impl_in (p1.Routines.length : Int) 1 4) fun r11 =>
        if (!r11) = true then
          some false
        else
          impl_GoodProg_l0 p1 FU p1 0
theorem impl_GoodProg_m {p1 : GProg} {r : Bool} (h : impl_GoodProg p1 = some r) : Meets Try.prog 43 [(AV.agg ((r35 p1)))] (B r) := by
  refine meets_ofC Θ_ok Try.func43 rfl (c := body43) (by kernel_rfl) (Nat.le_of_ble_eq_true rfl) ?_
  intro E hP hn hx
  replace hn : E.n = 44 := hn
  have hm : E.P.follows .mixedOrders = true := by rw [hP]; exact mixed
  have hΘ : TOK E.P Θ := by rw [hP]; exact Θ_ok
  unfold impl_GoodProg at h
  show WAt E body43 (FQ (RetE Θ Try.f43.results.toList [] [] (B r) E)) [] ⟨[(0, (AV.agg ((r35 p1))))], [], [JJ]⟩
  obtain ⟨r2, hr2, h⟩ := bnS h
  rcases itS h with ⟨c3, h⟩ | ⟨c4, h⟩
  · have h := Option.some.inj h
    subst h
    exact go_ret hΘ hm hP hn (hs := [⟨0, .new 1001, none⟩, ⟨4, .callV [] (B r2), none⟩, ⟨6, .no, some (B true)⟩]) (rh := []) (ph := .raw) (ps := [Meets Try.prog 44 [(I p1.Cells), (I 0), (I 4)] (B r2), litA (B r2) = true, (B (!r2)) = (B true), (B false) = (B false), litA (B false) = true]) (by kernel_rfl) ⟨(impl_in_m hr2), rfl, (litB c3), rfl, rfl, trivial⟩
  · obtain ⟨r5, hr5, h⟩ := bnS h
    rcases itS h with ⟨c6, h⟩ | ⟨c7, h⟩
    · have h := Option.some.inj h
      subst h
      exact go_ret hΘ hm hP hn (hs := [⟨0, .new 1001, none⟩, ⟨4, .callV [] (B r2), none⟩, ⟨6, .no, some (B false)⟩, ⟨9, .callV [] (B r5), none⟩, ⟨12, .no, some (B true)⟩]) (rh := []) (ph := .raw) (ps := [Meets Try.prog 44 [(I p1.Cells), (I 0), (I 4)] (B r2), litA (B r2) = true, (B (!r2)) = (B false), Meets Try.prog 44 [(I p1.Locks), (I 0), (I 4)] (B r5), litA (B r5) = true, (B (!r5)) = (B true), (B false) = (B false), litA (B false) = true]) (by kernel_rfl) ⟨(impl_in_m hr2), rfl, (litB c4), (impl_in_m hr5), rfl, (litB c6), rfl, rfl, trivial⟩
    · obtain ⟨r8, hr8, h⟩ := bnS h
      rcases itS h with ⟨c9, h⟩ | ⟨c10, h⟩
      · have h := Option.some.inj h
        subst h
        exact go_ret hΘ hm hP hn (hs := [⟨0, .new 1001, none⟩, ⟨4, .callV [] (B r2), none⟩, ⟨6, .no, some (B false)⟩, ⟨9, .callV [] (B r5), none⟩, ⟨12, .no, some (B false)⟩, ⟨15, .callV [] (B r8), none⟩, ⟨18, .no, some (B true)⟩]) (rh := []) (ph := .raw) (ps := [Meets Try.prog 44 [(I p1.Cells), (I 0), (I 4)] (B r2), litA (B r2) = true, (B (!r2)) = (B false), Meets Try.prog 44 [(I p1.Locks), (I 0), (I 4)] (B r5), litA (B r5) = true, (B (!r5)) = (B false), Meets Try.prog 44 [(I p1.Conds), (I 0), (I 2)] (B r8), litA (B r8) = true, (B (!r8)) = (B true), (B false) = (B false), litA (B false) = true]) (by kernel_rfl) ⟨(impl_in_m hr2), rfl, (litB c4), (impl_in_m hr5), rfl, (litB c7), (impl_in_m hr8), rfl, (litB c9), rfl, rfl, trivial⟩
      · obtain ⟨r11, hr11, h⟩ := bnS h
        rcases itS h with ⟨c12, h⟩ | ⟨c13, h⟩
        · have h := Option.some.inj h
          subst h
          exact go_ret hΘ hm hP hn (hs := [⟨0, .new 1001, none⟩, ⟨4, .callV [] (B r2), none⟩, ⟨6, .no, some (B false)⟩, ⟨9, .callV [] (B r5), none⟩, ⟨12, .no, some (B false)⟩, ⟨15, .callV [] (B r8), none⟩, ⟨18, .no, some (B false)⟩, ⟨21, .no, some (I (p1.Routines.length : Int))⟩, ⟨22, .callV [] (B r11), none⟩, ⟨25, .br true, none⟩]) (rh := []) (ph := .raw) (ps := [Meets Try.prog 44 [(I p1.Cells), (I 0), (I 4)] (B r2), litA (B r2) = true, (B (!r2)) = (B false), Meets Try.prog 44 [(I p1.Locks), (I 0), (I 4)] (B r5), litA (B r5) = true, (B (!r5)) = (B false), Meets Try.prog 44 [(I p1.Conds), (I 0), (I 2)] (B r8), litA (B r8) = true, (B (!r8)) = (B false), AV.lit (.int .i64 (((p1.Routines.map r82).length : Nat) : Int)) = (I (p1.Routines.length : Int)), Meets Try.prog 44 [(I (p1.Routines.length : Int)), (I 1), (I 4)] (B r11), litA (B r11) = true, (!r11) = true, (B false) = (B false), litA (B false) = true]) (by kernel_rfl) ⟨(impl_in_m hr2), rfl, (litB c4), (impl_in_m hr5), rfl, (litB c7), (impl_in_m hr8), rfl, (litB c10), (lenM r82), (impl_in_m hr11), rfl, c12, rfl, rfl, trivial⟩
        · exact go_to hΘ hm hx hP hn (hs := [⟨0, .new 1001, none⟩, ⟨4, .callV [] (B r2), none⟩, ⟨6, .no, some (B false)⟩, ⟨9, .callV [] (B r5), none⟩, ⟨12, .no, some (B false)⟩, ⟨15, .callV [] (B r8), none⟩, ⟨18, .no, some (B false)⟩, ⟨21, .no, some (I (p1.Routines.length : Int))⟩, ⟨22, .callV [] (B r11), none⟩, ⟨25, .br false, none⟩, ⟨28, .no, some (I (p1.Routines.length : Int))⟩]) (π := [(1001, 1)]) (ts := [1, 29, 30, 31]) (kp := []) (ps := [Meets Try.prog 44 [(I p1.Cells), (I 0), (I 4)] (B r2), litA (B r2) = true, (B (!r2)) = (B false), Meets Try.prog 44 [(I p1.Locks), (I 0), (I 4)] (B r5), litA (B r5) = true, (B (!r5)) = (B false), Meets Try.prog 44 [(I p1.Conds), (I 0), (I 2)] (B r8), litA (B r8) = true, (B (!r8)) = (B false), AV.lit (.int .i64 (((p1.Routines.map r82).length : Nat) : Int)) = (I (p1.Routines.length : Int)), Meets Try.prog 44 [(I (p1.Routines.length : Int)), (I 1), (I 4)] (B r11), litA (B r11) = true, (!r11) = false, AV.lit (.int .i64 (((p1.Routines.map r82).length : Nat) : Int)) = (I (p1.Routines.length : Int)), RenOK [(1001, 1)] [((r35 p1))]]) (by kernel_rfl) ⟨(impl_in_m hr2), rfl, (litB c4), (impl_in_m hr5), rfl, (litB c7), (impl_in_m hr8), rfl, (litB c10), (lenM r82), (impl_in_m hr11), rfl, c13, (lenM r82), (rok (treeB t35 p1)), trivial⟩ (impl_GoodProg_l0_m hP hn hx p1 FU p1 0 _ h)
noncomputable def body47 : Code := match Try.f47.body with | some c => c | none => .skip
noncomputable def impl_Thread_isGood_j1  (p1 : GThread) (p2 : GProg)  : Option Bool :=
  Option.bind (impl_in p1.Cond 0 (w64 (p2.Conds - 1))) fun r16 =>
  if r16 = true then
    Option.bind (impl_in p1.Lock 0 (w64 (p2.Locks - 1))) fun r18 =>
    some r18
  else
    some false
theorem impl_Thread_isGood_j1_m {E : Env} (hP : E.P = Try.prog) (hn : E.n = 68) (hx : ∀ p, p ∈ E.fx → p.1 ∈ ([] : List Nat)) (p1 : GThread) (p2 : GProg)   (r : Bool) (h : impl_Thread_isGood_j1 p1 p2  = some r) : WAt E body47 (FQ (RetE Θ Try.f47.results.toList [] [] (B r) E)) [true, true, false, true, false] ⟨[(2, (AV.ptr 1 0 0)), (3, (AV.ptr 2 0 0))], [(1, some ⟨70, 6, [((r70 p1))]⟩), (2, some ⟨35, 4, [((r35 p2))]⟩)], [1, 2, JJ]⟩ := by
  have hm : E.P.follows .mixedOrders = true := by rw [hP]; exact mixed
  have hΘ : TOK E.P Θ := by rw [hP]; exact Θ_ok
  unfold impl_Thread_isGood_j1 at h
  obtain ⟨r16, hr16, h⟩ := bnS h
  rcases itS h with ⟨c17, h⟩ | ⟨c19, h⟩
  · obtain ⟨r18, hr18, h⟩ := bnS h
    have h := Option.some.inj h
    subst h
    exact go_ret hΘ hm hP hn (hs := [⟨5, .callV [] (B r16), none⟩, ⟨6, .no, some (B true)⟩, ⟨12, .callV [] (B r18), none⟩]) (rh := []) (ph := .raw) (ps := [Meets Try.prog 44 [(I p1.Cond), (I 0), (I (w64 (p2.Conds - 1)))] (B r16), litA (B r16) = true, (B r16) = (B true), Meets Try.prog 44 [(I p1.Lock), (I 0), (I (w64 (p2.Locks - 1)))] (B r18), litA (B r18) = true, (B r18) = (B r18), litA (B r18) = true]) (by kernel_rfl) ⟨(impl_in_m hr16), rfl, (litB c17), (impl_in_m hr18), rfl, rfl, rfl, trivial⟩
  · have h := Option.some.inj h
    subst h
    exact go_ret hΘ hm hP hn (hs := [⟨5, .callV [] (B r16), none⟩, ⟨6, .no, some (B false)⟩]) (rh := []) (ph := .raw) (ps := [Meets Try.prog 44 [(I p1.Cond), (I 0), (I (w64 (p2.Conds - 1)))] (B r16), litA (B r16) = true, (B r16) = (B false), (B false) = (B false), litA (B false) = true]) (by kernel_rfl) ⟨(impl_in_m hr16), rfl, (litB c19), rfl, rfl, trivial⟩
noncomputable def impl_Thread_isGood_j0  (p1 : GThread) (p2 : GProg)  : Option Bool :=
  if (p1.State == 3) = true then
    impl_Thread_isGood_j1 p1 p2
  else
    if (p1.State == 4) = true then
      impl_Thread_isGood_j1 p1 p2
    else
      if (p1.Cond == (-1)) = true then
        some (p1.Lock == (-1))
      else
        some false
theorem impl_Thread_isGood_j0_m {E : Env} (hP : E.P = Try.prog) (hn : E.n = 68) (hx : ∀ p, p ∈ E.fx → p.1 ∈ ([] : List Nat)) (p1 : GThread) (p2 : GProg)   (r : Bool) (h : impl_Thread_isGood_j0 p1 p2  = some r) : WAt E body47 (FQ (RetE Θ Try.f47.results.toList [] [] (B r) E)) [true, false, true, true] ⟨[(2, (AV.ptr 1 0 0)), (3, (AV.ptr 2 0 0))], [(1, some ⟨70, 6, [((r70 p1))]⟩), (2, some ⟨35, 4, [((r35 p2))]⟩)], [1, 2, JJ]⟩ := by
  have hm : E.P.follows .mixedOrders = true := by rw [hP]; exact mixed
  have hΘ : TOK E.P Θ := by rw [hP]; exact Θ_ok
  unfold impl_Thread_isGood_j0 at h
  rcases itS h with ⟨c15, h⟩ | ⟨c20, h⟩
  · exact go_to hΘ hm hx hP hn (hs := [⟨3, .no, some (B true)⟩]) (π := [(1, 1), (2, 2)]) (ts := [2, 3]) (kp := []) (ps := [(B (p1.State == 3)) = (B true), RenOK [(1, 1), (2, 2)] [((r70 p1))], RenOK [(1, 1), (2, 2)] [((r35 p2))]]) (by kernel_rfl) ⟨(litB c15), (rok (treeB t70 p1)), (rok (treeB t35 p2)), trivial⟩ (impl_Thread_isGood_j1_m hP hn hx p1 p2  _ h)
  · rcases itS h with ⟨c21, h⟩ | ⟨c22, h⟩
    · exact go_to hΘ hm hx hP hn (hs := [⟨3, .no, some (B false)⟩, ⟨8, .br true, none⟩]) (π := [(1, 1), (2, 2)]) (ts := [2, 3]) (kp := []) (ps := [(B (p1.State == 3)) = (B false), (p1.State == 4) = true, RenOK [(1, 1), (2, 2)] [((r70 p1))], RenOK [(1, 1), (2, 2)] [((r35 p2))]]) (by kernel_rfl) ⟨(litB c20), c21, (rok (treeB t70 p1)), (rok (treeB t35 p2)), trivial⟩ (impl_Thread_isGood_j1_m hP hn hx p1 p2  _ h)
    · rcases itS h with ⟨c23, h⟩ | ⟨c24, h⟩
      · have h := Option.some.inj h
        subst h
        exact go_ret hΘ hm hP hn (hs := [⟨3, .no, some (B false)⟩, ⟨8, .br false, none⟩, ⟨12, .no, some (B true)⟩]) (rh := []) (ph := .raw) (ps := [(B (p1.State == 3)) = (B false), (p1.State == 4) = false, (B (p1.Cond == (-1))) = (B true), (B (p1.Lock == (-1))) = (B (p1.Lock == (-1))), litA (B (p1.Lock == (-1))) = true]) (by kernel_rfl) ⟨(litB c20), c22, (litB c23), rfl, rfl, trivial⟩
      · have h := Option.some.inj h
        subst h
        exact go_ret hΘ hm hP hn (hs := [⟨3, .no, some (B false)⟩, ⟨8, .br false, none⟩, ⟨12, .no, some (B false)⟩]) (rh := []) (ph := .raw) (ps := [(B (p1.State == 3)) = (B false), (p1.State == 4) = false, (B (p1.Cond == (-1))) = (B false), (B false) = (B false), litA (B false) = true]) (by kernel_rfl) ⟨(litB c20), c22, (litB c24), rfl, rfl, trivial⟩
noncomputable def impl_Thread_isGood (p1 : GThread) (p2 : GProg) : Option Bool :=
  Option.bind (impl_in p1.Routine 0 (w64 ((p2.Routines.length : Int) - 1))) fun r3 =>
  if (!r3) = true then
    some false
  else
    Option.bind (rd p2.Routines p1.Routine) fun x6 =>
    Option.bind (impl_in p1.Pc 0 (x6.length : Int)) fun r7 =>
    if (!r7) = true then
      some false
    else
      Option.bind (impl_in p1.State 1 4) fun r10 =>
      if (!r10) = true then
        some false
      else
        if (decide ((p1.Stack.length : Int) > 8)) = true then
          some false
        else
          impl_Thread_isGood_j0 p1 p2
theorem impl_Thread_isGood_m {p1 : GThread} {p2 : GProg} {r : Bool} (h : impl_Thread_isGood p1 p2 = some r) : Meets Try.prog 47 [(AV.agg ((r70 p1))), (AV.agg ((r35 p2)))] (B r) := by
  refine meets_ofC Θ_ok Try.func47 rfl (c := body47) (by kernel_rfl) (Nat.le_of_ble_eq_true rfl) ?_
  intro E hP hn hx
  replace hn : E.n = 68 := hn
  have hm : E.P.follows .mixedOrders = true := by rw [hP]; exact mixed
  have hΘ : TOK E.P Θ := by rw [hP]; exact Θ_ok
  unfold impl_Thread_isGood at h
  show WAt E body47 (FQ (RetE Θ Try.f47.results.toList [] [] (B r) E)) [] ⟨[(0, (AV.agg ((r70 p1)))), (1, (AV.agg ((r35 p2))))], [], [JJ]⟩
  obtain ⟨r3, hr3, h⟩ := bnS h
  rcases itS h with ⟨c4, h⟩ | ⟨c5, h⟩
  · have h := Option.some.inj h
    subst h
    exact go_ret hΘ hm hP hn (hs := [⟨0, .new 1001, none⟩, ⟨1, .new 1002, none⟩, ⟨7, .no, some (I (p2.Routines.length : Int))⟩, ⟨9, .callV [] (B r3), none⟩, ⟨11, .no, some (B true)⟩]) (rh := []) (ph := .raw) (ps := [AV.lit (.int .i64 (((p2.Routines.map r82).length : Nat) : Int)) = (I (p2.Routines.length : Int)), Meets Try.prog 44 [(I p1.Routine), (I 0), (I (w64 ((p2.Routines.length : Int) - 1)))] (B r3), litA (B r3) = true, (B (!r3)) = (B true), (B false) = (B false), litA (B false) = true]) (by kernel_rfl) ⟨(lenM r82), (impl_in_m hr3), rfl, (litB c4), rfl, rfl, trivial⟩
  · obtain ⟨x6, hx6, h⟩ := bnS h
    obtain ⟨r7, hr7, h⟩ := bnS h
    rcases itS h with ⟨c8, h⟩ | ⟨c9, h⟩
    · have h := Option.some.inj h
      subst h
      exact go_ret hΘ hm hP hn (hs := [⟨0, .new 1001, none⟩, ⟨1, .new 1002, none⟩, ⟨7, .no, some (I (p2.Routines.length : Int))⟩, ⟨9, .callV [] (B r3), none⟩, ⟨11, .no, some (B false)⟩, ⟨18, .row (r82 x6), none⟩, ⟨20, .no, some (I (x6.length : Int))⟩, ⟨21, .callV [] (B r7), none⟩, ⟨24, .no, some (B true)⟩]) (rh := []) (ph := .raw) (ps := [AV.lit (.int .i64 (((p2.Routines.map r82).length : Nat) : Int)) = (I (p2.Routines.length : Int)), Meets Try.prog 44 [(I p1.Routine), (I 0), (I (w64 ((p2.Routines.length : Int) - 1)))] (B r3), litA (B r3) = true, (B (!r3)) = (B false), (0 : Int) ≤ p1.Routine, (p2.Routines.map r82)[(Int.toNat p1.Routine)]? = some (r82 x6), AV.lit (.int .i64 (((x6.map o85).length : Nat) : Int)) = (I (x6.length : Int)), Meets Try.prog 44 [(I p1.Pc), (I 0), (I (x6.length : Int))] (B r7), litA (B r7) = true, (B (!r7)) = (B true), (B false) = (B false), litA (B false) = true]) (by kernel_rfl) ⟨(lenM r82), (impl_in_m hr3), rfl, (litB c5), (rd0 hx6), (rdM r82 hx6), (lenM o85), (impl_in_m hr7), rfl, (litB c8), rfl, rfl, trivial⟩
    · obtain ⟨r10, hr10, h⟩ := bnS h
      rcases itS h with ⟨c11, h⟩ | ⟨c12, h⟩
      · have h := Option.some.inj h
        subst h
        exact go_ret hΘ hm hP hn (hs := [⟨0, .new 1001, none⟩, ⟨1, .new 1002, none⟩, ⟨7, .no, some (I (p2.Routines.length : Int))⟩, ⟨9, .callV [] (B r3), none⟩, ⟨11, .no, some (B false)⟩, ⟨18, .row (r82 x6), none⟩, ⟨20, .no, some (I (x6.length : Int))⟩, ⟨21, .callV [] (B r7), none⟩, ⟨24, .no, some (B false)⟩, ⟨27, .callV [] (B r10), none⟩, ⟨30, .no, some (B true)⟩]) (rh := []) (ph := .raw) (ps := [AV.lit (.int .i64 (((p2.Routines.map r82).length : Nat) : Int)) = (I (p2.Routines.length : Int)), Meets Try.prog 44 [(I p1.Routine), (I 0), (I (w64 ((p2.Routines.length : Int) - 1)))] (B r3), litA (B r3) = true, (B (!r3)) = (B false), (0 : Int) ≤ p1.Routine, (p2.Routines.map r82)[(Int.toNat p1.Routine)]? = some (r82 x6), AV.lit (.int .i64 (((x6.map o85).length : Nat) : Int)) = (I (x6.length : Int)), Meets Try.prog 44 [(I p1.Pc), (I 0), (I (x6.length : Int))] (B r7), litA (B r7) = true, (B (!r7)) = (B false), Meets Try.prog 44 [(I p1.State), (I 1), (I 4)] (B r10), litA (B r10) = true, (B (!r10)) = (B true), (B false) = (B false), litA (B false) = true]) (by kernel_rfl) ⟨(lenM r82), (impl_in_m hr3), rfl, (litB c5), (rd0 hx6), (rdM r82 hx6), (lenM o85), (impl_in_m hr7), rfl, (litB c9), (impl_in_m hr10), rfl, (litB c11), rfl, rfl, trivial⟩
      · rcases itS h with ⟨c13, h⟩ | ⟨c14, h⟩
        · have h := Option.some.inj h
          subst h
          exact go_ret hΘ hm hP hn (hs := [⟨0, .new 1001, none⟩, ⟨1, .new 1002, none⟩, ⟨7, .no, some (I (p2.Routines.length : Int))⟩, ⟨9, .callV [] (B r3), none⟩, ⟨11, .no, some (B false)⟩, ⟨18, .row (r82 x6), none⟩, ⟨20, .no, some (I (x6.length : Int))⟩, ⟨21, .callV [] (B r7), none⟩, ⟨24, .no, some (B false)⟩, ⟨27, .callV [] (B r10), none⟩, ⟨30, .no, some (B false)⟩, ⟨33, .no, some (I (p1.Stack.length : Int))⟩, ⟨36, .br true, none⟩]) (rh := []) (ph := .raw) (ps := [AV.lit (.int .i64 (((p2.Routines.map r82).length : Nat) : Int)) = (I (p2.Routines.length : Int)), Meets Try.prog 44 [(I p1.Routine), (I 0), (I (w64 ((p2.Routines.length : Int) - 1)))] (B r3), litA (B r3) = true, (B (!r3)) = (B false), (0 : Int) ≤ p1.Routine, (p2.Routines.map r82)[(Int.toNat p1.Routine)]? = some (r82 x6), AV.lit (.int .i64 (((x6.map o85).length : Nat) : Int)) = (I (x6.length : Int)), Meets Try.prog 44 [(I p1.Pc), (I 0), (I (x6.length : Int))] (B r7), litA (B r7) = true, (B (!r7)) = (B false), Meets Try.prog 44 [(I p1.State), (I 1), (I 4)] (B r10), litA (B r10) = true, (B (!r10)) = (B false), AV.lit (.int .i64 (((p1.Stack.map o83).length : Nat) : Int)) = (I (p1.Stack.length : Int)), (decide ((p1.Stack.length : Int) > 8)) = true, (B false) = (B false), litA (B false) = true]) (by kernel_rfl) ⟨(lenM r82), (impl_in_m hr3), rfl, (litB c5), (rd0 hx6), (rdM r82 hx6), (lenM o85), (impl_in_m hr7), rfl, (litB c9), (impl_in_m hr10), rfl, (litB c12), (lenM o83), c13, rfl, rfl, trivial⟩
        · exact go_to hΘ hm hx hP hn (hs := [⟨0, .new 1001, none⟩, ⟨1, .new 1002, none⟩, ⟨7, .no, some (I (p2.Routines.length : Int))⟩, ⟨9, .callV [] (B r3), none⟩, ⟨11, .no, some (B false)⟩, ⟨18, .row (r82 x6), none⟩, ⟨20, .no, some (I (x6.length : Int))⟩, ⟨21, .callV [] (B r7), none⟩, ⟨24, .no, some (B false)⟩, ⟨27, .callV [] (B r10), none⟩, ⟨30, .no, some (B false)⟩, ⟨33, .no, some (I (p1.Stack.length : Int))⟩, ⟨36, .br false, none⟩]) (π := [(1001, 1), (1002, 2)]) (ts := [2, 3]) (kp := []) (ps := [AV.lit (.int .i64 (((p2.Routines.map r82).length : Nat) : Int)) = (I (p2.Routines.length : Int)), Meets Try.prog 44 [(I p1.Routine), (I 0), (I (w64 ((p2.Routines.length : Int) - 1)))] (B r3), litA (B r3) = true, (B (!r3)) = (B false), (0 : Int) ≤ p1.Routine, (p2.Routines.map r82)[(Int.toNat p1.Routine)]? = some (r82 x6), AV.lit (.int .i64 (((x6.map o85).length : Nat) : Int)) = (I (x6.length : Int)), Meets Try.prog 44 [(I p1.Pc), (I 0), (I (x6.length : Int))] (B r7), litA (B r7) = true, (B (!r7)) = (B false), Meets Try.prog 44 [(I p1.State), (I 1), (I 4)] (B r10), litA (B r10) = true, (B (!r10)) = (B false), AV.lit (.int .i64 (((p1.Stack.map o83).length : Nat) : Int)) = (I (p1.Stack.length : Int)), (decide ((p1.Stack.length : Int) > 8)) = false, RenOK [(1001, 1), (1002, 2)] [((r70 p1))], RenOK [(1001, 1), (1002, 2)] [((r35 p2))]]) (by kernel_rfl) ⟨(lenM r82), (impl_in_m hr3), rfl, (litB c5), (rd0 hx6), (rdM r82 hx6), (lenM o85), (impl_in_m hr7), rfl, (litB c9), (impl_in_m hr10), rfl, (litB c12), (lenM o83), c14, (rok (treeB t70 p1)), (rok (treeB t35 p2)), trivial⟩ (impl_Thread_isGood_j0_m hP hn hx p1 p2  _ h)
noncomputable def body46 : Code := match Try.f46.body with | some c => c | none => .skip
noncomputable def impl_GoodState_1 (p1 : GThread) (p2 : GProg) : Option Bool :=
  Option.bind (impl_Thread_isGood p1 p2) fun r3 =>
  some (!r3)
theorem impl_GoodState_1_m {p1 : GThread} {p2 : GProg} {r : Bool} (h : impl_GoodState_1 p1 p2 = some r) : Meets Try.prog 46 [(AV.agg ((r70 p1))), (AV.rop (r35 p2) 0)] (B r) := by
  refine meets_ofC Θ_ok Try.func46 rfl (c := body46) (by kernel_rfl) (Nat.le_of_ble_eq_true rfl) ?_
  intro E hP hn hx
  replace hn : E.n = 8 := hn
  have hm : E.P.follows .mixedOrders = true := by rw [hP]; exact mixed
  have hΘ : TOK E.P Θ := by rw [hP]; exact Θ_ok
  unfold impl_GoodState_1 at h
  show WAt E body46 (FQ (RetE Θ Try.f46.results.toList [] [] (B r) E)) [] ⟨[(0, (AV.agg ((r70 p1)))), (1, (AV.rop (r35 p2) 0))], [], [JJ]⟩
  obtain ⟨r3, hr3, h⟩ := bnS h
  have h := Option.some.inj h
  subst h
  exact go_ret hΘ hm hP hn (hs := [⟨0, .new 1001, none⟩, ⟨4, .callV [[], []] (B r3), none⟩]) (rh := []) (ph := .raw) (ps := [Meets Try.prog 47 [(AV.agg ((r70 p1))), (AV.agg ((r35 p2)))] (B r3), litA (B r3) = true, (B (!r3)) = (B (!r3)), litA (B (!r3)) = true]) (by kernel_rfl) ⟨(impl_Thread_isGood_m hr3), rfl, rfl, rfl, trivial⟩
noncomputable def body77 : Code := match Try.f77.body with | some c => c | none => .skip
noncomputable def slices_IndexFunc_Thread_Thread__impl_GoodState_1_l0  (p1 : (List GThread)) (p2 : GProg) : Nat → Int → Option Int
  | 0, _ => none
  | n + 1, v3 =>
  if (decide (v3 < (p1.length : Int))) = true then
    Option.bind (rd p1 v3) fun x5 =>
    Option.bind (impl_GoodState_1 x5 p2) fun r6 =>
    if r6 = true then
      some v3
    else
      slices_IndexFunc_Thread_Thread__impl_GoodState_1_l0 p1 p2 n (w64 (v3 + 1))
  else
    some (-1)
theorem slices_IndexFunc_Thread_Thread__impl_GoodState_1_l0_m {E : Env} (hP : E.P = Try.prog) (hn : E.n = 19) (hx : ∀ p, p ∈ E.fx → p.1 ∈ ([] : List Nat)) (p1 : (List GThread)) (p2 : GProg)  : ∀ (n : Nat) (v3 : Int) (r : Int), slices_IndexFunc_Thread_Thread__impl_GoodState_1_l0 p1 p2 n v3 = some r → WAt E body77 (FQ (RetE Θ Try.f77.results.toList [] [] (I r) E)) [true, false, true, false] ⟨[(0, (AV.ro 6 (p1.map r70))), (1, (AV.fn 46 [(AV.rop (r35 p2) 0)])), (7, (I (p1.length : Int))), (8, (I v3))], [], [JJ]⟩ := by
  have hm : E.P.follows .mixedOrders = true := by rw [hP]; exact mixed
  have hΘ : TOK E.P Θ := by rw [hP]; exact Θ_ok
  intro n
  induction n with
  | zero => intro v3 r h; simp only [slices_IndexFunc_Thread_Thread__impl_GoodState_1_l0] at h; cases h
  | succ n ih =>
    intro v3 r h
    simp only [slices_IndexFunc_Thread_Thread__impl_GoodState_1_l0] at h
    rcases itS h with ⟨c4, h⟩ | ⟨c9, h⟩
    · obtain ⟨x5, hx5, h⟩ := bnS h
      obtain ⟨r6, hr6, h⟩ := bnS h
      rcases itS h with ⟨c7, h⟩ | ⟨c8, h⟩
      · have h := Option.some.inj h
        subst h
        exact go_ret hΘ hm hP hn (hs := [⟨1, .br true, none⟩, ⟨7, .row (r70 x5), none⟩, ⟨9, .callV [[]] (B r6), none⟩, ⟨10, .br true, none⟩]) (rh := []) (ph := .raw) (ps := [(decide (v3 < (p1.length : Int))) = true, (0 : Int) ≤ v3, (p1.map r70)[(Int.toNat v3)]? = some (r70 x5), Meets Try.prog 46 [(AV.agg ((r70 x5))), (AV.rop (r35 p2) 0)] (B r6), litA (B r6) = true, r6 = true, (I v3) = (I v3), litA (I v3) = true]) (by kernel_rfl) ⟨c4, (rd0 hx5), (rdM r70 hx5), (impl_GoodState_1_m hr6), rfl, c7, rfl, rfl, trivial⟩
      · exact go_to hΘ hm hx hP hn (hs := [⟨1, .br true, none⟩, ⟨7, .row (r70 x5), none⟩, ⟨9, .callV [[]] (B r6), none⟩, ⟨10, .br false, none⟩]) (π := []) (ts := [0, 1, 7, 8]) (kp := []) (ps := [(decide (v3 < (p1.length : Int))) = true, (0 : Int) ≤ v3, (p1.map r70)[(Int.toNat v3)]? = some (r70 x5), Meets Try.prog 46 [(AV.agg ((r70 x5))), (AV.rop (r35 p2) 0)] (B r6), litA (B r6) = true, r6 = false]) (by kernel_rfl) ⟨c4, (rd0 hx5), (rdM r70 hx5), (impl_GoodState_1_m hr6), rfl, c8, trivial⟩ (ih (w64 (v3 + 1)) _ h)
    · have h := Option.some.inj h
      subst h
      exact go_ret hΘ hm hP hn (hs := [⟨1, .br false, none⟩]) (rh := []) (ph := .raw) (ps := [(decide (v3 < (p1.length : Int))) = false, (I (-1)) = (I (-1)), litA (I (-1)) = true]) (by kernel_rfl) ⟨c9, rfl, rfl, trivial⟩
noncomputable def slices_IndexFunc_Thread_Thread__impl_GoodState_1 (p1 : (List GThread)) (p2 : GProg) : Option Int :=
  slices_IndexFunc_Thread_Thread__impl_GoodState_1_l0 p1 p2 FU 0
theorem slices_IndexFunc_Thread_Thread__impl_GoodState_1_m {p1 : (List GThread)} {p2 : GProg} {r : Int} (h : slices_IndexFunc_Thread_Thread__impl_GoodState_1 p1 p2 = some r) : Meets Try.prog 77 [(AV.ro 6 (p1.map r70)), (AV.fn 46 [(AV.rop (r35 p2) 0)])] (I r) := by
  refine meets_ofC Θ_ok Try.func77 rfl (c := body77) (by kernel_rfl) (Nat.le_of_ble_eq_true rfl) ?_
  intro E hP hn hx
  replace hn : E.n = 19 := hn
  have hm : E.P.follows .mixedOrders = true := by rw [hP]; exact mixed
  have hΘ : TOK E.P Θ := by rw [hP]; exact Θ_ok
  unfold slices_IndexFunc_Thread_Thread__impl_GoodState_1 at h
  show WAt E body77 (FQ (RetE Θ Try.f77.results.toList [] [] (I r) E)) [] ⟨[(0, (AV.ro 6 (p1.map r70))), (1, (AV.fn 46 [(AV.rop (r35 p2) 0)]))], [], [JJ]⟩
  exact go_to hΘ hm hx hP hn (hs := [⟨2, .no, some (I (p1.length : Int))⟩]) (π := []) (ts := [0, 1, 7, 8]) (kp := []) (ps := [AV.lit (.int .i64 (((p1.map r70).length : Nat) : Int)) = (I (p1.length : Int))]) (by kernel_rfl) ⟨(lenM r70), trivial⟩ (slices_IndexFunc_Thread_Thread__impl_GoodState_1_l0_m hP hn hx p1 p2 FU 0 _ h)
noncomputable def body45 : Code := match Try.f45.body with | some c => c | none => .skip
noncomputable def slices_ContainsFunc_Thread_Thread__impl_GoodState_1 (p1 : (List GThread)) (p2 : GProg) : Option Bool :=
  Option.bind (slices_IndexFunc_Thread_Thread__impl_GoodState_1 p1 p2) fun r3 =>
  some (decide (r3 ≥ 0))
theorem slices_ContainsFunc_Thread_Thread__impl_GoodState_1_m {p1 : (List GThread)} {p2 : GProg} {r : Bool} (h : slices_ContainsFunc_Thread_Thread__impl_GoodState_1 p1 p2 = some r) : Meets Try.prog 45 [(AV.ro 6 (p1.map r70)), (AV.fn 46 [(AV.rop (r35 p2) 0)])] (B r) := by
  refine meets_ofC Θ_ok Try.func45 rfl (c := body45) (by kernel_rfl) (Nat.le_of_ble_eq_true rfl) ?_
  intro E hP hn hx
  replace hn : E.n = 9 := hn
  have hm : E.P.follows .mixedOrders = true := by rw [hP]; exact mixed
  have hΘ : TOK E.P Θ := by rw [hP]; exact Θ_ok
  unfold slices_ContainsFunc_Thread_Thread__impl_GoodState_1 at h
  show WAt E body45 (FQ (RetE Θ Try.f45.results.toList [] [] (B r) E)) [] ⟨[(0, (AV.ro 6 (p1.map r70))), (1, (AV.fn 46 [(AV.rop (r35 p2) 0)]))], [], [JJ]⟩
  obtain ⟨r3, hr3, h⟩ := bnS h
  have h := Option.some.inj h
  subst h
  exact go_ret hΘ hm hP hn (hs := [⟨3, .callV [] (I r3), none⟩]) (rh := []) (ph := .raw) (ps := [Meets Try.prog 77 [(AV.ro 6 (p1.map r70)), (AV.fn 46 [(AV.rop (r35 p2) 0)])] (I r3), litA (I r3) = true, (B (decide (r3 ≥ 0))) = (B (decide (r3 ≥ 0))), litA (B (decide (r3 ≥ 0))) = true]) (by kernel_rfl) ⟨(slices_IndexFunc_Thread_Thread__impl_GoodState_1_m hr3), rfl, rfl, rfl, trivial⟩
noncomputable def body49 : Code := match Try.f49.body with | some c => c | none => .skip
noncomputable def impl_GoodState_2 (p1 : Int) (p2 : GState) : Option Bool :=
  Option.bind (impl_in p1 (-1) (w64 ((p2.Threads.length : Int) - 1))) fun r3 =>
  some (!r3)
theorem impl_GoodState_2_m {p1 : Int} {p2 : GState} {r : Bool} (h : impl_GoodState_2 p1 p2 = some r) : Meets Try.prog 49 [(I p1), (AV.rop (r39 p2) 0)] (B r) := by
  refine meets_ofC Θ_ok Try.func49 rfl (c := body49) (by kernel_rfl) (Nat.le_of_ble_eq_true rfl) ?_
  intro E hP hn hx
  replace hn : E.n = 11 := hn
  have hm : E.P.follows .mixedOrders = true := by rw [hP]; exact mixed
  have hΘ : TOK E.P Θ := by rw [hP]; exact Θ_ok
  unfold impl_GoodState_2 at h
  show WAt E body49 (FQ (RetE Θ Try.f49.results.toList [] [] (B r) E)) [] ⟨[(0, (I p1)), (1, (AV.rop (r39 p2) 0))], [], [JJ]⟩
  obtain ⟨r3, hr3, h⟩ := bnS h
  have h := Option.some.inj h
  subst h
  exact go_ret hΘ hm hP hn (hs := [⟨4, .no, some (I (p2.Threads.length : Int))⟩, ⟨6, .callV [] (B r3), none⟩]) (rh := []) (ph := .raw) (ps := [AV.lit (.int .i64 (((p2.Threads.map r70).length : Nat) : Int)) = (I (p2.Threads.length : Int)), Meets Try.prog 44 [(I p1), (I (-1)), (I (w64 ((p2.Threads.length : Int) - 1)))] (B r3), litA (B r3) = true, (B (!r3)) = (B (!r3)), litA (B (!r3)) = true]) (by kernel_rfl) ⟨(lenM r70), (impl_in_m hr3), rfl, rfl, rfl, trivial⟩
noncomputable def body78 : Code := match Try.f78.body with | some c => c | none => .skip
noncomputable def slices_IndexFunc_int_int__impl_GoodState_2_l0  (p1 : (List Int)) (p2 : GState) : Nat → Int → Option Int
  | 0, _ => none
  | n + 1, v3 =>
  if (decide (v3 < (p1.length : Int))) = true then
    Option.bind (rd p1 v3) fun x5 =>
    Option.bind (impl_GoodState_2 x5 p2) fun r6 =>
    if r6 = true then
      some v3
    else
      slices_IndexFunc_int_int__impl_GoodState_2_l0 p1 p2 n (w64 (v3 + 1))
  else
    some (-1)
theorem slices_IndexFunc_int_int__impl_GoodState_2_l0_m {E : Env} (hP : E.P = Try.prog) (hn : E.n = 19) (hx : ∀ p, p ∈ E.fx → p.1 ∈ ([] : List Nat)) (p1 : (List Int)) (p2 : GState)  : ∀ (n : Nat) (v3 : Int) (r : Int), slices_IndexFunc_int_int__impl_GoodState_2_l0 p1 p2 n v3 = some r → WAt E body78 (FQ (RetE Θ Try.f78.results.toList [] [] (I r) E)) [true, false, true, false] ⟨[(0, (AV.ro 1 (p1.map o3))), (1, (AV.fn 49 [(AV.rop (r39 p2) 0)])), (7, (I (p1.length : Int))), (8, (I v3))], [], [JJ]⟩ := by
  have hm : E.P.follows .mixedOrders = true := by rw [hP]; exact mixed
  have hΘ : TOK E.P Θ := by rw [hP]; exact Θ_ok
  intro n
  induction n with
  | zero => intro v3 r h; simp only [slices_IndexFunc_int_int__impl_GoodState_2_l0] at h; cases h
  | succ n ih =>
    intro v3 r h
    simp only [slices_IndexFunc_int_int__impl_GoodState_2_l0] at h
    rcases itS h with ⟨c4, h⟩ | ⟨c9, h⟩
    · obtain ⟨x5, hx5, h⟩ := bnS h
      obtain ⟨r6, hr6, h⟩ := bnS h
      rcases itS h with ⟨c7, h⟩ | ⟨c8, h⟩
      · have h := Option.some.inj h
        subst h
        exact go_ret hΘ hm hP hn (hs := [⟨1, .br true, none⟩, ⟨7, .row (o3 x5), none⟩, ⟨9, .callV [] (B r6), none⟩, ⟨10, .br true, none⟩]) (rh := []) (ph := .raw) (ps := [(decide (v3 < (p1.length : Int))) = true, (0 : Int) ≤ v3, (p1.map o3)[(Int.toNat v3)]? = some (o3 x5), Meets Try.prog 49 [(I x5), (AV.rop (r39 p2) 0)] (B r6), litA (B r6) = true, r6 = true, (I v3) = (I v3), litA (I v3) = true]) (by kernel_rfl) ⟨c4, (rd0 hx5), (rdM o3 hx5), (impl_GoodState_2_m hr6), rfl, c7, rfl, rfl, trivial⟩
      · exact go_to hΘ hm hx hP hn (hs := [⟨1, .br true, none⟩, ⟨7, .row (o3 x5), none⟩, ⟨9, .callV [] (B r6), none⟩, ⟨10, .br false, none⟩]) (π := []) (ts := [0, 1, 7, 8]) (kp := []) (ps := [(decide (v3 < (p1.length : Int))) = true, (0 : Int) ≤ v3, (p1.map o3)[(Int.toNat v3)]? = some (o3 x5), Meets Try.prog 49 [(I x5), (AV.rop (r39 p2) 0)] (B r6), litA (B r6) = true, r6 = false]) (by kernel_rfl) ⟨c4, (rd0 hx5), (rdM o3 hx5), (impl_GoodState_2_m hr6), rfl, c8, trivial⟩ (ih (w64 (v3 + 1)) _ h)
    · have h := Option.some.inj h
      subst h
      exact go_ret hΘ hm hP hn (hs := [⟨1, .br false, none⟩]) (rh := []) (ph := .raw) (ps := [(decide (v3 < (p1.length : Int))) = false, (I (-1)) = (I (-1)), litA (I (-1)) = true]) (by kernel_rfl) ⟨c9, rfl, rfl, trivial⟩
noncomputable def slices_IndexFunc_int_int__impl_GoodState_2 (p1 : (List Int)) (p2 : GState) : Option Int :=
  slices_IndexFunc_int_int__impl_GoodState_2_l0 p1 p2 FU 0
theorem slices_IndexFunc_int_int__impl_GoodState_2_m {p1 : (List Int)} {p2 : GState} {r : Int} (h : slices_IndexFunc_int_int__impl_GoodState_2 p1 p2 = some r) : Meets Try.prog 78 [(AV.ro 1 (p1.map o3)), (AV.fn 49 [(AV.rop (r39 p2) 0)])] (I r) := by
  refine meets_ofC Θ_ok Try.func78 rfl (c := body78) (by kernel_rfl) (Nat.le_of_ble_eq_true rfl) ?_
  intro E hP hn hx
  replace hn : E.n = 19 := hn
  have hm : E.P.follows .mixedOrders = true := by rw [hP]; exact mixed
  have hΘ : TOK E.P Θ := by rw [hP]; exact Θ_ok
  unfold slices_IndexFunc_int_int__impl_GoodState_2 at h
  show WAt E body78 (FQ (RetE Θ Try.f78.results.toList [] [] (I r) E)) [] ⟨[(0, (AV.ro 1 (p1.map o3))), (1, (AV.fn 49 [(AV.rop (r39 p2) 0)]))], [], [JJ]⟩
  exact go_to hΘ hm hx hP hn (hs := [⟨2, .no, some (I (p1.length : Int))⟩]) (π := []) (ts := [0, 1, 7, 8]) (kp := []) (ps := [AV.lit (.int .i64 (((p1.map o3).length : Nat) : Int)) = (I (p1.length : Int))]) (by kernel_rfl) ⟨(lenM o3), trivial⟩ (slices_IndexFunc_int_int__impl_GoodState_2_l0_m hP hn hx p1 p2 FU 0 _ h)
noncomputable def body48 : Code := match Try.f48.body with | some c => c | none => .skip
noncomputable def slices_ContainsFunc_int_int__impl_GoodState_2 (p1 : (List Int)) (p2 : GState) : Option Bool :=
  Option.bind (slices_IndexFunc_int_int__impl_GoodState_2 p1 p2) fun r3 =>
  some (decide (r3 ≥ 0))
theorem slices_ContainsFunc_int_int__impl_GoodState_2_m {p1 : (List Int)} {p2 : GState} {r : Bool} (h : slices_ContainsFunc_int_int__impl_GoodState_2 p1 p2 = some r) : Meets Try.prog 48 [(AV.ro 1 (p1.map o3)), (AV.fn 49 [(AV.rop (r39 p2) 0)])] (B r) := by
  refine meets_ofC Θ_ok Try.func48 rfl (c := body48) (by kernel_rfl) (Nat.le_of_ble_eq_true rfl) ?_
  intro E hP hn hx
  replace hn : E.n = 9 := hn
  have hm : E.P.follows .mixedOrders = true := by rw [hP]; exact mixed
  have hΘ : TOK E.P Θ := by rw [hP]; exact Θ_ok
  unfold slices_ContainsFunc_int_int__impl_GoodState_2 at h
  show WAt E body48 (FQ (RetE Θ Try.f48.results.toList [] [] (B r) E)) [] ⟨[(0, (AV.ro 1 (p1.map o3))), (1, (AV.fn 49 [(AV.rop (r39 p2) 0)]))], [], [JJ]⟩
  obtain ⟨r3, hr3, h⟩ := bnS h
  have h := Option.some.inj h
  subst h
  exact go_ret hΘ hm hP hn (hs := [⟨3, .callV [] (I r3), none⟩]) (rh := []) (ph := .raw) (ps := [Meets Try.prog 78 [(AV.ro 1 (p1.map o3)), (AV.fn 49 [(AV.rop (r39 p2) 0)])] (I r3), litA (I r3) = true, (B (decide (r3 ≥ 0))) = (B (decide (r3 ≥ 0))), litA (B (decide (r3 ≥ 0))) = true]) (by kernel_rfl) ⟨(slices_IndexFunc_int_int__impl_GoodState_2_m hr3), rfl, rfl, rfl, trivial⟩
noncomputable def body13 : Code := match Try.f13.body with | some c => c | none => .skip
noncomputable def impl_GoodState_j0  (p1 : GProg) (p2 : GState)  : Option Bool :=
  Option.bind (slices_ContainsFunc_Thread_Thread__impl_GoodState_1 p2.Threads p1) fun r16 =>
  if (!r16) = true then
    Option.bind (slices_ContainsFunc_int_int__impl_GoodState_2 p2.Owner p2) fun r18 =>
    some (!r18)
  else
    some false
theorem impl_GoodState_j0_m {E : Env} (hP : E.P = Try.prog) (hn : E.n = 49) (hx : ∀ p, p ∈ E.fx → p.1 ∈ ([] : List Nat)) (p1 : GProg) (p2 : GState)   (r : Bool) (h : impl_GoodState_j0 p1 p2  = some r) : WAt E body13 (FQ (RetE Θ Try.f13.results.toList [] [] (B r) E)) [true, false, true, true] ⟨[(2, (AV.ptr 1 0 0)), (3, (AV.ptr 2 0 0))], [(1, some ⟨35, 4, [((r35 p1))]⟩), (2, some ⟨39, 4, [((r39 p2))]⟩)], [1, 2, JJ]⟩ := by
  have hm : E.P.follows .mixedOrders = true := by rw [hP]; exact mixed
  have hΘ : TOK E.P Θ := by rw [hP]; exact Θ_ok
  unfold impl_GoodState_j0 at h
  obtain ⟨r16, hr16, h⟩ := bnS h
  rcases itS h with ⟨c17, h⟩ | ⟨c19, h⟩
  · obtain ⟨r18, hr18, h⟩ := bnS h
    have h := Option.some.inj h
    subst h
    exact go_ret hΘ hm hP hn (hs := [⟨3, .callV [[((r35 p1)), (r35 p1)]] (B r16), none⟩, ⟨5, .no, some (B true)⟩, ⟨9, .callV [[((r39 p2)), (r39 p2)]] (B r18), none⟩]) (rh := []) (ph := .raw) (ps := [Meets Try.prog 45 [(AV.ro 6 (p2.Threads.map r70)), (AV.fn 46 [(AV.rop (r35 p1) 0)])] (B r16), litA (B r16) = true, [((r35 p1))][0]? = some ((r35 p1)), treeL ((r35 p1)) = true, frzL ((r35 p1)) = (r35 p1), (B (!r16)) = (B true), Meets Try.prog 48 [(AV.ro 1 (p2.Owner.map o3)), (AV.fn 49 [(AV.rop (r39 p2) 0)])] (B r18), litA (B r18) = true, [((r39 p2))][0]? = some ((r39 p2)), treeL ((r39 p2)) = true, frzL ((r39 p2)) = (r39 p2), (B (!r18)) = (B (!r18)), litA (B (!r18)) = true]) (by kernel_rfl) ⟨(slices_ContainsFunc_Thread_Thread__impl_GoodState_1_m hr16), rfl, rfl, rfl, rfl, (litB c17), (slices_ContainsFunc_int_int__impl_GoodState_2_m hr18), rfl, rfl, rfl, rfl, rfl, rfl, trivial⟩
  · have h := Option.some.inj h
    subst h
    exact go_ret hΘ hm hP hn (hs := [⟨3, .callV [[((r35 p1)), (r35 p1)]] (B r16), none⟩, ⟨5, .no, some (B false)⟩]) (rh := []) (ph := .raw) (ps := [Meets Try.prog 45 [(AV.ro 6 (p2.Threads.map r70)), (AV.fn 46 [(AV.rop (r35 p1) 0)])] (B r16), litA (B r16) = true, [((r35 p1))][0]? = some ((r35 p1)), treeL ((r35 p1)) = true, frzL ((r35 p1)) = (r35 p1), (B (!r16)) = (B false), (B false) = (B false), litA (B false) = true]) (by kernel_rfl) ⟨(slices_ContainsFunc_Thread_Thread__impl_GoodState_1_m hr16), rfl, rfl, rfl, rfl, (litB c19), rfl, rfl, trivial⟩
noncomputable def impl_GoodState (p1 : GProg) (p2 : GState) : Option Bool :=
  Option.bind (impl_GoodProg p1) fun r3 =>
  if (!r3) = true then
    some false
  else
    Option.bind (impl_in (p2.Threads.length : Int) 1 5) fun r6 =>
    if (!r6) = true then
      some false
    else
      if ((p2.Cells.length : Int) != p1.Cells) = true then
        some false
      else
        if ((p2.Owner.length : Int) != p1.Locks) = true then
          some false
        else
          Option.bind (impl_in p2.Fault 0 4) fun r13 =>
          if (!r13) = true then
            some false
          else
            impl_GoodState_j0 p1 p2
theorem impl_GoodState_m {p1 : GProg} {p2 : GState} {r : Bool} (h : impl_GoodState p1 p2 = some r) : Meets Try.prog 13 [(AV.agg ((r35 p1))), (AV.agg ((r39 p2)))] (B r) := by
  refine meets_ofC Θ_ok Try.func13 rfl (c := body13) (by kernel_rfl) (Nat.le_of_ble_eq_true rfl) ?_
  intro E hP hn hx
  replace hn : E.n = 49 := hn
  have hm : E.P.follows .mixedOrders = true := by rw [hP]; exact mixed
  have hΘ : TOK E.P Θ := by rw [hP]; exact Θ_ok
  unfold impl_GoodState at h
  show WAt E body13 (FQ (RetE Θ Try.f13.results.toList [] [] (B r) E)) [] ⟨[(0, (AV.agg ((r35 p1)))), (1, (AV.agg ((r39 p2))))], [], [JJ]⟩
  obtain ⟨r3, hr3, h⟩ := bnS h
  rcases itS h with ⟨c4, h⟩ | ⟨c5, h⟩
  · have h := Option.some.inj h
    subst h
    exact go_ret hΘ hm hP hn (hs := [⟨0, .new 1001, none⟩, ⟨1, .new 1002, none⟩, ⟨4, .callV [[]] (B r3), none⟩, ⟨6, .no, some (B true)⟩]) (rh := []) (ph := .raw) (ps := [Meets Try.prog 43 [(AV.agg ((r35 p1)))] (B r3), litA (B r3) = true, (B (!r3)) = (B true), (B false) = (B false), litA (B false) = true]) (by kernel_rfl) ⟨(impl_GoodProg_m hr3), rfl, (litB c4), rfl, rfl, trivial⟩
  · obtain ⟨r6, hr6, h⟩ := bnS h
    rcases itS h with ⟨c7, h⟩ | ⟨c8, h⟩
    · have h := Option.some.inj h
      subst h
      exact go_ret hΘ hm hP hn (hs := [⟨0, .new 1001, none⟩, ⟨1, .new 1002, none⟩, ⟨4, .callV [[]] (B r3), none⟩, ⟨6, .no, some (B false)⟩, ⟨9, .no, some (I (p2.Threads.length : Int))⟩, ⟨10, .callV [] (B r6), none⟩, ⟨13, .no, some (B true)⟩]) (rh := []) (ph := .raw) (ps := [Meets Try.prog 43 [(AV.agg ((r35 p1)))] (B r3), litA (B r3) = true, (B (!r3)) = (B false), AV.lit (.int .i64 (((p2.Threads.map r70).length : Nat) : Int)) = (I (p2.Threads.length : Int)), Meets Try.prog 44 [(I (p2.Threads.length : Int)), (I 1), (I 5)] (B r6), litA (B r6) = true, (B (!r6)) = (B true), (B false) = (B false), litA (B false) = true]) (by kernel_rfl) ⟨(impl_GoodProg_m hr3), rfl, (litB c5), (lenM r70), (impl_in_m hr6), rfl, (litB c7), rfl, rfl, trivial⟩
    · rcases itS h with ⟨c9, h⟩ | ⟨c10, h⟩
      · have h := Option.some.inj h
        subst h
        exact go_ret hΘ hm hP hn (hs := [⟨0, .new 1001, none⟩, ⟨1, .new 1002, none⟩, ⟨4, .callV [[]] (B r3), none⟩, ⟨6, .no, some (B false)⟩, ⟨9, .no, some (I (p2.Threads.length : Int))⟩, ⟨10, .callV [] (B r6), none⟩, ⟨13, .no, some (B false)⟩, ⟨16, .no, some (I (p2.Cells.length : Int))⟩, ⟨21, .no, some (B true)⟩]) (rh := []) (ph := .raw) (ps := [Meets Try.prog 43 [(AV.agg ((r35 p1)))] (B r3), litA (B r3) = true, (B (!r3)) = (B false), AV.lit (.int .i64 (((p2.Threads.map r70).length : Nat) : Int)) = (I (p2.Threads.length : Int)), Meets Try.prog 44 [(I (p2.Threads.length : Int)), (I 1), (I 5)] (B r6), litA (B r6) = true, (B (!r6)) = (B false), AV.lit (.int .i64 (((p2.Cells.map o83).length : Nat) : Int)) = (I (p2.Cells.length : Int)), (B ((p2.Cells.length : Int) != p1.Cells)) = (B true), (B false) = (B false), litA (B false) = true]) (by kernel_rfl) ⟨(impl_GoodProg_m hr3), rfl, (litB c5), (lenM r70), (impl_in_m hr6), rfl, (litB c8), (lenM o83), (litB c9), rfl, rfl, trivial⟩
      · rcases itS h with ⟨c11, h⟩ | ⟨c12, h⟩
        · have h := Option.some.inj h
          subst h
          exact go_ret hΘ hm hP hn (hs := [⟨0, .new 1001, none⟩, ⟨1, .new 1002, none⟩, ⟨4, .callV [[]] (B r3), none⟩, ⟨6, .no, some (B false)⟩, ⟨9, .no, some (I (p2.Threads.length : Int))⟩, ⟨10, .callV [] (B r6), none⟩, ⟨13, .no, some (B false)⟩, ⟨16, .no, some (I (p2.Cells.length : Int))⟩, ⟨21, .no, some (B false)⟩, ⟨24, .no, some (I (p2.Owner.length : Int))⟩, ⟨29, .no, some (B true)⟩]) (rh := []) (ph := .raw) (ps := [Meets Try.prog 43 [(AV.agg ((r35 p1)))] (B r3), litA (B r3) = true, (B (!r3)) = (B false), AV.lit (.int .i64 (((p2.Threads.map r70).length : Nat) : Int)) = (I (p2.Threads.length : Int)), Meets Try.prog 44 [(I (p2.Threads.length : Int)), (I 1), (I 5)] (B r6), litA (B r6) = true, (B (!r6)) = (B false), AV.lit (.int .i64 (((p2.Cells.map o83).length : Nat) : Int)) = (I (p2.Cells.length : Int)), (B ((p2.Cells.length : Int) != p1.Cells)) = (B false), AV.lit (.int .i64 (((p2.Owner.map o3).length : Nat) : Int)) = (I (p2.Owner.length : Int)), (B ((p2.Owner.length : Int) != p1.Locks)) = (B true), (B false) = (B false), litA (B false) = true]) (by kernel_rfl) ⟨(impl_GoodProg_m hr3), rfl, (litB c5), (lenM r70), (impl_in_m hr6), rfl, (litB c8), (lenM o83), (litB c10), (lenM o3), (litB c11), rfl, rfl, trivial⟩
        · obtain ⟨r13, hr13, h⟩ := bnS h
          rcases itS h with ⟨c14, h⟩ | ⟨c15, h⟩
          · have h := Option.some.inj h
            subst h
            exact go_ret hΘ hm hP hn (hs := [⟨0, .new 1001, none⟩, ⟨1, .new 1002, none⟩, ⟨4, .callV [[]] (B r3), none⟩, ⟨6, .no, some (B false)⟩, ⟨9, .no, some (I (p2.Threads.length : Int))⟩, ⟨10, .callV [] (B r6), none⟩, ⟨13, .no, some (B false)⟩, ⟨16, .no, some (I (p2.Cells.length : Int))⟩, ⟨21, .no, some (B false)⟩, ⟨24, .no, some (I (p2.Owner.length : Int))⟩, ⟨29, .no, some (B false)⟩, ⟨32, .callV [] (B r13), none⟩, ⟨35, .br true, none⟩]) (rh := []) (ph := .raw) (ps := [Meets Try.prog 43 [(AV.agg ((r35 p1)))] (B r3), litA (B r3) = true, (B (!r3)) = (B false), AV.lit (.int .i64 (((p2.Threads.map r70).length : Nat) : Int)) = (I (p2.Threads.length : Int)), Meets Try.prog 44 [(I (p2.Threads.length : Int)), (I 1), (I 5)] (B r6), litA (B r6) = true, (B (!r6)) = (B false), AV.lit (.int .i64 (((p2.Cells.map o83).length : Nat) : Int)) = (I (p2.Cells.length : Int)), (B ((p2.Cells.length : Int) != p1.Cells)) = (B false), AV.lit (.int .i64 (((p2.Owner.map o3).length : Nat) : Int)) = (I (p2.Owner.length : Int)), (B ((p2.Owner.length : Int) != p1.Locks)) = (B false), Meets Try.prog 44 [(I p2.Fault), (I 0), (I 4)] (B r13), litA (B r13) = true, (!r13) = true, (B false) = (B false), litA (B false) = true]) (by kernel_rfl) ⟨(impl_GoodProg_m hr3), rfl, (litB c5), (lenM r70), (impl_in_m hr6), rfl, (litB c8), (lenM o83), (litB c10), (lenM o3), (litB c12), (impl_in_m hr13), rfl, c14, rfl, rfl, trivial⟩
          · exact go_to hΘ hm hx hP hn (hs := [⟨0, .new 1001, none⟩, ⟨1, .new 1002, none⟩, ⟨4, .callV [[]] (B r3), none⟩, ⟨6, .no, some (B false)⟩, ⟨9, .no, some (I (p2.Threads.length : Int))⟩, ⟨10, .callV [] (B r6), none⟩, ⟨13, .no, some (B false)⟩, ⟨16, .no, some (I (p2.Cells.length : Int))⟩, ⟨21, .no, some (B false)⟩, ⟨24, .no, some (I (p2.Owner.length : Int))⟩, ⟨29, .no, some (B false)⟩, ⟨32, .callV [] (B r13), none⟩, ⟨35, .br false, none⟩]) (π := [(1001, 1), (1002, 2)]) (ts := [2, 3]) (kp := []) (ps := [Meets Try.prog 43 [(AV.agg ((r35 p1)))] (B r3), litA (B r3) = true, (B (!r3)) = (B false), AV.lit (.int .i64 (((p2.Threads.map r70).length : Nat) : Int)) = (I (p2.Threads.length : Int)), Meets Try.prog 44 [(I (p2.Threads.length : Int)), (I 1), (I 5)] (B r6), litA (B r6) = true, (B (!r6)) = (B false), AV.lit (.int .i64 (((p2.Cells.map o83).length : Nat) : Int)) = (I (p2.Cells.length : Int)), (B ((p2.Cells.length : Int) != p1.Cells)) = (B false), AV.lit (.int .i64 (((p2.Owner.map o3).length : Nat) : Int)) = (I (p2.Owner.length : Int)), (B ((p2.Owner.length : Int) != p1.Locks)) = (B false), Meets Try.prog 44 [(I p2.Fault), (I 0), (I 4)] (B r13), litA (B r13) = true, (!r13) = false, RenOK [(1001, 1), (1002, 2)] [((r35 p1))], RenOK [(1001, 1), (1002, 2)] [((r39 p2))]]) (by kernel_rfl) ⟨(impl_GoodProg_m hr3), rfl, (litB c5), (lenM r70), (impl_in_m hr6), rfl, (litB c8), (lenM o83), (litB c10), (lenM o3), (litB c12), (impl_in_m hr13), rfl, c15, (rok (treeB t35 p1)), (rok (treeB t39 p2)), trivial⟩ (impl_GoodState_j0_m hP hn hx p1 p2  _ h)
noncomputable def body95 : Code := match Try.f95.body with | some c => c | none => .skip
noncomputable def impl_Prog_next (p1 : GProg) (p2 : GThread) : Option (GOp × Bool) :=
  Option.bind (rd p1.Routines p2.Routine) fun x3 =>
  if (decide (p2.Pc < (x3.length : Int))) = true then
    Option.bind (rd x3 p2.Pc) fun x5 =>
    some (x5, true)
  else
    some ((GOp.mk 0 0 0 0), false)
theorem impl_Prog_next_m {p1 : GProg} {p2 : GThread} {r : (GOp × Bool)} (h : impl_Prog_next p1 p2 = some r) : Meets Try.prog 95 [(AV.agg ((r35 p1))), (AV.agg ((r70 p2)))] (AV.tup [(AV.agg (o85 r.1)), (B r.2)]) := by
  refine meets_ofC Θ_ok Try.func95 rfl (c := body95) (by kernel_rfl) (Nat.le_of_ble_eq_true rfl) ?_
  intro E hP hn hx
  replace hn : E.n = 24 := hn
  have hm : E.P.follows .mixedOrders = true := by rw [hP]; exact mixed
  have hΘ : TOK E.P Θ := by rw [hP]; exact Θ_ok
  unfold impl_Prog_next at h
  show WAt E body95 (FQ (RetE Θ Try.f95.results.toList [] [] (AV.tup [(AV.agg (o85 r.1)), (B r.2)]) E)) [] ⟨[(0, (AV.agg ((r35 p1)))), (1, (AV.agg ((r70 p2))))], [], [JJ]⟩
  obtain ⟨x3, hx3, h⟩ := bnS h
  rcases itS h with ⟨c4, h⟩ | ⟨c6, h⟩
  · obtain ⟨x5, hx5, h⟩ := bnS h
    have h := Option.some.inj h
    subst h
    exact go_ret hΘ hm hP hn (hs := [⟨0, .new 1001, none⟩, ⟨1, .new 1002, none⟩, ⟨2, .new 1003, none⟩, ⟨8, .row (r82 x3), none⟩, ⟨14, .no, some (I (x3.length : Int))⟩, ⟨16, .br true, none⟩, ⟨20, .row (o85 x5), none⟩]) (rh := []) (ph := .agg [.raw, .raw]) (ps := [(0 : Int) ≤ p2.Routine, (p1.Routines.map r82)[(Int.toNat p2.Routine)]? = some (r82 x3), AV.lit (.int .i64 (((x3.map o85).length : Nat) : Int)) = (I (x3.length : Int)), (decide (p2.Pc < (x3.length : Int))) = true, (0 : Int) ≤ p2.Pc, (x3.map o85)[(Int.toNat p2.Pc)]? = some (o85 x5), (AV.agg ((o85 x5))) = (AV.agg ((o85 x5))), litA (AV.agg ((o85 x5))) = true, (B true) = (B true), litA (B true) = true]) (by kernel_rfl) ⟨(rd0 hx3), (rdM r82 hx3), (lenM o85), c4, (rd0 hx5), (rdM o85 hx5), rfl, rfl, rfl, rfl, trivial⟩
  · have h := Option.some.inj h
    subst h
    exact go_ret hΘ hm hP hn (hs := [⟨0, .new 1001, none⟩, ⟨1, .new 1002, none⟩, ⟨2, .new 1003, none⟩, ⟨8, .row (r82 x3), none⟩, ⟨14, .no, some (I (x3.length : Int))⟩, ⟨16, .br false, none⟩]) (rh := []) (ph := .agg [.raw, .raw]) (ps := [(0 : Int) ≤ p2.Routine, (p1.Routines.map r82)[(Int.toNat p2.Routine)]? = some (r82 x3), AV.lit (.int .i64 (((x3.map o85).length : Nat) : Int)) = (I (x3.length : Int)), (decide (p2.Pc < (x3.length : Int))) = false, (AV.agg [(I 0), (I 0), (I 0), (FK 0)]) = (AV.agg [(I 0), (I 0), (I 0), (FK 0)]), litA (AV.agg [(I 0), (I 0), (I 0), (FK 0)]) = true, (B false) = (B false), litA (B false) = true]) (by kernel_rfl) ⟨(rd0 hx3), (rdM r82 hx3), (lenM o85), c6, rfl, rfl, rfl, rfl, trivial⟩
noncomputable def body130 : Code := match Try.f130.body with | some c => c | none => .skip
noncomputable def math_Abs (p1 : Nat) : Option Nat :=
  Option.bind (nNaN p1) fun q2 =>
  some (Int.toNat (iandn .u64 ((p1 : Nat) : Int) 9223372036854775808))
theorem math_Abs_m {p1 : Nat} {r : Nat} (h : math_Abs p1 = some r) : Meets Try.prog 130 [(FK p1)] (FK r) := by
  refine meets_ofC Θ_ok Try.func130 rfl (c := body130) (by kernel_rfl) (Nat.le_of_ble_eq_true rfl) ?_
  intro E hP hn hx
  replace hn : E.n = 7 := hn
  have hm : E.P.follows .mixedOrders = true := by rw [hP]; exact mixed
  have hΘ : TOK E.P Θ := by rw [hP]; exact Θ_ok
  unfold math_Abs at h
  show WAt E body130 (FQ (RetE Θ Try.f130.results.toList [] [] (FK r) E)) [] ⟨[(0, (FK p1))], [], [JJ]⟩
  obtain ⟨q2, hq2, h⟩ := bnS h
  have h := Option.some.inj h
  subst h
  exact go_ret hΘ hm hP hn (hs := [⟨2, .xt (IK .u64 ((p1 : Nat) : Int)), none⟩, ⟨4, .xt (FK (Int.toNat (iandn .u64 ((p1 : Nat) : Int) 9223372036854775808))), none⟩]) (rh := []) (ph := .raw) (ps := [ExtS Try.prog 119 (FK p1) (IK .u64 ((p1 : Nat) : Int)), ExtS Try.prog 133 (IK .u64 (iandn .u64 ((p1 : Nat) : Int) 9223372036854775808)) (FK (Int.toNat (iandn .u64 ((p1 : Nat) : Int) 9223372036854775808))), (FK (Int.toNat (iandn .u64 ((p1 : Nat) : Int) 9223372036854775808))) = (FK (Int.toNat (iandn .u64 ((p1 : Nat) : Int) 9223372036854775808))), litA (FK (Int.toNat (iandn .u64 ((p1 : Nat) : Int) 9223372036854775808))) = true]) (by kernel_rfl) ⟨(xBits Try.func119 (by kernel_rfl) (by kernel_rfl) (by kernel_rfl) (by kernel_rfl) (nNaNE hq2)), (xFrom Try.func133 (by kernel_rfl) (by kernel_rfl) (by kernel_rfl) (by kernel_rfl)), rfl, rfl, trivial⟩
noncomputable def body127 : Code := match Try.f127.body with | some c => c | none => .skip
noncomputable def math_IsInf__0 (p1 : Nat) : Option Bool :=
  Option.bind (math_Abs p1) fun r2 =>
  some ((fcmp r2 9218868437227405311) == some .gt)
theorem math_IsInf__0_m {p1 : Nat} {r : Bool} (h : math_IsInf__0 p1 = some r) : Meets Try.prog 127 [(FK p1), (I 0)] (B r) := by
  refine meets_ofC Θ_ok Try.func127 rfl (c := body127) (by kernel_rfl) (Nat.le_of_ble_eq_true rfl) ?_
  intro E hP hn hx
  replace hn : E.n = 15 := hn
  have hm : E.P.follows .mixedOrders = true := by rw [hP]; exact mixed
  have hΘ : TOK E.P Θ := by rw [hP]; exact Θ_ok
  unfold math_IsInf__0 at h
  show WAt E body127 (FQ (RetE Θ Try.f127.results.toList [] [] (B r) E)) [] ⟨[(0, (FK p1)), (1, (I 0))], [], [JJ]⟩
  obtain ⟨r2, hr2, h⟩ := bnS h
  have h := Option.some.inj h
  subst h
  exact go_ret hΘ hm hP hn (hs := [⟨5, .callV [] (FK r2), none⟩, ⟨8, .bin (B ((fcmp r2 9218868437227405311) == some .gt)), none⟩]) (rh := []) (ph := .raw) (ps := [Meets Try.prog 130 [(FK p1)] (FK r2), litA (FK r2) = true, BinS Try.prog .gtr 83 (FK r2) (FK 9218868437227405311) (B ((fcmp r2 9218868437227405311) == some .gt)), (B ((fcmp r2 9218868437227405311) == some .gt)) = (B ((fcmp r2 9218868437227405311) == some .gt)), litA (B ((fcmp r2 9218868437227405311) == some .gt)) = true]) (by kernel_rfl) ⟨(math_Abs_m hr2), rfl, fGtr, rfl, rfl, trivial⟩
noncomputable def body118 : Code := match Try.f118.body with | some c => c | none => .skip
noncomputable def math_IsNaN (p1 : Nat) : Option Bool :=
  some ((fcmp p1 p1) != some .eq)
theorem math_IsNaN_m {p1 : Nat} {r : Bool} (h : math_IsNaN p1 = some r) : Meets Try.prog 118 [(FK p1)] (B r) := by
  refine meets_ofC Θ_ok Try.func118 rfl (c := body118) (by kernel_rfl) (Nat.le_of_ble_eq_true rfl) ?_
  intro E hP hn hx
  replace hn : E.n = 6 := hn
  have hm : E.P.follows .mixedOrders = true := by rw [hP]; exact mixed
  have hΘ : TOK E.P Θ := by rw [hP]; exact Θ_ok
  unfold math_IsNaN at h
  show WAt E body118 (FQ (RetE Θ Try.f118.results.toList [] [] (B r) E)) [] ⟨[(0, (FK p1))], [], [JJ]⟩
  have h := Option.some.inj h
  subst h
  exact go_ret hΘ hm hP hn (hs := [⟨3, .bin (B ((fcmp p1 p1) != some .eq)), none⟩]) (rh := []) (ph := .raw) (ps := [BinS Try.prog .neq 83 (FK p1) (FK p1) (B ((fcmp p1 p1) != some .eq)), (B ((fcmp p1 p1) != some .eq)) = (B ((fcmp p1 p1) != some .eq)), litA (B ((fcmp p1 p1) != some .eq)) = true]) (by kernel_rfl) ⟨fNeq, rfl, rfl, trivial⟩
noncomputable def body128 : Code := match Try.f128.body with | some c => c | none => .skip
noncomputable def math_Trunc (p1 : Nat) : Option Nat :=
  Option.bind (nNaN p1) fun q2 =>
  some (fTr p1)
theorem math_Trunc_m {p1 : Nat} {r : Nat} (h : math_Trunc p1 = some r) : Meets Try.prog 128 [(FK p1)] (FK r) := by
  refine meets_ofC Θ_ok Try.func128 rfl (c := body128) (by kernel_rfl) (Nat.le_of_ble_eq_true rfl) ?_
  intro E hP hn hx
  replace hn : E.n = 7 := hn
  have hm : E.P.follows .mixedOrders = true := by rw [hP]; exact mixed
  have hΘ : TOK E.P Θ := by rw [hP]; exact Θ_ok
  unfold math_Trunc at h
  show WAt E body128 (FQ (RetE Θ Try.f128.results.toList [] [] (FK r) E)) [] ⟨[(0, (FK p1))], [], [JJ]⟩
  obtain ⟨q2, hq2, h⟩ := bnS h
  have h := Option.some.inj h
  subst h
  exact go_ret hΘ hm hP hn (hs := [⟨3, .xt (FK (fTr p1)), none⟩]) (rh := []) (ph := .raw) (ps := [ExtS Try.prog 131 (FK p1) (FK (fTr p1)), (FK (fTr p1)) = (FK (fTr p1)), litA (FK (fTr p1)) = true]) (by kernel_rfl) ⟨(xTrunc Try.func131 (by kernel_rfl) (by kernel_rfl) (by kernel_rfl) (by kernel_rfl) (nNaNE hq2)), rfl, rfl, trivial⟩
noncomputable def body120 : Code := match Try.f120.body with | some c => c | none => .skip
noncomputable def impl_KindOf (p1 : Nat) : Option Int :=
  Option.bind (math_IsNaN p1) fun r2 =>
  if r2 = true then
    some 0
  else
    Option.bind (math_IsInf__0 p1) fun r5 =>
    if r5 = true then
      some 1
    else
      if ((fcmp p1 0) == some .eq) = true then
        some 2
      else
        Option.bind (math_Trunc p1) fun r10 =>
        if ((fcmp p1 r10) == some .eq) = true then
          some 3
        else
          some 4
theorem impl_KindOf_m {p1 : Nat} {r : Int} (h : impl_KindOf p1 = some r) : Meets Try.prog 120 [(FK p1)] (I r) := by
  refine meets_ofC Θ_ok Try.func120 rfl (c := body120) (by kernel_rfl) (Nat.le_of_ble_eq_true rfl) ?_
  intro E hP hn hx
  replace hn : E.n = 17 := hn
  have hm : E.P.follows .mixedOrders = true := by rw [hP]; exact mixed
  have hΘ : TOK E.P Θ := by rw [hP]; exact Θ_ok
  unfold impl_KindOf at h
  show WAt E body120 (FQ (RetE Θ Try.f120.results.toList [] [] (I r) E)) [] ⟨[(0, (FK p1))], [], [JJ]⟩
  obtain ⟨r2, hr2, h⟩ := bnS h
  rcases itS h with ⟨c3, h⟩ | ⟨c4, h⟩
  · have h := Option.some.inj h
    subst h
    exact go_ret hΘ hm hP hn (hs := [⟨2, .callV [] (B r2), none⟩, ⟨4, .br true, none⟩]) (rh := []) (ph := .raw) (ps := [Meets Try.prog 118 [(FK p1)] (B r2), litA (B r2) = true, r2 = true, (I 0) = (I 0), litA (I 0) = true]) (by kernel_rfl) ⟨(math_IsNaN_m hr2), rfl, c3, rfl, rfl, trivial⟩
  · obtain ⟨r5, hr5, h⟩ := bnS h
    rcases itS h with ⟨c6, h⟩ | ⟨c7, h⟩
    · have h := Option.some.inj h
      subst h
      exact go_ret hΘ hm hP hn (hs := [⟨2, .callV [] (B r2), none⟩, ⟨4, .br false, none⟩, ⟨6, .callV [] (B r5), none⟩, ⟨8, .br true, none⟩]) (rh := []) (ph := .raw) (ps := [Meets Try.prog 118 [(FK p1)] (B r2), litA (B r2) = true, r2 = false, Meets Try.prog 127 [(FK p1), (I 0)] (B r5), litA (B r5) = true, r5 = true, (I 1) = (I 1), litA (I 1) = true]) (by kernel_rfl) ⟨(math_IsNaN_m hr2), rfl, c4, (math_IsInf__0_m hr5), rfl, c6, rfl, rfl, trivial⟩
    · rcases itS h with ⟨c8, h⟩ | ⟨c9, h⟩
      · have h := Option.some.inj h
        subst h
        exact go_ret hΘ hm hP hn (hs := [⟨2, .callV [] (B r2), none⟩, ⟨4, .br false, none⟩, ⟨6, .callV [] (B r5), none⟩, ⟨8, .br false, none⟩, ⟨10, .bin (B ((fcmp p1 0) == some .eq)), none⟩, ⟨12, .br true, none⟩]) (rh := []) (ph := .raw) (ps := [Meets Try.prog 118 [(FK p1)] (B r2), litA (B r2) = true, r2 = false, Meets Try.prog 127 [(FK p1), (I 0)] (B r5), litA (B r5) = true, r5 = false, BinS Try.prog .eql 83 (FK p1) (FK 0) (B ((fcmp p1 0) == some .eq)), ((fcmp p1 0) == some .eq) = true, (I 2) = (I 2), litA (I 2) = true]) (by kernel_rfl) ⟨(math_IsNaN_m hr2), rfl, c4, (math_IsInf__0_m hr5), rfl, c7, fEql, c8, rfl, rfl, trivial⟩
      · obtain ⟨r10, hr10, h⟩ := bnS h
        rcases itS h with ⟨c11, h⟩ | ⟨c12, h⟩
        · have h := Option.some.inj h
          subst h
          exact go_ret hΘ hm hP hn (hs := [⟨2, .callV [] (B r2), none⟩, ⟨4, .br false, none⟩, ⟨6, .callV [] (B r5), none⟩, ⟨8, .br false, none⟩, ⟨10, .bin (B ((fcmp p1 0) == some .eq)), none⟩, ⟨12, .br false, none⟩, ⟨15, .callV [] (FK r10), none⟩, ⟨16, .bin (B ((fcmp p1 r10) == some .eq)), none⟩, ⟨18, .br true, none⟩]) (rh := []) (ph := .raw) (ps := [Meets Try.prog 118 [(FK p1)] (B r2), litA (B r2) = true, r2 = false, Meets Try.prog 127 [(FK p1), (I 0)] (B r5), litA (B r5) = true, r5 = false, BinS Try.prog .eql 83 (FK p1) (FK 0) (B ((fcmp p1 0) == some .eq)), ((fcmp p1 0) == some .eq) = false, Meets Try.prog 128 [(FK p1)] (FK r10), litA (FK r10) = true, BinS Try.prog .eql 83 (FK p1) (FK r10) (B ((fcmp p1 r10) == some .eq)), ((fcmp p1 r10) == some .eq) = true, (I 3) = (I 3), litA (I 3) = true]) (by kernel_rfl) ⟨(math_IsNaN_m hr2), rfl, c4, (math_IsInf__0_m hr5), rfl, c7, fEql, c9, (math_Trunc_m hr10), rfl, fEql, c11, rfl, rfl, trivial⟩
        · have h := Option.some.inj h
          subst h
          exact go_ret hΘ hm hP hn (hs := [⟨2, .callV [] (B r2), none⟩, ⟨4, .br false, none⟩, ⟨6, .callV [] (B r5), none⟩, ⟨8, .br false, none⟩, ⟨10, .bin (B ((fcmp p1 0) == some .eq)), none⟩, ⟨12, .br false, none⟩, ⟨15, .callV [] (FK r10), none⟩, ⟨16, .bin (B ((fcmp p1 r10) == some .eq)), none⟩, ⟨18, .br false, none⟩]) (rh := []) (ph := .raw) (ps := [Meets Try.prog 118 [(FK p1)] (B r2), litA (B r2) = true, r2 = false, Meets Try.prog 127 [(FK p1), (I 0)] (B r5), litA (B r5) = true, r5 = false, BinS Try.prog .eql 83 (FK p1) (FK 0) (B ((fcmp p1 0) == some .eq)), ((fcmp p1 0) == some .eq) = false, Meets Try.prog 128 [(FK p1)] (FK r10), litA (FK r10) = true, BinS Try.prog .eql 83 (FK p1) (FK r10) (B ((fcmp p1 r10) == some .eq)), ((fcmp p1 r10) == some .eq) = false, (I 4) = (I 4), litA (I 4) = true]) (by kernel_rfl) ⟨(math_IsNaN_m hr2), rfl, c4, (math_IsInf__0_m hr5), rfl, c7, fEql, c9, (math_Trunc_m hr10), rfl, fEql, c12, rfl, rfl, trivial⟩
noncomputable def body104 : Code := match Try.f104.body with | some c => c | none => .skip
noncomputable def impl_ToIndex (p1 : Nat) (p2 : Int) : Option (Int × Bool) :=
  Option.bind (impl_KindOf p1) fun r3 =>
  Option.bind (impl_in p2 1 1000) fun r4 =>
  if (!r4) = true then
    some (0, false)
  else
    if (r3 != 2) = true then
      if (r3 != 3) = true then
        some (0, false)
      else
        if ((fcmp p1 0) == some .lt) = true then
          some (0, false)
        else
          if ((fcmp p1 (fOf p2)) == some .gt || (fcmp p1 (fOf p2)) == some .eq) = true then
            some (0, false)
          else
            Option.bind (fTo p1) fun x14 =>
            some (x14, true)
    else
      if ((fcmp p1 0) == some .lt) = true then
        some (0, false)
      else
        if ((fcmp p1 (fOf p2)) == some .gt || (fcmp p1 (fOf p2)) == some .eq) = true then
          some (0, false)
        else
          Option.bind (fTo p1) fun x20 =>
          some (x20, true)
theorem impl_ToIndex_m {p1 : Nat} {p2 : Int} {r : (Int × Bool)} (h : impl_ToIndex p1 p2 = some r) : Meets Try.prog 104 [(FK p1), (I p2)] (AV.tup [(I r.1), (B r.2)]) := by
  refine meets_ofC Θ_ok Try.func104 rfl (c := body104) (by kernel_rfl) (Nat.le_of_ble_eq_true rfl) ?_
  intro E hP hn hx
  replace hn : E.n = 32 := hn
  have hm : E.P.follows .mixedOrders = true := by rw [hP]; exact mixed
  have hΘ : TOK E.P Θ := by rw [hP]; exact Θ_ok
  unfold impl_ToIndex at h
  show WAt E body104 (FQ (RetE Θ Try.f104.results.toList [] [] (AV.tup [(I r.1), (B r.2)]) E)) [] ⟨[(0, (FK p1)), (1, (I p2))], [], [JJ]⟩
  obtain ⟨r3, hr3, h⟩ := bnS h
  obtain ⟨r4, hr4, h⟩ := bnS h
  rcases itS h with ⟨c5, h⟩ | ⟨c6, h⟩
  · have h := Option.some.inj h
    subst h
    exact go_ret hΘ hm hP hn (hs := [⟨3, .callV [] (I r3), none⟩, ⟨6, .callV [] (B r4), none⟩, ⟨8, .no, some (B true)⟩]) (rh := []) (ph := .agg [.raw, .raw]) (ps := [Meets Try.prog 120 [(FK p1)] (I r3), litA (I r3) = true, Meets Try.prog 44 [(I p2), (I 1), (I 1000)] (B r4), litA (B r4) = true, (B (!r4)) = (B true), (I 0) = (I 0), litA (I 0) = true, (B false) = (B false), litA (B false) = true]) (by kernel_rfl) ⟨(impl_KindOf_m hr3), rfl, (impl_in_m hr4), rfl, (litB c5), rfl, rfl, rfl, rfl, trivial⟩
  · rcases itS h with ⟨c7, h⟩ | ⟨c15, h⟩
    · rcases itS h with ⟨c8, h⟩ | ⟨c9, h⟩
      · have h := Option.some.inj h
        subst h
        exact go_ret hΘ hm hP hn (hs := [⟨3, .callV [] (I r3), none⟩, ⟨6, .callV [] (B r4), none⟩, ⟨8, .no, some (B false)⟩, ⟨11, .no, some (B true)⟩, ⟨16, .no, some (B true)⟩]) (rh := []) (ph := .agg [.raw, .raw]) (ps := [Meets Try.prog 120 [(FK p1)] (I r3), litA (I r3) = true, Meets Try.prog 44 [(I p2), (I 1), (I 1000)] (B r4), litA (B r4) = true, (B (!r4)) = (B false), (B (r3 != 2)) = (B true), (B (r3 != 3)) = (B true), (I 0) = (I 0), litA (I 0) = true, (B false) = (B false), litA (B false) = true]) (by kernel_rfl) ⟨(impl_KindOf_m hr3), rfl, (impl_in_m hr4), rfl, (litB c6), (litB c7), (litB c8), rfl, rfl, rfl, rfl, trivial⟩
      · rcases itS h with ⟨c10, h⟩ | ⟨c11, h⟩
        · have h := Option.some.inj h
          subst h
          exact go_ret hΘ hm hP hn (hs := [⟨3, .callV [] (I r3), none⟩, ⟨6, .callV [] (B r4), none⟩, ⟨8, .no, some (B false)⟩, ⟨11, .no, some (B true)⟩, ⟨16, .no, some (B false)⟩, ⟨18, .bin (B ((fcmp p1 0) == some .lt)), none⟩, ⟨20, .no, some (B true)⟩]) (rh := []) (ph := .agg [.raw, .raw]) (ps := [Meets Try.prog 120 [(FK p1)] (I r3), litA (I r3) = true, Meets Try.prog 44 [(I p2), (I 1), (I 1000)] (B r4), litA (B r4) = true, (B (!r4)) = (B false), (B (r3 != 2)) = (B true), (B (r3 != 3)) = (B false), BinS Try.prog .lss 83 (FK p1) (FK 0) (B ((fcmp p1 0) == some .lt)), (B ((fcmp p1 0) == some .lt)) = (B true), (I 0) = (I 0), litA (I 0) = true, (B false) = (B false), litA (B false) = true]) (by kernel_rfl) ⟨(impl_KindOf_m hr3), rfl, (impl_in_m hr4), rfl, (litB c6), (litB c7), (litB c9), fLss, (litB c10), rfl, rfl, rfl, rfl, trivial⟩
        · rcases itS h with ⟨c12, h⟩ | ⟨c13, h⟩
          · have h := Option.some.inj h
            subst h
            exact go_ret hΘ hm hP hn (hs := [⟨3, .callV [] (I r3), none⟩, ⟨6, .callV [] (B r4), none⟩, ⟨8, .no, some (B false)⟩, ⟨11, .no, some (B true)⟩, ⟨16, .no, some (B false)⟩, ⟨18, .bin (B ((fcmp p1 0) == some .lt)), none⟩, ⟨20, .no, some (B false)⟩, ⟨23, .cnv (FK (fOf p2)), none⟩, ⟨24, .bin (B ((fcmp p1 (fOf p2)) == some .gt || (fcmp p1 (fOf p2)) == some .eq)), none⟩, ⟨26, .br true, none⟩]) (rh := []) (ph := .agg [.raw, .raw]) (ps := [Meets Try.prog 120 [(FK p1)] (I r3), litA (I r3) = true, Meets Try.prog 44 [(I p2), (I 1), (I 1000)] (B r4), litA (B r4) = true, (B (!r4)) = (B false), (B (r3 != 2)) = (B true), (B (r3 != 3)) = (B false), BinS Try.prog .lss 83 (FK p1) (FK 0) (B ((fcmp p1 0) == some .lt)), (B ((fcmp p1 0) == some .lt)) = (B false), CnvS Try.prog 3 83 (I p2) (FK (fOf p2)), BinS Try.prog .geq 83 (FK p1) (FK (fOf p2)) (B ((fcmp p1 (fOf p2)) == some .gt || (fcmp p1 (fOf p2)) == some .eq)), ((fcmp p1 (fOf p2)) == some .gt || (fcmp p1 (fOf p2)) == some .eq) = true, (I 0) = (I 0), litA (I 0) = true, (B false) = (B false), litA (B false) = true]) (by kernel_rfl) ⟨(impl_KindOf_m hr3), rfl, (impl_in_m hr4), rfl, (litB c6), (litB c7), (litB c9), fLss, (litB c11), (cIF (P := Try.prog) ty3 ty83), fGeq, c12, rfl, rfl, rfl, rfl, trivial⟩
          · obtain ⟨x14, hx14, h⟩ := bnS h
            have h := Option.some.inj h
            subst h
            exact go_ret hΘ hm hP hn (hs := [⟨3, .callV [] (I r3), none⟩, ⟨6, .callV [] (B r4), none⟩, ⟨8, .no, some (B false)⟩, ⟨11, .no, some (B true)⟩, ⟨16, .no, some (B false)⟩, ⟨18, .bin (B ((fcmp p1 0) == some .lt)), none⟩, ⟨20, .no, some (B false)⟩, ⟨23, .cnv (FK (fOf p2)), none⟩, ⟨24, .bin (B ((fcmp p1 (fOf p2)) == some .gt || (fcmp p1 (fOf p2)) == some .eq)), none⟩, ⟨26, .br false, none⟩, ⟨28, .cnv (I x14), none⟩]) (rh := []) (ph := .agg [.raw, .raw]) (ps := [Meets Try.prog 120 [(FK p1)] (I r3), litA (I r3) = true, Meets Try.prog 44 [(I p2), (I 1), (I 1000)] (B r4), litA (B r4) = true, (B (!r4)) = (B false), (B (r3 != 2)) = (B true), (B (r3 != 3)) = (B false), BinS Try.prog .lss 83 (FK p1) (FK 0) (B ((fcmp p1 0) == some .lt)), (B ((fcmp p1 0) == some .lt)) = (B false), CnvS Try.prog 3 83 (I p2) (FK (fOf p2)), BinS Try.prog .geq 83 (FK p1) (FK (fOf p2)) (B ((fcmp p1 (fOf p2)) == some .gt || (fcmp p1 (fOf p2)) == some .eq)), ((fcmp p1 (fOf p2)) == some .gt || (fcmp p1 (fOf p2)) == some .eq) = false, CnvS Try.prog 83 3 (FK p1) (I x14), (I x14) = (I x14), litA (I x14) = true, (B true) = (B true), litA (B true) = true]) (by kernel_rfl) ⟨(impl_KindOf_m hr3), rfl, (impl_in_m hr4), rfl, (litB c6), (litB c7), (litB c9), fLss, (litB c11), (cIF (P := Try.prog) ty3 ty83), fGeq, c13, (cFI (P := Try.prog) ty83 ty3 hx14), rfl, rfl, rfl, rfl, trivial⟩
    · rcases itS h with ⟨c16, h⟩ | ⟨c17, h⟩
      · have h := Option.some.inj h
        subst h
        exact go_ret hΘ hm hP hn (hs := [⟨3, .callV [] (I r3), none⟩, ⟨6, .callV [] (B r4), none⟩, ⟨8, .no, some (B false)⟩, ⟨11, .no, some (B false)⟩, ⟨18, .bin (B ((fcmp p1 0) == some .lt)), none⟩, ⟨20, .no, some (B true)⟩]) (rh := []) (ph := .agg [.raw, .raw]) (ps := [Meets Try.prog 120 [(FK p1)] (I r3), litA (I r3) = true, Meets Try.prog 44 [(I p2), (I 1), (I 1000)] (B r4), litA (B r4) = true, (B (!r4)) = (B false), (B (r3 != 2)) = (B false), BinS Try.prog .lss 83 (FK p1) (FK 0) (B ((fcmp p1 0) == some .lt)), (B ((fcmp p1 0) == some .lt)) = (B true), (I 0) = (I 0), litA (I 0) = true, (B false) = (B false), litA (B false) = true]) (by kernel_rfl) ⟨(impl_KindOf_m hr3), rfl, (impl_in_m hr4), rfl, (litB c6), (litB c15), fLss, (litB c16), rfl, rfl, rfl, rfl, trivial⟩
      · rcases itS h with ⟨c18, h⟩ | ⟨c19, h⟩
        · have h := Option.some.inj h
          subst h
          exact go_ret hΘ hm hP hn (hs := [⟨3, .callV [] (I r3), none⟩, ⟨6, .callV [] (B r4), none⟩, ⟨8, .no, some (B false)⟩, ⟨11, .no, some (B false)⟩, ⟨18, .bin (B ((fcmp p1 0) == some .lt)), none⟩, ⟨20, .no, some (B false)⟩, ⟨23, .cnv (FK (fOf p2)), none⟩, ⟨24, .bin (B ((fcmp p1 (fOf p2)) == some .gt || (fcmp p1 (fOf p2)) == some .eq)), none⟩, ⟨26, .br true, none⟩]) (rh := []) (ph := .agg [.raw, .raw]) (ps := [Meets Try.prog 120 [(FK p1)] (I r3), litA (I r3) = true, Meets Try.prog 44 [(I p2), (I 1), (I 1000)] (B r4), litA (B r4) = true, (B (!r4)) = (B false), (B (r3 != 2)) = (B false), BinS Try.prog .lss 83 (FK p1) (FK 0) (B ((fcmp p1 0) == some .lt)), (B ((fcmp p1 0) == some .lt)) = (B false), CnvS Try.prog 3 83 (I p2) (FK (fOf p2)), BinS Try.prog .geq 83 (FK p1) (FK (fOf p2)) (B ((fcmp p1 (fOf p2)) == some .gt || (fcmp p1 (fOf p2)) == some .eq)), ((fcmp p1 (fOf p2)) == some .gt || (fcmp p1 (fOf p2)) == some .eq) = true, (I 0) = (I 0), litA (I 0) = true, (B false) = (B false), litA (B false) = true]) (by kernel_rfl) ⟨(impl_KindOf_m hr3), rfl, (impl_in_m hr4), rfl, (litB c6), (litB c15), fLss, (litB c17), (cIF (P := Try.prog) ty3 ty83), fGeq, c18, rfl, rfl, rfl, rfl, trivial⟩
        · obtain ⟨x20, hx20, h⟩ := bnS h
          have h := Option.some.inj h
          subst h
          exact go_ret hΘ hm hP hn (hs := [⟨3, .callV [] (I r3), none⟩, ⟨6, .callV [] (B r4), none⟩, ⟨8, .no, some (B false)⟩, ⟨11, .no, some (B false)⟩, ⟨18, .bin (B ((fcmp p1 0) == some .lt)), none⟩, ⟨20, .no, some (B false)⟩, ⟨23, .cnv (FK (fOf p2)), none⟩, ⟨24, .bin (B ((fcmp p1 (fOf p2)) == some .gt || (fcmp p1 (fOf p2)) == some .eq)), none⟩, ⟨26, .br false, none⟩, ⟨28, .cnv (I x20), none⟩]) (rh := []) (ph := .agg [.raw, .raw]) (ps := [Meets Try.prog 120 [(FK p1)] (I r3), litA (I r3) = true, Meets Try.prog 44 [(I p2), (I 1), (I 1000)] (B r4), litA (B r4) = true, (B (!r4)) = (B false), (B (r3 != 2)) = (B false), BinS Try.prog .lss 83 (FK p1) (FK 0) (B ((fcmp p1 0) == some .lt)), (B ((fcmp p1 0) == some .lt)) = (B false), CnvS Try.prog 3 83 (I p2) (FK (fOf p2)), BinS Try.prog .geq 83 (FK p1) (FK (fOf p2)) (B ((fcmp p1 (fOf p2)) == some .gt || (fcmp p1 (fOf p2)) == some .eq)), ((fcmp p1 (fOf p2)) == some .gt || (fcmp p1 (fOf p2)) == some .eq) = false, CnvS Try.prog 83 3 (FK p1) (I x20), (I x20) = (I x20), litA (I x20) = true, (B true) = (B true), litA (B true) = true]) (by kernel_rfl) ⟨(impl_KindOf_m hr3), rfl, (impl_in_m hr4), rfl, (litB c6), (litB c15), fLss, (litB c17), (cIF (P := Try.prog) ty3 ty83), fGeq, c19, (cFI (P := Try.prog) ty83 ty3 hx20), rfl, rfl, rfl, rfl, trivial⟩
noncomputable def body96 : Code := match Try.f96.body with | some c => c | none => .skip
noncomputable def impl_State_joined (p1 : GState) (p2 : GThread) : Option (Int × Bool) :=
  if ((p2.Stack.length : Int) == 0) = true then
    some (0, false)
  else
    Option.bind (rd p2.Stack (w64 ((p2.Stack.length : Int) - 1))) fun x5 =>
    Option.bind (impl_ToIndex x5 (p1.Threads.length : Int)) fun r6 =>
    some (r6.1, r6.2)
theorem impl_State_joined_m {p1 : GState} {p2 : GThread} {r : (Int × Bool)} (h : impl_State_joined p1 p2 = some r) : Meets Try.prog 96 [(AV.rop (r39 p1) 0), (AV.agg ((r70 p2)))] (AV.tup [(I r.1), (B r.2)]) := by
  refine meets_ofC Θ_ok Try.func96 rfl (c := body96) (by kernel_rfl) (Nat.le_of_ble_eq_true rfl) ?_
  intro E hP hn hx
  replace hn : E.n = 26 := hn
  have hm : E.P.follows .mixedOrders = true := by rw [hP]; exact mixed
  have hΘ : TOK E.P Θ := by rw [hP]; exact Θ_ok
  unfold impl_State_joined at h
  show WAt E body96 (FQ (RetE Θ Try.f96.results.toList [] [] (AV.tup [(I r.1), (B r.2)]) E)) [] ⟨[(0, (AV.rop (r39 p1) 0)), (1, (AV.agg ((r70 p2))))], [], [JJ]⟩
  rcases itS h with ⟨c3, h⟩ | ⟨c4, h⟩
  · have h := Option.some.inj h
    subst h
    exact go_ret hΘ hm hP hn (hs := [⟨0, .new 1001, none⟩, ⟨5, .no, some (I (p2.Stack.length : Int))⟩, ⟨7, .br true, none⟩]) (rh := []) (ph := .agg [.raw, .raw]) (ps := [AV.lit (.int .i64 (((p2.Stack.map o83).length : Nat) : Int)) = (I (p2.Stack.length : Int)), ((p2.Stack.length : Int) == 0) = true, (I 0) = (I 0), litA (I 0) = true, (B false) = (B false), litA (B false) = true]) (by kernel_rfl) ⟨(lenM o83), c3, rfl, rfl, rfl, rfl, trivial⟩
  · obtain ⟨x5, hx5, h⟩ := bnS h
    obtain ⟨r6, hr6, h⟩ := bnS h
    have h := Option.some.inj h
    subst h
    exact go_ret hΘ hm hP hn (hs := [⟨0, .new 1001, none⟩, ⟨5, .no, some (I (p2.Stack.length : Int))⟩, ⟨7, .br false, none⟩, ⟨12, .no, some (I (p2.Stack.length : Int))⟩, ⟨14, .row (o83 x5), none⟩, ⟨20, .no, some (I (p1.Threads.length : Int))⟩, ⟨21, .callV [] (AV.tup [(I r6.1), (B r6.2)]), none⟩]) (rh := []) (ph := .agg [.raw, .raw]) (ps := [AV.lit (.int .i64 (((p2.Stack.map o83).length : Nat) : Int)) = (I (p2.Stack.length : Int)), ((p2.Stack.length : Int) == 0) = false, AV.lit (.int .i64 (((p2.Stack.map o83).length : Nat) : Int)) = (I (p2.Stack.length : Int)), (0 : Int) ≤ (w64 ((p2.Stack.length : Int) - 1)), (p2.Stack.map o83)[(Int.toNat (w64 ((p2.Stack.length : Int) - 1)))]? = some (o83 x5), AV.lit (.int .i64 (((p1.Threads.map r70).length : Nat) : Int)) = (I (p1.Threads.length : Int)), Meets Try.prog 104 [(FK x5), (I (p1.Threads.length : Int))] (AV.tup [(I r6.1), (B r6.2)]), litA (AV.tup [(I r6.1), (B r6.2)]) = true, (I r6.1) = (I r6.1), litA (I r6.1) = true, (B r6.2) = (B r6.2), litA (B r6.2) = true]) (by kernel_rfl) ⟨(lenM o83), c4, (lenM o83), (rd0 hx5), (rdM o83 hx5), (lenM r70), (impl_ToIndex_m hr6), rfl, rfl, rfl, rfl, rfl, trivial⟩
noncomputable def body85 : Code := match Try.f85.body with | some c => c | none => .skip
noncomputable def impl_State_waits_j0  (p1 : GState) (r8 : (GOp × Bool))  : Option (Int × Bool) :=
  Option.bind (rd p1.Owner r8.1.A) fun x11 =>
  some (x11, (decide (x11 ≥ 0)))
theorem impl_State_waits_j0_m {E : Env} (hP : E.P = Try.prog) (hn : E.n = 91) (hx : ∀ p, p ∈ E.fx → p.1 ∈ ([] : List Nat)) (p1 : GState) (r8 : (GOp × Bool))   (r : (Int × Bool)) (h : impl_State_waits_j0 p1 r8  = some r) : WAt E body85 (FQ (RetE Θ Try.f85.results.toList [] [] (AV.tup [(I r.1), (B r.2)]) E)) [true, false, true, false, true, true, true, false, true, false, true, false] ⟨[(0, (AV.rop (r39 p1) 0)), (8, (AV.ptr 1 0 0))], [(1, some ⟨85, 4, [((o85 r8.1))]⟩)], [1, JJ]⟩ := by
  have hm : E.P.follows .mixedOrders = true := by rw [hP]; exact mixed
  have hΘ : TOK E.P Θ := by rw [hP]; exact Θ_ok
  unfold impl_State_waits_j0 at h
  obtain ⟨x11, hx11, h⟩ := bnS h
  have h := Option.some.inj h
  subst h
  exact go_ret hΘ hm hP hn (hs := [⟨6, .row (o3 x11), none⟩, ⟨14, .row (o3 x11), none⟩]) (rh := []) (ph := .agg [.raw, .raw]) (ps := [(0 : Int) ≤ r8.1.A, (p1.Owner.map o3)[(Int.toNat r8.1.A)]? = some (o3 x11), (0 : Int) ≤ r8.1.A, (p1.Owner.map o3)[(Int.toNat r8.1.A)]? = some (o3 x11), (I x11) = (I x11), litA (I x11) = true, (B (decide (x11 ≥ 0))) = (B (decide (x11 ≥ 0))), litA (B (decide (x11 ≥ 0))) = true]) (by kernel_rfl) ⟨(rd0 hx11), (rdM o3 hx11), (rd0 hx11), (rdM o3 hx11), rfl, rfl, rfl, rfl, trivial⟩
noncomputable def impl_State_waits_j2  (p1 : GState) (p3 : GThread)  : Option (Int × Bool) :=
  Option.bind (impl_State_joined p1 p3) fun r15 =>
  if r15.2 = true then
    Option.bind (rd p1.Threads r15.1) fun x17 =>
    some (r15.1, (x17.State != 2))
  else
    some (r15.1, false)
theorem impl_State_waits_j2_m {E : Env} (hP : E.P = Try.prog) (hn : E.n = 91) (hx : ∀ p, p ∈ E.fx → p.1 ∈ ([] : List Nat)) (p1 : GState) (p3 : GThread)   (r : (Int × Bool)) (h : impl_State_waits_j2 p1 p3  = some r) : WAt E body85 (FQ (RetE Θ Try.f85.results.toList [] [] (AV.tup [(I r.1), (B r.2)]) E)) [true, false, true, false, true, true, true, false, true, false, true, true, true, false] ⟨[(0, (AV.rop (r39 p1) 0)), (5, (AV.ptr 1 0 0))], [(1, some ⟨70, 6, [((r70 p3))]⟩)], [1, JJ]⟩ := by
  have hm : E.P.follows .mixedOrders = true := by rw [hP]; exact mixed
  have hΘ : TOK E.P Θ := by rw [hP]; exact Θ_ok
  unfold impl_State_waits_j2 at h
  obtain ⟨r15, hr15, h⟩ := bnS h
  rcases itS h with ⟨c16, h⟩ | ⟨c18, h⟩
  · obtain ⟨x17, hx17, h⟩ := bnS h
    have h := Option.some.inj h
    subst h
    exact go_ret hΘ hm hP hn (hs := [⟨2, .callV [[]] (AV.tup [(I r15.1), (B r15.2)]), none⟩, ⟨10, .no, some (B true)⟩, ⟨16, .row (r70 x17), none⟩]) (rh := []) (ph := .agg [.raw, .raw]) (ps := [Meets Try.prog 96 [(AV.rop (r39 p1) 0), (AV.agg ((r70 p3)))] (AV.tup [(I r15.1), (B r15.2)]), litA (AV.tup [(I r15.1), (B r15.2)]) = true, (B r15.2) = (B true), (0 : Int) ≤ r15.1, (p1.Threads.map r70)[(Int.toNat r15.1)]? = some (r70 x17), (I r15.1) = (I r15.1), litA (I r15.1) = true, (B (x17.State != 2)) = (B (x17.State != 2)), litA (B (x17.State != 2)) = true]) (by kernel_rfl) ⟨(impl_State_joined_m hr15), rfl, (litB c16), (rd0 hx17), (rdM r70 hx17), rfl, rfl, rfl, rfl, trivial⟩
  · have h := Option.some.inj h
    subst h
    exact go_ret hΘ hm hP hn (hs := [⟨2, .callV [[]] (AV.tup [(I r15.1), (B r15.2)]), none⟩, ⟨10, .no, some (B false)⟩]) (rh := []) (ph := .agg [.raw, .raw]) (ps := [Meets Try.prog 96 [(AV.rop (r39 p1) 0), (AV.agg ((r70 p3)))] (AV.tup [(I r15.1), (B r15.2)]), litA (AV.tup [(I r15.1), (B r15.2)]) = true, (B r15.2) = (B false), (I r15.1) = (I r15.1), litA (I r15.1) = true, (B false) = (B false), litA (B false) = true]) (by kernel_rfl) ⟨(impl_State_joined_m hr15), rfl, (litB c18), rfl, rfl, rfl, rfl, trivial⟩
noncomputable def impl_State_waits_j1  (p1 : GState) (p3 : GThread) (r8 : (GOp × Bool))  : Option (Int × Bool) :=
  if r8.2 = true then
    if (r8.1.Code == 15) = true then
      impl_State_waits_j2 p1 p3
    else
      some (0, false)
  else
    some (0, false)
theorem impl_State_waits_j1_m {E : Env} (hP : E.P = Try.prog) (hn : E.n = 91) (hx : ∀ p, p ∈ E.fx → p.1 ∈ ([] : List Nat)) (p1 : GState) (p3 : GThread) (r8 : (GOp × Bool))   (r : (Int × Bool)) (h : impl_State_waits_j1 p1 p3 r8  = some r) : WAt E body85 (FQ (RetE Θ Try.f85.results.toList [] [] (AV.tup [(I r.1), (B r.2)]) E)) [true, false, true, false, true, true, true, false, true, false, true, true] ⟨[(0, (AV.rop (r39 p1) 0)), (5, (AV.ptr 1 0 0)), (8, (AV.ptr 2 0 0)), (9, (B r8.2))], [(1, some ⟨70, 6, [((r70 p3))]⟩), (2, some ⟨85, 4, [((o85 r8.1))]⟩)], [1, 2, JJ]⟩ := by
  have hm : E.P.follows .mixedOrders = true := by rw [hP]; exact mixed
  have hΘ : TOK E.P Θ := by rw [hP]; exact Θ_ok
  unfold impl_State_waits_j1 at h
  rcases itS h with ⟨c13, h⟩ | ⟨c20, h⟩
  · rcases itS h with ⟨c14, h⟩ | ⟨c19, h⟩
    · exact go_to hΘ hm hx hP hn (hs := [⟨1, .no, some (B true)⟩, ⟨7, .br true, none⟩]) (π := [(1, 1)]) (ts := [0, 5]) (kp := []) (ps := [(B r8.2) = (B true), (r8.1.Code == 15) = true, RenOK [(1, 1)] [((r70 p3))]]) (by kernel_rfl) ⟨(litB c13), c14, (rok (treeB t70 p3)), trivial⟩ (impl_State_waits_j2_m hP hn hx p1 p3  _ h)
    · have h := Option.some.inj h
      subst h
      exact go_ret hΘ hm hP hn (hs := [⟨1, .no, some (B true)⟩, ⟨7, .br false, none⟩]) (rh := []) (ph := .agg [.raw, .raw]) (ps := [(B r8.2) = (B true), (r8.1.Code == 15) = false, (I 0) = (I 0), litA (I 0) = true, (B false) = (B false), litA (B false) = true]) (by kernel_rfl) ⟨(litB c13), c19, rfl, rfl, rfl, rfl, trivial⟩
  · have h := Option.some.inj h
    subst h
    exact go_ret hΘ hm hP hn (hs := [⟨1, .no, some (B false)⟩]) (rh := []) (ph := .agg [.raw, .raw]) (ps := [(B r8.2) = (B false), (I 0) = (I 0), litA (I 0) = true, (B false) = (B false), litA (B false) = true]) (by kernel_rfl) ⟨(litB c20), rfl, rfl, rfl, rfl, trivial⟩
noncomputable def impl_State_waits (p1 : GState) (p2 : GProg) (p3 : GThread) : Option (Int × Bool) :=
  if (p3.State == 4) = true then
    Option.bind (rd p1.Owner p3.Lock) fun x5 =>
    some (x5, (decide (x5 ≥ 0)))
  else
    if (p3.State == 1) = true then
      Option.bind (impl_Prog_next p2 p3) fun r8 =>
      if r8.2 = true then
        if (r8.1.Code == 12) = true then
          impl_State_waits_j0 p1 r8
        else
          impl_State_waits_j1 p1 p3 r8
      else
        impl_State_waits_j1 p1 p3 r8
    else
      some (0, false)
theorem impl_State_waits_m {p1 : GState} {p2 : GProg} {p3 : GThread} {r : (Int × Bool)} (h : impl_State_waits p1 p2 p3 = some r) : Meets Try.prog 85 [(AV.rop (r39 p1) 0), (AV.agg ((r35 p2))), (AV.agg ((r70 p3)))] (AV.tup [(I r.1), (B r.2)]) := by
  refine meets_ofC Θ_ok Try.func85 rfl (c := body85) (by kernel_rfl) (Nat.le_of_ble_eq_true rfl) ?_
  intro E hP hn hx
  replace hn : E.n = 91 := hn
  have hm : E.P.follows .mixedOrders = true := by rw [hP]; exact mixed
  have hΘ : TOK E.P Θ := by rw [hP]; exact Θ_ok
  unfold impl_State_waits at h
  show WAt E body85 (FQ (RetE Θ Try.f85.results.toList [] [] (AV.tup [(I r.1), (B r.2)]) E)) [] ⟨[(0, (AV.rop (r39 p1) 0)), (1, (AV.agg ((r35 p2)))), (2, (AV.agg ((r70 p3))))], [], [JJ]⟩
  rcases itS h with ⟨c4, h⟩ | ⟨c6, h⟩
  · obtain ⟨x5, hx5, h⟩ := bnS h
    have h := Option.some.inj h
    subst h
    exact go_ret hΘ hm hP hn (hs := [⟨0, .new 1001, none⟩, ⟨1, .new 1002, none⟩, ⟨8, .br true, none⟩, ⟨15, .row (o3 x5), none⟩, ⟨23, .row (o3 x5), none⟩]) (rh := []) (ph := .agg [.raw, .raw]) (ps := [(p3.State == 4) = true, (0 : Int) ≤ p3.Lock, (p1.Owner.map o3)[(Int.toNat p3.Lock)]? = some (o3 x5), (0 : Int) ≤ p3.Lock, (p1.Owner.map o3)[(Int.toNat p3.Lock)]? = some (o3 x5), (I x5) = (I x5), litA (I x5) = true, (B (decide (x5 ≥ 0))) = (B (decide (x5 ≥ 0))), litA (B (decide (x5 ≥ 0))) = true]) (by kernel_rfl) ⟨c4, (rd0 hx5), (rdM o3 hx5), (rd0 hx5), (rdM o3 hx5), rfl, rfl, rfl, rfl, trivial⟩
  · rcases itS h with ⟨c7, h⟩ | ⟨c22, h⟩
    · obtain ⟨r8, hr8, h⟩ := bnS h
      rcases itS h with ⟨c9, h⟩ | ⟨c21, h⟩
      · rcases itS h with ⟨c10, h⟩ | ⟨c12, h⟩
        · exact go_to hΘ hm hx hP hn (hs := [⟨0, .new 1001, none⟩, ⟨1, .new 1002, none⟩, ⟨8, .br false, none⟩, ⟨11, .br true, none⟩, ⟨14, .callV [[], []] (AV.tup [(AV.agg (o85 r8.1)), (B r8.2)]), none⟩, ⟨18, .new 1003, none⟩, ⟨22, .no, some (B true)⟩, ⟨28, .br true, none⟩]) (π := [(1003, 1)]) (ts := [0, 8]) (kp := []) (ps := [(p3.State == 4) = false, (p3.State == 1) = true, Meets Try.prog 95 [(AV.agg ((r35 p2))), (AV.agg ((r70 p3)))] (AV.tup [(AV.agg (o85 r8.1)), (B r8.2)]), litA (AV.tup [(AV.agg (o85 r8.1)), (B r8.2)]) = true, (B r8.2) = (B true), (r8.1.Code == 12) = true, RenOK [(1003, 1)] [((o85 r8.1))]]) (by kernel_rfl) ⟨c6, c7, (impl_Prog_next_m hr8), rfl, (litB c9), c10, (rok rfl), trivial⟩ (impl_State_waits_j0_m hP hn hx p1 r8  _ h)
        · exact go_to hΘ hm hx hP hn (hs := [⟨0, .new 1001, none⟩, ⟨1, .new 1002, none⟩, ⟨8, .br false, none⟩, ⟨11, .br true, none⟩, ⟨14, .callV [[], []] (AV.tup [(AV.agg (o85 r8.1)), (B r8.2)]), none⟩, ⟨18, .new 1003, none⟩, ⟨22, .no, some (B true)⟩, ⟨28, .br false, none⟩]) (π := [(1002, 1), (1003, 2)]) (ts := [0, 5, 8, 9]) (kp := []) (ps := [(p3.State == 4) = false, (p3.State == 1) = true, Meets Try.prog 95 [(AV.agg ((r35 p2))), (AV.agg ((r70 p3)))] (AV.tup [(AV.agg (o85 r8.1)), (B r8.2)]), litA (AV.tup [(AV.agg (o85 r8.1)), (B r8.2)]) = true, (B r8.2) = (B true), (r8.1.Code == 12) = false, RenOK [(1002, 1), (1003, 2)] [((r70 p3))], RenOK [(1002, 1), (1003, 2)] [((o85 r8.1))]]) (by kernel_rfl) ⟨c6, c7, (impl_Prog_next_m hr8), rfl, (litB c9), c12, (rok (treeB t70 p3)), (rok rfl), trivial⟩ (impl_State_waits_j1_m hP hn hx p1 p3 r8  _ h)
      · exact go_to hΘ hm hx hP hn (hs := [⟨0, .new 1001, none⟩, ⟨1, .new 1002, none⟩, ⟨8, .br false, none⟩, ⟨11, .br true, none⟩, ⟨14, .callV [[], []] (AV.tup [(AV.agg (o85 r8.1)), (B r8.2)]), none⟩, ⟨18, .new 1003, none⟩, ⟨22, .no, some (B false)⟩]) (π := [(1002, 1), (1003, 2)]) (ts := [0, 5, 8, 9]) (kp := []) (ps := [(p3.State == 4) = false, (p3.State == 1) = true, Meets Try.prog 95 [(AV.agg ((r35 p2))), (AV.agg ((r70 p3)))] (AV.tup [(AV.agg (o85 r8.1)), (B r8.2)]), litA (AV.tup [(AV.agg (o85 r8.1)), (B r8.2)]) = true, (B r8.2) = (B false), RenOK [(1002, 1), (1003, 2)] [((r70 p3))], RenOK [(1002, 1), (1003, 2)] [((o85 r8.1))]]) (by kernel_rfl) ⟨c6, c7, (impl_Prog_next_m hr8), rfl, (litB c21), (rok (treeB t70 p3)), (rok rfl), trivial⟩ (impl_State_waits_j1_m hP hn hx p1 p3 r8  _ h)
    · have h := Option.some.inj h
      subst h
      exact go_ret hΘ hm hP hn (hs := [⟨0, .new 1001, none⟩, ⟨1, .new 1002, none⟩, ⟨8, .br false, none⟩, ⟨11, .br false, none⟩]) (rh := []) (ph := .agg [.raw, .raw]) (ps := [(p3.State == 4) = false, (p3.State == 1) = false, (I 0) = (I 0), litA (I 0) = true, (B false) = (B false), litA (B false) = true]) (by kernel_rfl) ⟨c6, c22, rfl, rfl, rfl, rfl, trivial⟩
noncomputable def body65 : Code := match Try.f65.body with | some c => c | none => .skip
noncomputable def impl_State_waitsFor_l0  (p1 : GState) : Nat → GProg → (List (List Int)) → Int → Option (List (List Int))
  | 0, _, _, _ => none
  | n + 1, a3, a4, v5 =>
  if (decide (v5 < (p1.Threads.length : Int))) = true then
    Option.bind (rd p1.Threads v5) fun x7 =>
    Option.bind (impl_State_waits p1 a3 x7) fun r8 =>
    if r8.2 = true then
      Option.bind (app a4 [[v5, r8.1]]) fun l10 =>
      impl_State_waitsFor_l0 p1 n a3 l10 (w64 (v5 + 1))
    else
      impl_State_waitsFor_l0 p1 n a3 a4 (w64 (v5 + 1))
  else
    some a4
theorem impl_State_waitsFor_l0_m {E : Env} (hP : E.P = Try.prog) (hn : E.n = 37) (hx : ∀ p, p ∈ E.fx → p.1 ∈ ([] : List Nat)) (p1 : GState)  : ∀ (n : Nat) (a3 : GProg) (a4 : (List (List Int))) (v5 : Int) (r : (List (List Int))), impl_State_waitsFor_l0 p1 n a3 a4 v5 = some r → WAt E body65 (FQ (RetE Θ Try.f65.results.toList [] [] (AV.own 27 1 (r.map o27)) E)) [true, true, false, true, false] ⟨[(0, (AV.rop (r39 p1) 0)), (3, (AV.ptr 1 0 0)), (5, (AV.sl 2 0 (List.length (a4.map o27)))), (14, (AV.ro 6 (p1.Threads.map r70))), (15, (I (p1.Threads.length : Int))), (16, (I v5))], [(1, some ⟨35, 4, [((r35 a3))]⟩), (2, some ⟨27, 1, (a4.map o27)⟩)], [1, 2, JJ]⟩ := by
  have hm : E.P.follows .mixedOrders = true := by rw [hP]; exact mixed
  have hΘ : TOK E.P Θ := by rw [hP]; exact Θ_ok
  intro n
  induction n with
  | zero => intro a3 a4 v5 r h; simp only [impl_State_waitsFor_l0] at h; cases h
  | succ n ih =>
    intro a3 a4 v5 r h
    simp only [impl_State_waitsFor_l0] at h
    rcases itS h with ⟨c6, h⟩ | ⟨c12, h⟩
    · obtain ⟨x7, hx7, h⟩ := bnS h
      obtain ⟨r8, hr8, h⟩ := bnS h
      rcases itS h with ⟨c9, h⟩ | ⟨c11, h⟩
      · obtain ⟨l10, hl10, h⟩ := bnS h
        exact go_to hΘ hm hx hP hn (hs := [⟨1, .br true, none⟩, ⟨3, .row (r70 x7), none⟩, ⟨5, .new 1001, none⟩, ⟨11, .callV [[], []] (AV.tup [(I r8.1), (B r8.2)]), none⟩, ⟨18, .br true, none⟩, ⟨22, .new 1002, none⟩, ⟨23, .new 1003, none⟩, ⟨24, .app 1004 ((a4.map o27) ++ [[(AV.sl 1002 0 (List.length ([v5, r8.1].map o3)))]]), none⟩, ⟨25, .pack 1004 1002 (List.length a4) 0 [(AV.sl 1002 0 (List.length ([v5, r8.1].map o3)))] (l10.map o27), none⟩, ⟨28, .slen 5 (List.length (l10.map o27)), none⟩]) (π := [(1, 1), (1004, 2)]) (ts := [0, 3, 5, 14, 15, 16]) (kp := []) (ps := [(decide (v5 < (p1.Threads.length : Int))) = true, (0 : Int) ≤ v5, (p1.Threads.map r70)[(Int.toNat v5)]? = some (r70 x7), Meets Try.prog 85 [(AV.rop (r39 p1) 0), (AV.agg ((r35 a3))), (AV.agg ((r70 x7)))] (AV.tup [(I r8.1), (B r8.2)]), litA (AV.tup [(I r8.1), (B r8.2)]) = true, r8.2 = true, (a4.map o27).take (List.length (a4.map o27)) ++ [[(AV.sl 1002 0 (List.length ([v5, r8.1].map o3)))]] = ((a4.map o27) ++ [[(AV.sl 1002 0 (List.length ([v5, r8.1].map o3)))]]), [[(AV.sl 1002 0 (List.length ([v5, r8.1].map o3)))]].all (fun r => r.all AV.plain) = true, (List.length ((a4.map o27) ++ [[(AV.sl 1002 0 (List.length ([v5, r8.1].map o3)))]])) * 24 ≤ 140737488355328, (List.length ((a4.map o27) ++ [[(AV.sl 1002 0 (List.length ([v5, r8.1].map o3)))]])) ≤ 140737488355328, ((a4.map o27) ++ [[(AV.sl 1002 0 (List.length ([v5, r8.1].map o3)))]])[(List.length a4)]? = some [(AV.sl 1002 0 (List.length ([v5, r8.1].map o3)))], [(AV.sl 1002 0 (List.length ([v5, r8.1].map o3)))][0]? = some (AV.sl 1002 0 (List.length ([v5, r8.1].map o3))), treeLL ([v5, r8.1].map o3) = true, ((a4.map o27) ++ [[(AV.sl 1002 0 (List.length ([v5, r8.1].map o3)))]]).set (List.length a4) ([(AV.sl 1002 0 (List.length ([v5, r8.1].map o3)))].set 0 (AV.own 3 1 ([v5, r8.1].map o3))) = (l10.map o27), (List.length ((a4.map o27) ++ [[(AV.sl 1002 0 (List.length ([v5, r8.1].map o3)))]])) = (List.length (l10.map o27)), RenOK [(1, 1), (1004, 2)] [((r35 a3))], RenOK [(1, 1), (1004, 2)] (l10.map o27)]) (by kernel_rfl) ⟨c6, (rd0 hx7), (rdM r70 hx7), (impl_State_waits_m hr8), rfl, c9, (apT o27), rfl, (apB o27 hl10 (by decide)), (apC o27 hl10), (apG o27), rfl, (treeM t3), (apS o27 hl10), (apLn o27 hl10), (rok (treeB t35 a3)), (rok (treeM t27)), trivial⟩ (ih a3 l10 (w64 (v5 + 1)) _ h)
      · exact go_to hΘ hm hx hP hn (hs := [⟨1, .br true, none⟩, ⟨3, .row (r70 x7), none⟩, ⟨5, .new 1001, none⟩, ⟨11, .callV [[], []] (AV.tup [(I r8.1), (B r8.2)]), none⟩, ⟨18, .br false, none⟩]) (π := [(1, 1), (2, 2)]) (ts := [0, 3, 5, 14, 15, 16]) (kp := []) (ps := [(decide (v5 < (p1.Threads.length : Int))) = true, (0 : Int) ≤ v5, (p1.Threads.map r70)[(Int.toNat v5)]? = some (r70 x7), Meets Try.prog 85 [(AV.rop (r39 p1) 0), (AV.agg ((r35 a3))), (AV.agg ((r70 x7)))] (AV.tup [(I r8.1), (B r8.2)]), litA (AV.tup [(I r8.1), (B r8.2)]) = true, r8.2 = false, RenOK [(1, 1), (2, 2)] [((r35 a3))], RenOK [(1, 1), (2, 2)] (a4.map o27)]) (by kernel_rfl) ⟨c6, (rd0 hx7), (rdM r70 hx7), (impl_State_waits_m hr8), rfl, c11, (rok (treeB t35 a3)), (rok (treeM t27)), trivial⟩ (ih a3 a4 (w64 (v5 + 1)) _ h)
    · have h := Option.some.inj h
      subst h
      exact go_ret hΘ hm hP hn (hs := [⟨1, .br false, none⟩]) (rh := []) (ph := .own) (ps := [(decide (v5 < (p1.Threads.length : Int))) = false, treeLL ((a4.map o27).take (List.length (a4.map o27))) = true, (a4.map o27).take (List.length (a4.map o27)) = (a4.map o27), noRoLL (a4.map o27) = true]) (by kernel_rfl) ⟨c12, (treeT t27), takeM, (noRoM n27), trivial⟩
noncomputable def impl_State_waitsFor (p1 : GState) (p2 : GProg) : Option (List (List Int)) :=
  impl_State_waitsFor_l0 p1 FU p2 [] 0
theorem impl_State_waitsFor_m {p1 : GState} {p2 : GProg} {r : (List (List Int))} (h : impl_State_waitsFor p1 p2 = some r) : Meets Try.prog 65 [(AV.rop (r39 p1) 0), (AV.agg ((r35 p2)))] (AV.own 27 1 (r.map o27)) := by
  refine meets_ofC Θ_ok Try.func65 rfl (c := body65) (by kernel_rfl) (Nat.le_of_ble_eq_true rfl) ?_
  intro E hP hn hx
  replace hn : E.n = 37 := hn
  have hm : E.P.follows .mixedOrders = true := by rw [hP]; exact mixed
  have hΘ : TOK E.P Θ := by rw [hP]; exact Θ_ok
  unfold impl_State_waitsFor at h
  show WAt E body65 (FQ (RetE Θ Try.f65.results.toList [] [] (AV.own 27 1 (r.map o27)) E)) [] ⟨[(0, (AV.rop (r39 p1) 0)), (1, (AV.agg ((r35 p2))))], [], [JJ]⟩
  exact go_to hΘ hm hx hP hn (hs := [⟨0, .new 1001, none⟩, ⟨2, .new 1002, none⟩, ⟨8, .no, some (I (p1.Threads.length : Int))⟩]) (π := [(1001, 1), (1002, 2)]) (ts := [0, 3, 5, 14, 15, 16]) (kp := []) (ps := [AV.lit (.int .i64 (((p1.Threads.map r70).length : Nat) : Int)) = (I (p1.Threads.length : Int)), RenOK [(1001, 1), (1002, 2)] [((r35 p2))], RenOK [(1001, 1), (1002, 2)] ([].map o27)]) (by kernel_rfl) ⟨(lenM r70), (rok (treeB t35 p2)), (rok (treeM t27)), trivial⟩ (impl_State_waitsFor_l0_m hP hn hx p1 FU p2 [] 0 _ h)
noncomputable def body29 : Code := match Try.f29.body with | some c => c | none => .skip
noncomputable def impl_WaitsFor (p1 : GProg) (p2 : GState) : Option ((List (List Int)) × Bool) :=
  Option.bind (impl_GoodState p1 p2) fun r3 =>
  if (!r3) = true then
    some ([], false)
  else
    Option.bind (impl_State_waitsFor p2 p1) fun r6 =>
    some (r6, true)
theorem impl_WaitsFor_m {p1 : GProg} {p2 : GState} {r : ((List (List Int)) × Bool)} (h : impl_WaitsFor p1 p2 = some r) : Meets Try.prog 29 [(AV.agg ((r35 p1))), (AV.agg ((r39 p2)))] (AV.tup [(AV.own 27 1 (r.1.map o27)), (B r.2)]) := by
  refine meets_ofC Θ_ok Try.func29 rfl (c := body29) (by kernel_rfl) (Nat.le_of_ble_eq_true rfl) ?_
  intro E hP hn hx
  replace hn : E.n = 12 := hn
  have hm : E.P.follows .mixedOrders = true := by rw [hP]; exact mixed
  have hΘ : TOK E.P Θ := by rw [hP]; exact Θ_ok
  unfold impl_WaitsFor at h
  show WAt E body29 (FQ (RetE Θ Try.f29.results.toList [] [] (AV.tup [(AV.own 27 1 (r.1.map o27)), (B r.2)]) E)) [] ⟨[(0, (AV.agg ((r35 p1)))), (1, (AV.agg ((r39 p2))))], [], [JJ]⟩
  obtain ⟨r3, hr3, h⟩ := bnS h
  rcases itS h with ⟨c4, h⟩ | ⟨c5, h⟩
  · have h := Option.some.inj h
    subst h
    exact go_ret hΘ hm hP hn (hs := [⟨0, .new 1001, none⟩, ⟨1, .new 1002, none⟩, ⟨6, .callV [[], []] (B r3), none⟩, ⟨8, .br true, none⟩]) (rh := []) (ph := .agg [.own, .raw]) (ps := [Meets Try.prog 13 [(AV.agg ((r35 p1))), (AV.agg ((r39 p2)))] (B r3), litA (B r3) = true, (!r3) = true, (B false) = (B false), litA (B false) = true]) (by kernel_rfl) ⟨(impl_GoodState_m hr3), rfl, c4, rfl, rfl, trivial⟩
  · obtain ⟨r6, hr6, h⟩ := bnS h
    have h := Option.some.inj h
    subst h
    exact go_ret hΘ hm hP hn (hs := [⟨0, .new 1001, none⟩, ⟨1, .new 1002, none⟩, ⟨6, .callV [[], []] (B r3), none⟩, ⟨8, .br false, none⟩, ⟨10, .call [[((r39 p2)), (r39 p2)], []] (AV.own 27 1 (r6.map o27)) [1003], none⟩]) (rh := []) (ph := .agg [.own, .raw]) (ps := [Meets Try.prog 13 [(AV.agg ((r35 p1))), (AV.agg ((r39 p2)))] (B r3), litA (B r3) = true, (!r3) = false, Meets Try.prog 65 [(AV.rop (r39 p2) 0), (AV.agg ((r35 p1)))] (AV.own 27 1 (r6.map o27)), noRo (AV.own 27 1 (r6.map o27)) = true, [((r39 p2))][0]? = some ((r39 p2)), treeL ((r39 p2)) = true, frzL ((r39 p2)) = (r39 p2), treeLL ((r6.map o27).take (List.length (r6.map o27))) = true, (r6.map o27).take (List.length (r6.map o27)) = (r6.map o27), noRoLL (r6.map o27) = true, (B true) = (B true), litA (B true) = true]) (by kernel_rfl) ⟨(impl_GoodState_m hr3), rfl, c5, (impl_State_waitsFor_m hr6), (by simp only [noRo, noRoL, noRoM n27, Bool.and_self]), rfl, rfl, rfl, (treeT t27), takeM, (noRoM n27), rfl, rfl, trivial⟩
noncomputable def body23 : Code := match Try.f23.body with | some c => c | none => .skip
noncomputable def laws_eqIntS_l0  (p1 : (List Int)) (p2 : (List Int)) : Nat → Int → Option Bool
  | 0, _ => none
  | n + 1, v5 =>
  if (decide (v5 < (p1.length : Int))) = true then
    Option.bind (rd p1 v5) fun x7 =>
    Option.bind (rd p2 v5) fun x8 =>
    if (x7 != x8) = true then
      some false
    else
      laws_eqIntS_l0 p1 p2 n (w64 (v5 + 1))
  else
    some true
theorem laws_eqIntS_l0_m {E : Env} (hP : E.P = Try.prog) (hn : E.n = 26) (hx : ∀ p, p ∈ E.fx → p.1 ∈ ([] : List Nat)) (p1 : (List Int)) (p2 : (List Int))  : ∀ (n : Nat) (v5 : Int) (r : Bool), laws_eqIntS_l0 p1 p2 n v5 = some r → WAt E body23 (FQ (RetE Θ Try.f23.results.toList [] [] (B r) E)) [true, true, false, true, false] ⟨[(0, (AV.ro 1 (p1.map o3))), (1, (AV.ro 1 (p2.map o3))), (5, (I v5))], [], [JJ]⟩ := by
  have hm : E.P.follows .mixedOrders = true := by rw [hP]; exact mixed
  have hΘ : TOK E.P Θ := by rw [hP]; exact Θ_ok
  intro n
  induction n with
  | zero => intro v5 r h; simp only [laws_eqIntS_l0] at h; cases h
  | succ n ih =>
    intro v5 r h
    simp only [laws_eqIntS_l0] at h
    rcases itS h with ⟨c6, h⟩ | ⟨c11, h⟩
    · obtain ⟨x7, hx7, h⟩ := bnS h
      obtain ⟨x8, hx8, h⟩ := bnS h
      rcases itS h with ⟨c9, h⟩ | ⟨c10, h⟩
      · have h := Option.some.inj h
        subst h
        exact go_ret hΘ hm hP hn (hs := [⟨2, .no, some (I (p1.length : Int))⟩, ⟨4, .br true, none⟩, ⟨7, .row (o3 x7), none⟩, ⟨11, .row (o3 x8), none⟩, ⟨14, .br true, none⟩]) (rh := []) (ph := .raw) (ps := [AV.lit (.int .i64 (((p1.map o3).length : Nat) : Int)) = (I (p1.length : Int)), (decide (v5 < (p1.length : Int))) = true, (0 : Int) ≤ v5, (p1.map o3)[(Int.toNat v5)]? = some (o3 x7), (0 : Int) ≤ v5, (p2.map o3)[(Int.toNat v5)]? = some (o3 x8), (x7 != x8) = true, (B false) = (B false), litA (B false) = true]) (by kernel_rfl) ⟨(lenM o3), c6, (rd0 hx7), (rdM o3 hx7), (rd0 hx8), (rdM o3 hx8), c9, rfl, rfl, trivial⟩
      · exact go_to hΘ hm hx hP hn (hs := [⟨2, .no, some (I (p1.length : Int))⟩, ⟨4, .br true, none⟩, ⟨7, .row (o3 x7), none⟩, ⟨11, .row (o3 x8), none⟩, ⟨14, .br false, none⟩]) (π := []) (ts := [0, 1, 5]) (kp := []) (ps := [AV.lit (.int .i64 (((p1.map o3).length : Nat) : Int)) = (I (p1.length : Int)), (decide (v5 < (p1.length : Int))) = true, (0 : Int) ≤ v5, (p1.map o3)[(Int.toNat v5)]? = some (o3 x7), (0 : Int) ≤ v5, (p2.map o3)[(Int.toNat v5)]? = some (o3 x8), (x7 != x8) = false]) (by kernel_rfl) ⟨(lenM o3), c6, (rd0 hx7), (rdM o3 hx7), (rd0 hx8), (rdM o3 hx8), c10, trivial⟩ (ih (w64 (v5 + 1)) _ h)
    · have h := Option.some.inj h
      subst h
      exact go_ret hΘ hm hP hn (hs := [⟨2, .no, some (I (p1.length : Int))⟩, ⟨4, .br false, none⟩]) (rh := []) (ph := .raw) (ps := [AV.lit (.int .i64 (((p1.map o3).length : Nat) : Int)) = (I (p1.length : Int)), (decide (v5 < (p1.length : Int))) = false, (B true) = (B true), litA (B true) = true]) (by kernel_rfl) ⟨(lenM o3), c11, rfl, rfl, trivial⟩
noncomputable def laws_eqIntS (p1 : (List Int)) (p2 : (List Int)) : Option Bool :=
  if ((p1.length : Int) != (p2.length : Int)) = true then
    some false
  else
    laws_eqIntS_l0 p1 p2 FU 0
theorem laws_eqIntS_m {p1 : (List Int)} {p2 : (List Int)} {r : Bool} (h : laws_eqIntS p1 p2 = some r) : Meets Try.prog 23 [(AV.ro 1 (p1.map o3)), (AV.ro 1 (p2.map o3))] (B r) := by
  refine meets_ofC Θ_ok Try.func23 rfl (c := body23) (by kernel_rfl) (Nat.le_of_ble_eq_true rfl) ?_
  intro E hP hn hx
  replace hn : E.n = 26 := hn
  have hm : E.P.follows .mixedOrders = true := by rw [hP]; exact mixed
  have hΘ : TOK E.P Θ := by rw [hP]; exact Θ_ok
  unfold laws_eqIntS at h
  show WAt E body23 (FQ (RetE Θ Try.f23.results.toList [] [] (B r) E)) [] ⟨[(0, (AV.ro 1 (p1.map o3))), (1, (AV.ro 1 (p2.map o3)))], [], [JJ]⟩
  rcases itS h with ⟨c3, h⟩ | ⟨c4, h⟩
  · have h := Option.some.inj h
    subst h
    exact go_ret hΘ hm hP hn (hs := [⟨2, .no, some (I (p1.length : Int))⟩, ⟨4, .no, some (I (p2.length : Int))⟩, ⟨6, .br true, none⟩]) (rh := []) (ph := .raw) (ps := [AV.lit (.int .i64 (((p1.map o3).length : Nat) : Int)) = (I (p1.length : Int)), AV.lit (.int .i64 (((p2.map o3).length : Nat) : Int)) = (I (p2.length : Int)), ((p1.length : Int) != (p2.length : Int)) = true, (B false) = (B false), litA (B false) = true]) (by kernel_rfl) ⟨(lenM o3), (lenM o3), c3, rfl, rfl, trivial⟩
  · exact go_to hΘ hm hx hP hn (hs := [⟨2, .no, some (I (p1.length : Int))⟩, ⟨4, .no, some (I (p2.length : Int))⟩, ⟨6, .br false, none⟩]) (π := []) (ts := [0, 1, 5]) (kp := []) (ps := [AV.lit (.int .i64 (((p1.map o3).length : Nat) : Int)) = (I (p1.length : Int)), AV.lit (.int .i64 (((p2.map o3).length : Nat) : Int)) = (I (p2.length : Int)), ((p1.length : Int) != (p2.length : Int)) = false]) (by kernel_rfl) ⟨(lenM o3), (lenM o3), c4, trivial⟩ (laws_eqIntS_l0_m hP hn hx p1 p2 FU 0 _ h)
noncomputable def body30 : Code := match Try.f30.body with | some c => c | none => .skip
noncomputable def laws_eqIntSS_l0  (p1 : (List (List Int))) (p2 : (List (List Int))) : Nat → Int → Option Bool
  | 0, _ => none
  | n + 1, v5 =>
  if (decide (v5 < (p1.length : Int))) = true then
    Option.bind (rd p1 v5) fun x7 =>
    Option.bind (rd p2 v5) fun x8 =>
    Option.bind (laws_eqIntS x7 x8) fun r9 =>
    if (!r9) = true then
      some false
    else
      laws_eqIntSS_l0 p1 p2 n (w64 (v5 + 1))
  else
    some true
theorem laws_eqIntSS_l0_m {E : Env} (hP : E.P = Try.prog) (hn : E.n = 27) (hx : ∀ p, p ∈ E.fx → p.1 ∈ ([] : List Nat)) (p1 : (List (List Int))) (p2 : (List (List Int)))  : ∀ (n : Nat) (v5 : Int) (r : Bool), laws_eqIntSS_l0 p1 p2 n v5 = some r → WAt E body30 (FQ (RetE Θ Try.f30.results.toList [] [] (B r) E)) [true, true, false, true, false] ⟨[(0, (AV.ro 1 (p1.map r27))), (1, (AV.ro 1 (p2.map r27))), (5, (I v5))], [], [JJ]⟩ := by
  have hm : E.P.follows .mixedOrders = true := by rw [hP]; exact mixed
  have hΘ : TOK E.P Θ := by rw [hP]; exact Θ_ok
  intro n
  induction n with
  | zero => intro v5 r h; simp only [laws_eqIntSS_l0] at h; cases h
  | succ n ih =>
    intro v5 r h
    simp only [laws_eqIntSS_l0] at h
    rcases itS h with ⟨c6, h⟩ | ⟨c12, h⟩
    · obtain ⟨x7, hx7, h⟩ := bnS h
      obtain ⟨x8, hx8, h⟩ := bnS h
      obtain ⟨r9, hr9, h⟩ := bnS h
      rcases itS h with ⟨c10, h⟩ | ⟨c11, h⟩
      · have h := Option.some.inj h
        subst h
        exact go_ret hΘ hm hP hn (hs := [⟨2, .no, some (I (p1.length : Int))⟩, ⟨4, .br true, none⟩, ⟨7, .row (r27 x7), none⟩, ⟨11, .row (r27 x8), none⟩, ⟨13, .callV [] (B r9), none⟩, ⟨15, .br true, none⟩]) (rh := []) (ph := .raw) (ps := [AV.lit (.int .i64 (((p1.map r27).length : Nat) : Int)) = (I (p1.length : Int)), (decide (v5 < (p1.length : Int))) = true, (0 : Int) ≤ v5, (p1.map r27)[(Int.toNat v5)]? = some (r27 x7), (0 : Int) ≤ v5, (p2.map r27)[(Int.toNat v5)]? = some (r27 x8), Meets Try.prog 23 [(AV.ro 1 (x7.map o3)), (AV.ro 1 (x8.map o3))] (B r9), litA (B r9) = true, (!r9) = true, (B false) = (B false), litA (B false) = true]) (by kernel_rfl) ⟨(lenM r27), c6, (rd0 hx7), (rdM r27 hx7), (rd0 hx8), (rdM r27 hx8), (laws_eqIntS_m hr9), rfl, c10, rfl, rfl, trivial⟩
      · exact go_to hΘ hm hx hP hn (hs := [⟨2, .no, some (I (p1.length : Int))⟩, ⟨4, .br true, none⟩, ⟨7, .row (r27 x7), none⟩, ⟨11, .row (r27 x8), none⟩, ⟨13, .callV [] (B r9), none⟩, ⟨15, .br false, none⟩]) (π := []) (ts := [0, 1, 5]) (kp := []) (ps := [AV.lit (.int .i64 (((p1.map r27).length : Nat) : Int)) = (I (p1.length : Int)), (decide (v5 < (p1.length : Int))) = true, (0 : Int) ≤ v5, (p1.map r27)[(Int.toNat v5)]? = some (r27 x7), (0 : Int) ≤ v5, (p2.map r27)[(Int.toNat v5)]? = some (r27 x8), Meets Try.prog 23 [(AV.ro 1 (x7.map o3)), (AV.ro 1 (x8.map o3))] (B r9), litA (B r9) = true, (!r9) = false]) (by kernel_rfl) ⟨(lenM r27), c6, (rd0 hx7), (rdM r27 hx7), (rd0 hx8), (rdM r27 hx8), (laws_eqIntS_m hr9), rfl, c11, trivial⟩ (ih (w64 (v5 + 1)) _ h)
    · have h := Option.some.inj h
      subst h
      exact go_ret hΘ hm hP hn (hs := [⟨2, .no, some (I (p1.length : Int))⟩, ⟨4, .br false, none⟩]) (rh := []) (ph := .raw) (ps := [AV.lit (.int .i64 (((p1.map r27).length : Nat) : Int)) = (I (p1.length : Int)), (decide (v5 < (p1.length : Int))) = false, (B true) = (B true), litA (B true) = true]) (by kernel_rfl) ⟨(lenM r27), c12, rfl, rfl, trivial⟩
noncomputable def laws_eqIntSS (p1 : (List (List Int))) (p2 : (List (List Int))) : Option Bool :=
  if ((p1.length : Int) != (p2.length : Int)) = true then
    some false
  else
    laws_eqIntSS_l0 p1 p2 FU 0
theorem laws_eqIntSS_m {p1 : (List (List Int))} {p2 : (List (List Int))} {r : Bool} (h : laws_eqIntSS p1 p2 = some r) : Meets Try.prog 30 [(AV.ro 1 (p1.map r27)), (AV.ro 1 (p2.map r27))] (B r) := by
  refine meets_ofC Θ_ok Try.func30 rfl (c := body30) (by kernel_rfl) (Nat.le_of_ble_eq_true rfl) ?_
  intro E hP hn hx
  replace hn : E.n = 27 := hn
  have hm : E.P.follows .mixedOrders = true := by rw [hP]; exact mixed
  have hΘ : TOK E.P Θ := by rw [hP]; exact Θ_ok
  unfold laws_eqIntSS at h
  show WAt E body30 (FQ (RetE Θ Try.f30.results.toList [] [] (B r) E)) [] ⟨[(0, (AV.ro 1 (p1.map r27))), (1, (AV.ro 1 (p2.map r27)))], [], [JJ]⟩
  rcases itS h with ⟨c3, h⟩ | ⟨c4, h⟩
  · have h := Option.some.inj h
    subst h
    exact go_ret hΘ hm hP hn (hs := [⟨2, .no, some (I (p1.length : Int))⟩, ⟨4, .no, some (I (p2.length : Int))⟩, ⟨6, .br true, none⟩]) (rh := []) (ph := .raw) (ps := [AV.lit (.int .i64 (((p1.map r27).length : Nat) : Int)) = (I (p1.length : Int)), AV.lit (.int .i64 (((p2.map r27).length : Nat) : Int)) = (I (p2.length : Int)), ((p1.length : Int) != (p2.length : Int)) = true, (B false) = (B false), litA (B false) = true]) (by kernel_rfl) ⟨(lenM r27), (lenM r27), c3, rfl, rfl, trivial⟩
  · exact go_to hΘ hm hx hP hn (hs := [⟨2, .no, some (I (p1.length : Int))⟩, ⟨4, .no, some (I (p2.length : Int))⟩, ⟨6, .br false, none⟩]) (π := []) (ts := [0, 1, 5]) (kp := []) (ps := [AV.lit (.int .i64 (((p1.map r27).length : Nat) : Int)) = (I (p1.length : Int)), AV.lit (.int .i64 (((p2.map r27).length : Nat) : Int)) = (I (p2.length : Int)), ((p1.length : Int) != (p2.length : Int)) = false]) (by kernel_rfl) ⟨(lenM r27), (lenM r27), c4, trivial⟩ (laws_eqIntSS_l0_m hP hn hx p1 p2 FU 0 _ h)
noncomputable def body81 : Code := match Try.f81.body with | some c => c | none => .skip
noncomputable def laws_sameFloat_j0  (p1 : Nat) (p2 : Nat)  : Option Bool :=
  if ((fcmp p1 0) == some .eq) = true then
    if ((fcmp p2 0) == some .eq) = true then
      some (((fcmp (fdv 4607182418800017408 p1) 0) == some .gt) == ((fcmp (fdv 4607182418800017408 p2) 0) == some .gt))
    else
      some ((fcmp p1 p2) == some .eq)
  else
    some ((fcmp p1 p2) == some .eq)
theorem laws_sameFloat_j0_m {E : Env} (hP : E.P = Try.prog) (hn : E.n = 37) (hx : ∀ p, p ∈ E.fx → p.1 ∈ ([] : List Nat)) (p1 : Nat) (p2 : Nat)   (r : Bool) (h : laws_sameFloat_j0 p1 p2  = some r) : WAt E body81 (FQ (RetE Θ Try.f81.results.toList [] [] (B r) E)) [true, false, true, true] ⟨[(0, (FK p1)), (1, (FK p2))], [], [JJ]⟩ := by
  have hm : E.P.follows .mixedOrders = true := by rw [hP]; exact mixed
  have hΘ : TOK E.P Θ := by rw [hP]; exact Θ_ok
  unfold laws_sameFloat_j0 at h
  rcases itS h with ⟨c11, h⟩ | ⟨c14, h⟩
  · rcases itS h with ⟨c12, h⟩ | ⟨c13, h⟩
    · have h := Option.some.inj h
      subst h
      exact go_ret hΘ hm hP hn (hs := [⟨1, .bin (B ((fcmp p1 0) == some .eq)), none⟩, ⟨2, .no, some (B true)⟩, ⟨4, .bin (B ((fcmp p2 0) == some .eq)), none⟩, ⟨6, .br true, none⟩, ⟨8, .bin (FK (fdv 4607182418800017408 p1)), none⟩, ⟨9, .bin (B ((fcmp (fdv 4607182418800017408 p1) 0) == some .gt)), none⟩, ⟨11, .bin (FK (fdv 4607182418800017408 p2)), none⟩, ⟨12, .bin (B ((fcmp (fdv 4607182418800017408 p2) 0) == some .gt)), none⟩]) (rh := []) (ph := .raw) (ps := [BinS Try.prog .eql 83 (FK p1) (FK 0) (B ((fcmp p1 0) == some .eq)), (B ((fcmp p1 0) == some .eq)) = (B true), BinS Try.prog .eql 83 (FK p2) (FK 0) (B ((fcmp p2 0) == some .eq)), ((fcmp p2 0) == some .eq) = true, BinS Try.prog .quo 83 (FK 4607182418800017408) (FK p1) (FK (fdv 4607182418800017408 p1)), BinS Try.prog .gtr 83 (FK (fdv 4607182418800017408 p1)) (FK 0) (B ((fcmp (fdv 4607182418800017408 p1) 0) == some .gt)), BinS Try.prog .quo 83 (FK 4607182418800017408) (FK p2) (FK (fdv 4607182418800017408 p2)), BinS Try.prog .gtr 83 (FK (fdv 4607182418800017408 p2)) (FK 0) (B ((fcmp (fdv 4607182418800017408 p2) 0) == some .gt)), (B (((fcmp (fdv 4607182418800017408 p1) 0) == some .gt) == ((fcmp (fdv 4607182418800017408 p2) 0) == some .gt))) = (B (((fcmp (fdv 4607182418800017408 p1) 0) == some .gt) == ((fcmp (fdv 4607182418800017408 p2) 0) == some .gt))), litA (B (((fcmp (fdv 4607182418800017408 p1) 0) == some .gt) == ((fcmp (fdv 4607182418800017408 p2) 0) == some .gt))) = true]) (by kernel_rfl) ⟨fEql, (litB c11), fEql, c12, fQuo, fGtr, fQuo, fGtr, rfl, rfl, trivial⟩
    · have h := Option.some.inj h
      subst h
      exact go_ret hΘ hm hP hn (hs := [⟨1, .bin (B ((fcmp p1 0) == some .eq)), none⟩, ⟨2, .no, some (B true)⟩, ⟨4, .bin (B ((fcmp p2 0) == some .eq)), none⟩, ⟨6, .br false, none⟩, ⟨9, .bin (B ((fcmp p1 p2) == some .eq)), none⟩]) (rh := []) (ph := .raw) (ps := [BinS Try.prog .eql 83 (FK p1) (FK 0) (B ((fcmp p1 0) == some .eq)), (B ((fcmp p1 0) == some .eq)) = (B true), BinS Try.prog .eql 83 (FK p2) (FK 0) (B ((fcmp p2 0) == some .eq)), ((fcmp p2 0) == some .eq) = false, BinS Try.prog .eql 83 (FK p1) (FK p2) (B ((fcmp p1 p2) == some .eq)), (B ((fcmp p1 p2) == some .eq)) = (B ((fcmp p1 p2) == some .eq)), litA (B ((fcmp p1 p2) == some .eq)) = true]) (by kernel_rfl) ⟨fEql, (litB c11), fEql, c13, fEql, rfl, rfl, trivial⟩
  · have h := Option.some.inj h
    subst h
    exact go_ret hΘ hm hP hn (hs := [⟨1, .bin (B ((fcmp p1 0) == some .eq)), none⟩, ⟨2, .no, some (B false)⟩, ⟨9, .bin (B ((fcmp p1 p2) == some .eq)), none⟩]) (rh := []) (ph := .raw) (ps := [BinS Try.prog .eql 83 (FK p1) (FK 0) (B ((fcmp p1 0) == some .eq)), (B ((fcmp p1 0) == some .eq)) = (B false), BinS Try.prog .eql 83 (FK p1) (FK p2) (B ((fcmp p1 p2) == some .eq)), (B ((fcmp p1 p2) == some .eq)) = (B ((fcmp p1 p2) == some .eq)), litA (B ((fcmp p1 p2) == some .eq)) = true]) (by kernel_rfl) ⟨fEql, (litB c14), fEql, rfl, rfl, trivial⟩
noncomputable def laws_sameFloat (p1 : Nat) (p2 : Nat) : Option Bool :=
  if ((fcmp p1 p1) != some .eq) = true then
    if ((fcmp p1 p1) != some .eq) = true then
      some ((fcmp p2 p2) != some .eq)
    else
      some false
  else
    if ((fcmp p2 p2) != some .eq) = true then
      if ((fcmp p1 p1) != some .eq) = true then
        some ((fcmp p2 p2) != some .eq)
      else
        some false
    else
      laws_sameFloat_j0 p1 p2
theorem laws_sameFloat_m {p1 : Nat} {p2 : Nat} {r : Bool} (h : laws_sameFloat p1 p2 = some r) : Meets Try.prog 81 [(FK p1), (FK p2)] (B r) := by
  refine meets_ofC Θ_ok Try.func81 rfl (c := body81) (by kernel_rfl) (Nat.le_of_ble_eq_true rfl) ?_
  intro E hP hn hx
  replace hn : E.n = 37 := hn
  have hm : E.P.follows .mixedOrders = true := by rw [hP]; exact mixed
  have hΘ : TOK E.P Θ := by rw [hP]; exact Θ_ok
  unfold laws_sameFloat at h
  show WAt E body81 (FQ (RetE Θ Try.f81.results.toList [] [] (B r) E)) [] ⟨[(0, (FK p1)), (1, (FK p2))], [], [JJ]⟩
  rcases itS h with ⟨c3, h⟩ | ⟨c6, h⟩
  · rcases itS h with ⟨c4, h⟩ | ⟨c5, h⟩
    · have h := Option.some.inj h
      subst h
      exact go_ret hΘ hm hP hn (hs := [⟨3, .bin (B ((fcmp p1 p1) != some .eq)), none⟩, ⟨4, .no, some (B true)⟩, ⟨12, .bin (B ((fcmp p1 p1) != some .eq)), none⟩, ⟨13, .no, some (B true)⟩, ⟨16, .bin (B ((fcmp p2 p2) != some .eq)), none⟩]) (rh := []) (ph := .raw) (ps := [BinS Try.prog .neq 83 (FK p1) (FK p1) (B ((fcmp p1 p1) != some .eq)), (B ((fcmp p1 p1) != some .eq)) = (B true), BinS Try.prog .neq 83 (FK p1) (FK p1) (B ((fcmp p1 p1) != some .eq)), (B ((fcmp p1 p1) != some .eq)) = (B true), BinS Try.prog .neq 83 (FK p2) (FK p2) (B ((fcmp p2 p2) != some .eq)), (B ((fcmp p2 p2) != some .eq)) = (B ((fcmp p2 p2) != some .eq)), litA (B ((fcmp p2 p2) != some .eq)) = true]) (by kernel_rfl) ⟨fNeq, (litB c3), fNeq, (litB c4), fNeq, rfl, rfl, trivial⟩
    · have h := Option.some.inj h
      subst h
      exact go_ret hΘ hm hP hn (hs := [⟨3, .bin (B ((fcmp p1 p1) != some .eq)), none⟩, ⟨4, .no, some (B true)⟩, ⟨12, .bin (B ((fcmp p1 p1) != some .eq)), none⟩, ⟨13, .no, some (B false)⟩]) (rh := []) (ph := .raw) (ps := [BinS Try.prog .neq 83 (FK p1) (FK p1) (B ((fcmp p1 p1) != some .eq)), (B ((fcmp p1 p1) != some .eq)) = (B true), BinS Try.prog .neq 83 (FK p1) (FK p1) (B ((fcmp p1 p1) != some .eq)), (B ((fcmp p1 p1) != some .eq)) = (B false), (B false) = (B false), litA (B false) = true]) (by kernel_rfl) ⟨fNeq, (litB c3), fNeq, (litB c5), rfl, rfl, trivial⟩
  · rcases itS h with ⟨c7, h⟩ | ⟨c10, h⟩
    · rcases itS h with ⟨c8, h⟩ | ⟨c9, h⟩
      · have h := Option.some.inj h
        subst h
        exact go_ret hΘ hm hP hn (hs := [⟨3, .bin (B ((fcmp p1 p1) != some .eq)), none⟩, ⟨4, .no, some (B false)⟩, ⟨7, .bin (B ((fcmp p2 p2) != some .eq)), none⟩, ⟨9, .br true, none⟩, ⟨12, .bin (B ((fcmp p1 p1) != some .eq)), none⟩, ⟨13, .no, some (B true)⟩, ⟨16, .bin (B ((fcmp p2 p2) != some .eq)), none⟩]) (rh := []) (ph := .raw) (ps := [BinS Try.prog .neq 83 (FK p1) (FK p1) (B ((fcmp p1 p1) != some .eq)), (B ((fcmp p1 p1) != some .eq)) = (B false), BinS Try.prog .neq 83 (FK p2) (FK p2) (B ((fcmp p2 p2) != some .eq)), ((fcmp p2 p2) != some .eq) = true, BinS Try.prog .neq 83 (FK p1) (FK p1) (B ((fcmp p1 p1) != some .eq)), (B ((fcmp p1 p1) != some .eq)) = (B true), BinS Try.prog .neq 83 (FK p2) (FK p2) (B ((fcmp p2 p2) != some .eq)), (B ((fcmp p2 p2) != some .eq)) = (B ((fcmp p2 p2) != some .eq)), litA (B ((fcmp p2 p2) != some .eq)) = true]) (by kernel_rfl) ⟨fNeq, (litB c6), fNeq, c7, fNeq, (litB c8), fNeq, rfl, rfl, trivial⟩
      · have h := Option.some.inj h
        subst h
        exact go_ret hΘ hm hP hn (hs := [⟨3, .bin (B ((fcmp p1 p1) != some .eq)), none⟩, ⟨4, .no, some (B false)⟩, ⟨7, .bin (B ((fcmp p2 p2) != some .eq)), none⟩, ⟨9, .br true, none⟩, ⟨12, .bin (B ((fcmp p1 p1) != some .eq)), none⟩, ⟨13, .no, some (B false)⟩]) (rh := []) (ph := .raw) (ps := [BinS Try.prog .neq 83 (FK p1) (FK p1) (B ((fcmp p1 p1) != some .eq)), (B ((fcmp p1 p1) != some .eq)) = (B false), BinS Try.prog .neq 83 (FK p2) (FK p2) (B ((fcmp p2 p2) != some .eq)), ((fcmp p2 p2) != some .eq) = true, BinS Try.prog .neq 83 (FK p1) (FK p1) (B ((fcmp p1 p1) != some .eq)), (B ((fcmp p1 p1) != some .eq)) = (B false), (B false) = (B false), litA (B false) = true]) (by kernel_rfl) ⟨fNeq, (litB c6), fNeq, c7, fNeq, (litB c9), rfl, rfl, trivial⟩
    · exact go_to hΘ hm hx hP hn (hs := [⟨3, .bin (B ((fcmp p1 p1) != some .eq)), none⟩, ⟨4, .no, some (B false)⟩, ⟨7, .bin (B ((fcmp p2 p2) != some .eq)), none⟩, ⟨9, .br false, none⟩]) (π := []) (ts := [0, 1]) (kp := []) (ps := [BinS Try.prog .neq 83 (FK p1) (FK p1) (B ((fcmp p1 p1) != some .eq)), (B ((fcmp p1 p1) != some .eq)) = (B false), BinS Try.prog .neq 83 (FK p2) (FK p2) (B ((fcmp p2 p2) != some .eq)), ((fcmp p2 p2) != some .eq) = false]) (by kernel_rfl) ⟨fNeq, (litB c6), fNeq, c10, trivial⟩ (laws_sameFloat_j0_m hP hn hx p1 p2  _ h)
noncomputable def body94 : Code := match Try.f94.body with | some c => c | none => .skip
noncomputable def laws_eqOp (p1 : GOp) (p2 : GOp) : Option Bool :=
  if (p1.Code != p2.Code) = true then
    some false
  else
    if (p1.A != p2.A) = true then
      some false
    else
      if (p1.B != p2.B) = true then
        some false
      else
        Option.bind (laws_sameFloat p1.V p2.V) fun r9 =>
        if (!r9) = true then
          some false
        else
          some true
theorem laws_eqOp_m {p1 : GOp} {p2 : GOp} {r : Bool} (h : laws_eqOp p1 p2 = some r) : Meets Try.prog 94 [(AV.agg ((o85 p1))), (AV.agg ((o85 p2)))] (B r) := by
  refine meets_ofC Θ_ok Try.func94 rfl (c := body94) (by kernel_rfl) (Nat.le_of_ble_eq_true rfl) ?_
  intro E hP hn hx
  replace hn : E.n = 26 := hn
  have hm : E.P.follows .mixedOrders = true := by rw [hP]; exact mixed
  have hΘ : TOK E.P Θ := by rw [hP]; exact Θ_ok
  unfold laws_eqOp at h
  show WAt E body94 (FQ (RetE Θ Try.f94.results.toList [] [] (B r) E)) [] ⟨[(0, (AV.agg ((o85 p1)))), (1, (AV.agg ((o85 p2))))], [], [JJ]⟩
  rcases itS h with ⟨c3, h⟩ | ⟨c4, h⟩
  · have h := Option.some.inj h
    subst h
    exact go_ret hΘ hm hP hn (hs := [⟨0, .new 1001, none⟩, ⟨1, .new 1002, none⟩, ⟨8, .br true, none⟩]) (rh := []) (ph := .raw) (ps := [(p1.Code != p2.Code) = true, (B false) = (B false), litA (B false) = true]) (by kernel_rfl) ⟨c3, rfl, rfl, trivial⟩
  · rcases itS h with ⟨c5, h⟩ | ⟨c6, h⟩
    · have h := Option.some.inj h
      subst h
      exact go_ret hΘ hm hP hn (hs := [⟨0, .new 1001, none⟩, ⟨1, .new 1002, none⟩, ⟨8, .br false, none⟩, ⟨14, .br true, none⟩]) (rh := []) (ph := .raw) (ps := [(p1.Code != p2.Code) = false, (p1.A != p2.A) = true, (B false) = (B false), litA (B false) = true]) (by kernel_rfl) ⟨c4, c5, rfl, rfl, trivial⟩
    · rcases itS h with ⟨c7, h⟩ | ⟨c8, h⟩
      · have h := Option.some.inj h
        subst h
        exact go_ret hΘ hm hP hn (hs := [⟨0, .new 1001, none⟩, ⟨1, .new 1002, none⟩, ⟨8, .br false, none⟩, ⟨14, .br false, none⟩, ⟨20, .br true, none⟩]) (rh := []) (ph := .raw) (ps := [(p1.Code != p2.Code) = false, (p1.A != p2.A) = false, (p1.B != p2.B) = true, (B false) = (B false), litA (B false) = true]) (by kernel_rfl) ⟨c4, c6, c7, rfl, rfl, trivial⟩
      · obtain ⟨r9, hr9, h⟩ := bnS h
        rcases itS h with ⟨c10, h⟩ | ⟨c11, h⟩
        · have h := Option.some.inj h
          subst h
          exact go_ret hΘ hm hP hn (hs := [⟨0, .new 1001, none⟩, ⟨1, .new 1002, none⟩, ⟨8, .br false, none⟩, ⟨14, .br false, none⟩, ⟨20, .br false, none⟩, ⟨25, .callV [] (B r9), none⟩, ⟨27, .br true, none⟩]) (rh := []) (ph := .raw) (ps := [(p1.Code != p2.Code) = false, (p1.A != p2.A) = false, (p1.B != p2.B) = false, Meets Try.prog 81 [(FK p1.V), (FK p2.V)] (B r9), litA (B r9) = true, (!r9) = true, (B false) = (B false), litA (B false) = true]) (by kernel_rfl) ⟨c4, c6, c8, (laws_sameFloat_m hr9), rfl, c10, rfl, rfl, trivial⟩
        · have h := Option.some.inj h
          subst h
          exact go_ret hΘ hm hP hn (hs := [⟨0, .new 1001, none⟩, ⟨1, .new 1002, none⟩, ⟨8, .br false, none⟩, ⟨14, .br false, none⟩, ⟨20, .br false, none⟩, ⟨25, .callV [] (B r9), none⟩, ⟨27, .br false, none⟩]) (rh := []) (ph := .raw) (ps := [(p1.Code != p2.Code) = false, (p1.A != p2.A) = false, (p1.B != p2.B) = false, Meets Try.prog 81 [(FK p1.V), (FK p2.V)] (B r9), litA (B r9) = true, (!r9) = false, (B true) = (B true), litA (B true) = true]) (by kernel_rfl) ⟨c4, c6, c8, (laws_sameFloat_m hr9), rfl, c11, rfl, rfl, trivial⟩
noncomputable def body79 : Code := match Try.f79.body with | some c => c | none => .skip
noncomputable def laws_eqOpS_l0  (p1 : (List GOp)) (p2 : (List GOp)) : Nat → Int → Option Bool
  | 0, _ => none
  | n + 1, v5 =>
  if (decide (v5 < (p1.length : Int))) = true then
    Option.bind (rd p1 v5) fun x7 =>
    Option.bind (rd p2 v5) fun x8 =>
    Option.bind (laws_eqOp x7 x8) fun r9 =>
    if (!r9) = true then
      some false
    else
      laws_eqOpS_l0 p1 p2 n (w64 (v5 + 1))
  else
    some true
theorem laws_eqOpS_l0_m {E : Env} (hP : E.P = Try.prog) (hn : E.n = 27) (hx : ∀ p, p ∈ E.fx → p.1 ∈ ([] : List Nat)) (p1 : (List GOp)) (p2 : (List GOp))  : ∀ (n : Nat) (v5 : Int) (r : Bool), laws_eqOpS_l0 p1 p2 n v5 = some r → WAt E body79 (FQ (RetE Θ Try.f79.results.toList [] [] (B r) E)) [true, true, false, true, false] ⟨[(0, (AV.ro 4 (p1.map o85))), (1, (AV.ro 4 (p2.map o85))), (5, (I v5))], [], [JJ]⟩ := by
  have hm : E.P.follows .mixedOrders = true := by rw [hP]; exact mixed
  have hΘ : TOK E.P Θ := by rw [hP]; exact Θ_ok
  intro n
  induction n with
  | zero => intro v5 r h; simp only [laws_eqOpS_l0] at h; cases h
  | succ n ih =>
    intro v5 r h
    simp only [laws_eqOpS_l0] at h
    rcases itS h with ⟨c6, h⟩ | ⟨c12, h⟩
    · obtain ⟨x7, hx7, h⟩ := bnS h
      obtain ⟨x8, hx8, h⟩ := bnS h
      obtain ⟨r9, hr9, h⟩ := bnS h
      rcases itS h with ⟨c10, h⟩ | ⟨c11, h⟩
      · have h := Option.some.inj h
        subst h
        exact go_ret hΘ hm hP hn (hs := [⟨2, .no, some (I (p1.length : Int))⟩, ⟨4, .br true, none⟩, ⟨7, .row (o85 x7), none⟩, ⟨11, .row (o85 x8), none⟩, ⟨13, .callV [[], []] (B r9), none⟩, ⟨15, .br true, none⟩]) (rh := []) (ph := .raw) (ps := [AV.lit (.int .i64 (((p1.map o85).length : Nat) : Int)) = (I (p1.length : Int)), (decide (v5 < (p1.length : Int))) = true, (0 : Int) ≤ v5, (p1.map o85)[(Int.toNat v5)]? = some (o85 x7), (0 : Int) ≤ v5, (p2.map o85)[(Int.toNat v5)]? = some (o85 x8), Meets Try.prog 94 [(AV.agg ((o85 x7))), (AV.agg ((o85 x8)))] (B r9), litA (B r9) = true, (!r9) = true, (B false) = (B false), litA (B false) = true]) (by kernel_rfl) ⟨(lenM o85), c6, (rd0 hx7), (rdM o85 hx7), (rd0 hx8), (rdM o85 hx8), (laws_eqOp_m hr9), rfl, c10, rfl, rfl, trivial⟩
      · exact go_to hΘ hm hx hP hn (hs := [⟨2, .no, some (I (p1.length : Int))⟩, ⟨4, .br true, none⟩, ⟨7, .row (o85 x7), none⟩, ⟨11, .row (o85 x8), none⟩, ⟨13, .callV [[], []] (B r9), none⟩, ⟨15, .br false, none⟩]) (π := []) (ts := [0, 1, 5]) (kp := []) (ps := [AV.lit (.int .i64 (((p1.map o85).length : Nat) : Int)) = (I (p1.length : Int)), (decide (v5 < (p1.length : Int))) = true, (0 : Int) ≤ v5, (p1.map o85)[(Int.toNat v5)]? = some (o85 x7), (0 : Int) ≤ v5, (p2.map o85)[(Int.toNat v5)]? = some (o85 x8), Meets Try.prog 94 [(AV.agg ((o85 x7))), (AV.agg ((o85 x8)))] (B r9), litA (B r9) = true, (!r9) = false]) (by kernel_rfl) ⟨(lenM o85), c6, (rd0 hx7), (rdM o85 hx7), (rd0 hx8), (rdM o85 hx8), (laws_eqOp_m hr9), rfl, c11, trivial⟩ (ih (w64 (v5 + 1)) _ h)
    · have h := Option.some.inj h
      subst h
      exact go_ret hΘ hm hP hn (hs := [⟨2, .no, some (I (p1.length : Int))⟩, ⟨4, .br false, none⟩]) (rh := []) (ph := .raw) (ps := [AV.lit (.int .i64 (((p1.map o85).length : Nat) : Int)) = (I (p1.length : Int)), (decide (v5 < (p1.length : Int))) = false, (B true) = (B true), litA (B true) = true]) (by kernel_rfl) ⟨(lenM o85), c12, rfl, rfl, trivial⟩
noncomputable def laws_eqOpS (p1 : (List GOp)) (p2 : (List GOp)) : Option Bool :=
  if ((p1.length : Int) != (p2.length : Int)) = true then
    some false
  else
    laws_eqOpS_l0 p1 p2 FU 0
theorem laws_eqOpS_m {p1 : (List GOp)} {p2 : (List GOp)} {r : Bool} (h : laws_eqOpS p1 p2 = some r) : Meets Try.prog 79 [(AV.ro 4 (p1.map o85)), (AV.ro 4 (p2.map o85))] (B r) := by
  refine meets_ofC Θ_ok Try.func79 rfl (c := body79) (by kernel_rfl) (Nat.le_of_ble_eq_true rfl) ?_
  intro E hP hn hx
  replace hn : E.n = 27 := hn
  have hm : E.P.follows .mixedOrders = true := by rw [hP]; exact mixed
  have hΘ : TOK E.P Θ := by rw [hP]; exact Θ_ok
  unfold laws_eqOpS at h
  show WAt E body79 (FQ (RetE Θ Try.f79.results.toList [] [] (B r) E)) [] ⟨[(0, (AV.ro 4 (p1.map o85))), (1, (AV.ro 4 (p2.map o85)))], [], [JJ]⟩
  rcases itS h with ⟨c3, h⟩ | ⟨c4, h⟩
  · have h := Option.some.inj h
    subst h
    exact go_ret hΘ hm hP hn (hs := [⟨2, .no, some (I (p1.length : Int))⟩, ⟨4, .no, some (I (p2.length : Int))⟩, ⟨6, .br true, none⟩]) (rh := []) (ph := .raw) (ps := [AV.lit (.int .i64 (((p1.map o85).length : Nat) : Int)) = (I (p1.length : Int)), AV.lit (.int .i64 (((p2.map o85).length : Nat) : Int)) = (I (p2.length : Int)), ((p1.length : Int) != (p2.length : Int)) = true, (B false) = (B false), litA (B false) = true]) (by kernel_rfl) ⟨(lenM o85), (lenM o85), c3, rfl, rfl, trivial⟩
  · exact go_to hΘ hm hx hP hn (hs := [⟨2, .no, some (I (p1.length : Int))⟩, ⟨4, .no, some (I (p2.length : Int))⟩, ⟨6, .br false, none⟩]) (π := []) (ts := [0, 1, 5]) (kp := []) (ps := [AV.lit (.int .i64 (((p1.map o85).length : Nat) : Int)) = (I (p1.length : Int)), AV.lit (.int .i64 (((p2.map o85).length : Nat) : Int)) = (I (p2.length : Int)), ((p1.length : Int) != (p2.length : Int)) = false]) (by kernel_rfl) ⟨(lenM o85), (lenM o85), c4, trivial⟩ (laws_eqOpS_l0_m hP hn hx p1 p2 FU 0 _ h)
noncomputable def body50 : Code := match Try.f50.body with | some c => c | none => .skip
noncomputable def laws_eqOpSS_l0  (p1 : (List (List GOp))) (p2 : (List (List GOp))) : Nat → Int → Option Bool
  | 0, _ => none
  | n + 1, v5 =>
  if (decide (v5 < (p1.length : Int))) = true then
    Option.bind (rd p1 v5) fun x7 =>
    Option.bind (rd p2 v5) fun x8 =>
    Option.bind (laws_eqOpS x7 x8) fun r9 =>
    if (!r9) = true then
      some false
    else
      laws_eqOpSS_l0 p1 p2 n (w64 (v5 + 1))
  else
    some true
theorem laws_eqOpSS_l0_m {E : Env} (hP : E.P = Try.prog) (hn : E.n = 27) (hx : ∀ p, p ∈ E.fx → p.1 ∈ ([] : List Nat)) (p1 : (List (List GOp))) (p2 : (List (List GOp)))  : ∀ (n : Nat) (v5 : Int) (r : Bool), laws_eqOpSS_l0 p1 p2 n v5 = some r → WAt E body50 (FQ (RetE Θ Try.f50.results.toList [] [] (B r) E)) [true, true, false, true, false] ⟨[(0, (AV.ro 1 (p1.map r82))), (1, (AV.ro 1 (p2.map r82))), (5, (I v5))], [], [JJ]⟩ := by
  have hm : E.P.follows .mixedOrders = true := by rw [hP]; exact mixed
  have hΘ : TOK E.P Θ := by rw [hP]; exact Θ_ok
  intro n
  induction n with
  | zero => intro v5 r h; simp only [laws_eqOpSS_l0] at h; cases h
  | succ n ih =>
    intro v5 r h
    simp only [laws_eqOpSS_l0] at h
    rcases itS h with ⟨c6, h⟩ | ⟨c12, h⟩
    · obtain ⟨x7, hx7, h⟩ := bnS h
      obtain ⟨x8, hx8, h⟩ := bnS h
      obtain ⟨r9, hr9, h⟩ := bnS h
      rcases itS h with ⟨c10, h⟩ | ⟨c11, h⟩
      · have h := Option.some.inj h
        subst h
        exact go_ret hΘ hm hP hn (hs := [⟨2, .no, some (I (p1.length : Int))⟩, ⟨4, .br true, none⟩, ⟨7, .row (r82 x7), none⟩, ⟨11, .row (r82 x8), none⟩, ⟨13, .callV [] (B r9), none⟩, ⟨15, .br true, none⟩]) (rh := []) (ph := .raw) (ps := [AV.lit (.int .i64 (((p1.map r82).length : Nat) : Int)) = (I (p1.length : Int)), (decide (v5 < (p1.length : Int))) = true, (0 : Int) ≤ v5, (p1.map r82)[(Int.toNat v5)]? = some (r82 x7), (0 : Int) ≤ v5, (p2.map r82)[(Int.toNat v5)]? = some (r82 x8), Meets Try.prog 79 [(AV.ro 4 (x7.map o85)), (AV.ro 4 (x8.map o85))] (B r9), litA (B r9) = true, (!r9) = true, (B false) = (B false), litA (B false) = true]) (by kernel_rfl) ⟨(lenM r82), c6, (rd0 hx7), (rdM r82 hx7), (rd0 hx8), (rdM r82 hx8), (laws_eqOpS_m hr9), rfl, c10, rfl, rfl, trivial⟩
      · exact go_to hΘ hm hx hP hn (hs := [⟨2, .no, some (I (p1.length : Int))⟩, ⟨4, .br true, none⟩, ⟨7, .row (r82 x7), none⟩, ⟨11, .row (r82 x8), none⟩, ⟨13, .callV [] (B r9), none⟩, ⟨15, .br false, none⟩]) (π := []) (ts := [0, 1, 5]) (kp := []) (ps := [AV.lit (.int .i64 (((p1.map r82).length : Nat) : Int)) = (I (p1.length : Int)), (decide (v5 < (p1.length : Int))) = true, (0 : Int) ≤ v5, (p1.map r82)[(Int.toNat v5)]? = some (r82 x7), (0 : Int) ≤ v5, (p2.map r82)[(Int.toNat v5)]? = some (r82 x8), Meets Try.prog 79 [(AV.ro 4 (x7.map o85)), (AV.ro 4 (x8.map o85))] (B r9), litA (B r9) = true, (!r9) = false]) (by kernel_rfl) ⟨(lenM r82), c6, (rd0 hx7), (rdM r82 hx7), (rd0 hx8), (rdM r82 hx8), (laws_eqOpS_m hr9), rfl, c11, trivial⟩ (ih (w64 (v5 + 1)) _ h)
    · have h := Option.some.inj h
      subst h
      exact go_ret hΘ hm hP hn (hs := [⟨2, .no, some (I (p1.length : Int))⟩, ⟨4, .br false, none⟩]) (rh := []) (ph := .raw) (ps := [AV.lit (.int .i64 (((p1.map r82).length : Nat) : Int)) = (I (p1.length : Int)), (decide (v5 < (p1.length : Int))) = false, (B true) = (B true), litA (B true) = true]) (by kernel_rfl) ⟨(lenM r82), c12, rfl, rfl, trivial⟩
noncomputable def laws_eqOpSS (p1 : (List (List GOp))) (p2 : (List (List GOp))) : Option Bool :=
  if ((p1.length : Int) != (p2.length : Int)) = true then
    some false
  else
    laws_eqOpSS_l0 p1 p2 FU 0
theorem laws_eqOpSS_m {p1 : (List (List GOp))} {p2 : (List (List GOp))} {r : Bool} (h : laws_eqOpSS p1 p2 = some r) : Meets Try.prog 50 [(AV.ro 1 (p1.map r82)), (AV.ro 1 (p2.map r82))] (B r) := by
  refine meets_ofC Θ_ok Try.func50 rfl (c := body50) (by kernel_rfl) (Nat.le_of_ble_eq_true rfl) ?_
  intro E hP hn hx
  replace hn : E.n = 27 := hn
  have hm : E.P.follows .mixedOrders = true := by rw [hP]; exact mixed
  have hΘ : TOK E.P Θ := by rw [hP]; exact Θ_ok
  unfold laws_eqOpSS at h
  show WAt E body50 (FQ (RetE Θ Try.f50.results.toList [] [] (B r) E)) [] ⟨[(0, (AV.ro 1 (p1.map r82))), (1, (AV.ro 1 (p2.map r82)))], [], [JJ]⟩
  rcases itS h with ⟨c3, h⟩ | ⟨c4, h⟩
  · have h := Option.some.inj h
    subst h
    exact go_ret hΘ hm hP hn (hs := [⟨2, .no, some (I (p1.length : Int))⟩, ⟨4, .no, some (I (p2.length : Int))⟩, ⟨6, .br true, none⟩]) (rh := []) (ph := .raw) (ps := [AV.lit (.int .i64 (((p1.map r82).length : Nat) : Int)) = (I (p1.length : Int)), AV.lit (.int .i64 (((p2.map r82).length : Nat) : Int)) = (I (p2.length : Int)), ((p1.length : Int) != (p2.length : Int)) = true, (B false) = (B false), litA (B false) = true]) (by kernel_rfl) ⟨(lenM r82), (lenM r82), c3, rfl, rfl, trivial⟩
  · exact go_to hΘ hm hx hP hn (hs := [⟨2, .no, some (I (p1.length : Int))⟩, ⟨4, .no, some (I (p2.length : Int))⟩, ⟨6, .br false, none⟩]) (π := []) (ts := [0, 1, 5]) (kp := []) (ps := [AV.lit (.int .i64 (((p1.map r82).length : Nat) : Int)) = (I (p1.length : Int)), AV.lit (.int .i64 (((p2.map r82).length : Nat) : Int)) = (I (p2.length : Int)), ((p1.length : Int) != (p2.length : Int)) = false]) (by kernel_rfl) ⟨(lenM r82), (lenM r82), c4, trivial⟩ (laws_eqOpSS_l0_m hP hn hx p1 p2 FU 0 _ h)
noncomputable def body14 : Code := match Try.f14.body with | some c => c | none => .skip
noncomputable def laws_eqProg (p1 : GProg) (p2 : GProg) : Option Bool :=
  if (p1.Cells != p2.Cells) = true then
    some false
  else
    if (p1.Locks != p2.Locks) = true then
      some false
    else
      if (p1.Conds != p2.Conds) = true then
        some false
      else
        Option.bind (laws_eqOpSS p1.Routines p2.Routines) fun r9 =>
        if (!r9) = true then
          some false
        else
          some true
theorem laws_eqProg_m {p1 : GProg} {p2 : GProg} {r : Bool} (h : laws_eqProg p1 p2 = some r) : Meets Try.prog 14 [(AV.agg ((r35 p1))), (AV.agg ((r35 p2)))] (B r) := by
  refine meets_ofC Θ_ok Try.func14 rfl (c := body14) (by kernel_rfl) (Nat.le_of_ble_eq_true rfl) ?_
  intro E hP hn hx
  replace hn : E.n = 26 := hn
  have hm : E.P.follows .mixedOrders = true := by rw [hP]; exact mixed
  have hΘ : TOK E.P Θ := by rw [hP]; exact Θ_ok
  unfold laws_eqProg at h
  show WAt E body14 (FQ (RetE Θ Try.f14.results.toList [] [] (B r) E)) [] ⟨[(0, (AV.agg ((r35 p1)))), (1, (AV.agg ((r35 p2))))], [], [JJ]⟩
  rcases itS h with ⟨c3, h⟩ | ⟨c4, h⟩
  · have h := Option.some.inj h
    subst h
    exact go_ret hΘ hm hP hn (hs := [⟨0, .new 1001, none⟩, ⟨1, .new 1002, none⟩, ⟨8, .br true, none⟩]) (rh := []) (ph := .raw) (ps := [(p1.Cells != p2.Cells) = true, (B false) = (B false), litA (B false) = true]) (by kernel_rfl) ⟨c3, rfl, rfl, trivial⟩
  · rcases itS h with ⟨c5, h⟩ | ⟨c6, h⟩
    · have h := Option.some.inj h
      subst h
      exact go_ret hΘ hm hP hn (hs := [⟨0, .new 1001, none⟩, ⟨1, .new 1002, none⟩, ⟨8, .br false, none⟩, ⟨14, .br true, none⟩]) (rh := []) (ph := .raw) (ps := [(p1.Cells != p2.Cells) = false, (p1.Locks != p2.Locks) = true, (B false) = (B false), litA (B false) = true]) (by kernel_rfl) ⟨c4, c5, rfl, rfl, trivial⟩
    · rcases itS h with ⟨c7, h⟩ | ⟨c8, h⟩
      · have h := Option.some.inj h
        subst h
        exact go_ret hΘ hm hP hn (hs := [⟨0, .new 1001, none⟩, ⟨1, .new 1002, none⟩, ⟨8, .br false, none⟩, ⟨14, .br false, none⟩, ⟨20, .br true, none⟩]) (rh := []) (ph := .raw) (ps := [(p1.Cells != p2.Cells) = false, (p1.Locks != p2.Locks) = false, (p1.Conds != p2.Conds) = true, (B false) = (B false), litA (B false) = true]) (by kernel_rfl) ⟨c4, c6, c7, rfl, rfl, trivial⟩
      · obtain ⟨r9, hr9, h⟩ := bnS h
        rcases itS h with ⟨c10, h⟩ | ⟨c11, h⟩
        · have h := Option.some.inj h
          subst h
          exact go_ret hΘ hm hP hn (hs := [⟨0, .new 1001, none⟩, ⟨1, .new 1002, none⟩, ⟨8, .br false, none⟩, ⟨14, .br false, none⟩, ⟨20, .br false, none⟩, ⟨25, .callV [] (B r9), none⟩, ⟨27, .br true, none⟩]) (rh := []) (ph := .raw) (ps := [(p1.Cells != p2.Cells) = false, (p1.Locks != p2.Locks) = false, (p1.Conds != p2.Conds) = false, Meets Try.prog 50 [(AV.ro 1 (p1.Routines.map r82)), (AV.ro 1 (p2.Routines.map r82))] (B r9), litA (B r9) = true, (!r9) = true, (B false) = (B false), litA (B false) = true]) (by kernel_rfl) ⟨c4, c6, c8, (laws_eqOpSS_m hr9), rfl, c10, rfl, rfl, trivial⟩
        · have h := Option.some.inj h
          subst h
          exact go_ret hΘ hm hP hn (hs := [⟨0, .new 1001, none⟩, ⟨1, .new 1002, none⟩, ⟨8, .br false, none⟩, ⟨14, .br false, none⟩, ⟨20, .br false, none⟩, ⟨25, .callV [] (B r9), none⟩, ⟨27, .br false, none⟩]) (rh := []) (ph := .raw) (ps := [(p1.Cells != p2.Cells) = false, (p1.Locks != p2.Locks) = false, (p1.Conds != p2.Conds) = false, Meets Try.prog 50 [(AV.ro 1 (p1.Routines.map r82)), (AV.ro 1 (p2.Routines.map r82))] (B r9), litA (B r9) = true, (!r9) = false, (B true) = (B true), litA (B true) = true]) (by kernel_rfl) ⟨c4, c6, c8, (laws_eqOpSS_m hr9), rfl, c11, rfl, rfl, trivial⟩
noncomputable def body52 : Code := match Try.f52.body with | some c => c | none => .skip
noncomputable def laws_eqFloat64S_l0  (p1 : (List Nat)) (p2 : (List Nat)) : Nat → Int → Option Bool
  | 0, _ => none
  | n + 1, v5 =>
  if (decide (v5 < (p1.length : Int))) = true then
    Option.bind (rd p1 v5) fun x7 =>
    Option.bind (rd p2 v5) fun x8 =>
    Option.bind (laws_sameFloat x7 x8) fun r9 =>
    if (!r9) = true then
      some false
    else
      laws_eqFloat64S_l0 p1 p2 n (w64 (v5 + 1))
  else
    some true
theorem laws_eqFloat64S_l0_m {E : Env} (hP : E.P = Try.prog) (hn : E.n = 27) (hx : ∀ p, p ∈ E.fx → p.1 ∈ ([] : List Nat)) (p1 : (List Nat)) (p2 : (List Nat))  : ∀ (n : Nat) (v5 : Int) (r : Bool), laws_eqFloat64S_l0 p1 p2 n v5 = some r → WAt E body52 (FQ (RetE Θ Try.f52.results.toList [] [] (B r) E)) [true, true, false, true, false] ⟨[(0, (AV.ro 1 (p1.map o83))), (1, (AV.ro 1 (p2.map o83))), (5, (I v5))], [], [JJ]⟩ := by
  have hm : E.P.follows .mixedOrders = true := by rw [hP]; exact mixed
  have hΘ : TOK E.P Θ := by rw [hP]; exact Θ_ok
  intro n
  induction n with
  | zero => intro v5 r h; simp only [laws_eqFloat64S_l0] at h; cases h
  | succ n ih =>
    intro v5 r h
    simp only [laws_eqFloat64S_l0] at h
    rcases itS h with ⟨c6, h⟩ | ⟨c12, h⟩
    · obtain ⟨x7, hx7, h⟩ := bnS h
      obtain ⟨x8, hx8, h⟩ := bnS h
      obtain ⟨r9, hr9, h⟩ := bnS h
      rcases itS h with ⟨c10, h⟩ | ⟨c11, h⟩
      · have h := Option.some.inj h
        subst h
        exact go_ret hΘ hm hP hn (hs := [⟨2, .no, some (I (p1.length : Int))⟩, ⟨4, .br true, none⟩, ⟨7, .row (o83 x7), none⟩, ⟨11, .row (o83 x8), none⟩, ⟨13, .callV [] (B r9), none⟩, ⟨15, .br true, none⟩]) (rh := []) (ph := .raw) (ps := [AV.lit (.int .i64 (((p1.map o83).length : Nat) : Int)) = (I (p1.length : Int)), (decide (v5 < (p1.length : Int))) = true, (0 : Int) ≤ v5, (p1.map o83)[(Int.toNat v5)]? = some (o83 x7), (0 : Int) ≤ v5, (p2.map o83)[(Int.toNat v5)]? = some (o83 x8), Meets Try.prog 81 [(FK x7), (FK x8)] (B r9), litA (B r9) = true, (!r9) = true, (B false) = (B false), litA (B false) = true]) (by kernel_rfl) ⟨(lenM o83), c6, (rd0 hx7), (rdM o83 hx7), (rd0 hx8), (rdM o83 hx8), (laws_sameFloat_m hr9), rfl, c10, rfl, rfl, trivial⟩
      · exact go_to hΘ hm hx hP hn (hs := [⟨2, .no, some (I (p1.length : Int))⟩, ⟨4, .br true, none⟩, ⟨7, .row (o83 x7), none⟩, ⟨11, .row (o83 x8), none⟩, ⟨13, .callV [] (B r9), none⟩, ⟨15, .br false, none⟩]) (π := []) (ts := [0, 1, 5]) (kp := []) (ps := [AV.lit (.int .i64 (((p1.map o83).length : Nat) : Int)) = (I (p1.length : Int)), (decide (v5 < (p1.length : Int))) = true, (0 : Int) ≤ v5, (p1.map o83)[(Int.toNat v5)]? = some (o83 x7), (0 : Int) ≤ v5, (p2.map o83)[(Int.toNat v5)]? = some (o83 x8), Meets Try.prog 81 [(FK x7), (FK x8)] (B r9), litA (B r9) = true, (!r9) = false]) (by kernel_rfl) ⟨(lenM o83), c6, (rd0 hx7), (rdM o83 hx7), (rd0 hx8), (rdM o83 hx8), (laws_sameFloat_m hr9), rfl, c11, trivial⟩ (ih (w64 (v5 + 1)) _ h)
    · have h := Option.some.inj h
      subst h
      exact go_ret hΘ hm hP hn (hs := [⟨2, .no, some (I (p1.length : Int))⟩, ⟨4, .br false, none⟩]) (rh := []) (ph := .raw) (ps := [AV.lit (.int .i64 (((p1.map o83).length : Nat) : Int)) = (I (p1.length : Int)), (decide (v5 < (p1.length : Int))) = false, (B true) = (B true), litA (B true) = true]) (by kernel_rfl) ⟨(lenM o83), c12, rfl, rfl, trivial⟩
noncomputable def laws_eqFloat64S (p1 : (List Nat)) (p2 : (List Nat)) : Option Bool :=
  if ((p1.length : Int) != (p2.length : Int)) = true then
    some false
  else
    laws_eqFloat64S_l0 p1 p2 FU 0
theorem laws_eqFloat64S_m {p1 : (List Nat)} {p2 : (List Nat)} {r : Bool} (h : laws_eqFloat64S p1 p2 = some r) : Meets Try.prog 52 [(AV.ro 1 (p1.map o83)), (AV.ro 1 (p2.map o83))] (B r) := by
  refine meets_ofC Θ_ok Try.func52 rfl (c := body52) (by kernel_rfl) (Nat.le_of_ble_eq_true rfl) ?_
  intro E hP hn hx
  replace hn : E.n = 27 := hn
  have hm : E.P.follows .mixedOrders = true := by rw [hP]; exact mixed
  have hΘ : TOK E.P Θ := by rw [hP]; exact Θ_ok
  unfold laws_eqFloat64S at h
  show WAt E body52 (FQ (RetE Θ Try.f52.results.toList [] [] (B r) E)) [] ⟨[(0, (AV.ro 1 (p1.map o83))), (1, (AV.ro 1 (p2.map o83)))], [], [JJ]⟩
  rcases itS h with ⟨c3, h⟩ | ⟨c4, h⟩
  · have h := Option.some.inj h
    subst h
    exact go_ret hΘ hm hP hn (hs := [⟨2, .no, some (I (p1.length : Int))⟩, ⟨4, .no, some (I (p2.length : Int))⟩, ⟨6, .br true, none⟩]) (rh := []) (ph := .raw) (ps := [AV.lit (.int .i64 (((p1.map o83).length : Nat) : Int)) = (I (p1.length : Int)), AV.lit (.int .i64 (((p2.map o83).length : Nat) : Int)) = (I (p2.length : Int)), ((p1.length : Int) != (p2.length : Int)) = true, (B false) = (B false), litA (B false) = true]) (by kernel_rfl) ⟨(lenM o83), (lenM o83), c3, rfl, rfl, trivial⟩
  · exact go_to hΘ hm hx hP hn (hs := [⟨2, .no, some (I (p1.length : Int))⟩, ⟨4, .no, some (I (p2.length : Int))⟩, ⟨6, .br false, none⟩]) (π := []) (ts := [0, 1, 5]) (kp := []) (ps := [AV.lit (.int .i64 (((p1.map o83).length : Nat) : Int)) = (I (p1.length : Int)), AV.lit (.int .i64 (((p2.map o83).length : Nat) : Int)) = (I (p2.length : Int)), ((p1.length : Int) != (p2.length : Int)) = false]) (by kernel_rfl) ⟨(lenM o83), (lenM o83), c4, trivial⟩ (laws_eqFloat64S_l0_m hP hn hx p1 p2 FU 0 _ h)
noncomputable def body80 : Code := match Try.f80.body with | some c => c | none => .skip
noncomputable def laws_eqThread (p1 : GThread) (p2 : GThread) : Option Bool :=
  if (p1.Routine != p2.Routine) = true then
    some false
  else
    if (p1.Pc != p2.Pc) = true then
      some false
    else
      if (p1.State != p2.State) = true then
        some false
      else
        if (p1.Cond != p2.Cond) = true then
          some false
        else
          if (p1.Lock != p2.Lock) = true then
            some false
          else
            Option.bind (laws_eqFloat64S p1.Stack p2.Stack) fun r13 =>
            if (!r13) = true then
              some false
            else
              some true
theorem laws_eqThread_m {p1 : GThread} {p2 : GThread} {r : Bool} (h : laws_eqThread p1 p2 = some r) : Meets Try.prog 80 [(AV.agg ((r70 p1))), (AV.agg ((r70 p2)))] (B r) := by
  refine meets_ofC Θ_ok Try.func80 rfl (c := body80) (by kernel_rfl) (Nat.le_of_ble_eq_true rfl) ?_
  intro E hP hn hx
  replace hn : E.n = 36 := hn
  have hm : E.P.follows .mixedOrders = true := by rw [hP]; exact mixed
  have hΘ : TOK E.P Θ := by rw [hP]; exact Θ_ok
  unfold laws_eqThread at h
  show WAt E body80 (FQ (RetE Θ Try.f80.results.toList [] [] (B r) E)) [] ⟨[(0, (AV.agg ((r70 p1)))), (1, (AV.agg ((r70 p2))))], [], [JJ]⟩
  rcases itS h with ⟨c3, h⟩ | ⟨c4, h⟩
  · have h := Option.some.inj h
    subst h
    exact go_ret hΘ hm hP hn (hs := [⟨0, .new 1001, none⟩, ⟨1, .new 1002, none⟩, ⟨8, .br true, none⟩]) (rh := []) (ph := .raw) (ps := [(p1.Routine != p2.Routine) = true, (B false) = (B false), litA (B false) = true]) (by kernel_rfl) ⟨c3, rfl, rfl, trivial⟩
  · rcases itS h with ⟨c5, h⟩ | ⟨c6, h⟩
    · have h := Option.some.inj h
      subst h
      exact go_ret hΘ hm hP hn (hs := [⟨0, .new 1001, none⟩, ⟨1, .new 1002, none⟩, ⟨8, .br false, none⟩, ⟨14, .br true, none⟩]) (rh := []) (ph := .raw) (ps := [(p1.Routine != p2.Routine) = false, (p1.Pc != p2.Pc) = true, (B false) = (B false), litA (B false) = true]) (by kernel_rfl) ⟨c4, c5, rfl, rfl, trivial⟩
    · rcases itS h with ⟨c7, h⟩ | ⟨c8, h⟩
      · have h := Option.some.inj h
        subst h
        exact go_ret hΘ hm hP hn (hs := [⟨0, .new 1001, none⟩, ⟨1, .new 1002, none⟩, ⟨8, .br false, none⟩, ⟨14, .br false, none⟩, ⟨20, .br true, none⟩]) (rh := []) (ph := .raw) (ps := [(p1.Routine != p2.Routine) = false, (p1.Pc != p2.Pc) = false, (p1.State != p2.State) = true, (B false) = (B false), litA (B false) = true]) (by kernel_rfl) ⟨c4, c6, c7, rfl, rfl, trivial⟩
      · rcases itS h with ⟨c9, h⟩ | ⟨c10, h⟩
        · have h := Option.some.inj h
          subst h
          exact go_ret hΘ hm hP hn (hs := [⟨0, .new 1001, none⟩, ⟨1, .new 1002, none⟩, ⟨8, .br false, none⟩, ⟨14, .br false, none⟩, ⟨20, .br false, none⟩, ⟨26, .br true, none⟩]) (rh := []) (ph := .raw) (ps := [(p1.Routine != p2.Routine) = false, (p1.Pc != p2.Pc) = false, (p1.State != p2.State) = false, (p1.Cond != p2.Cond) = true, (B false) = (B false), litA (B false) = true]) (by kernel_rfl) ⟨c4, c6, c8, c9, rfl, rfl, trivial⟩
        · rcases itS h with ⟨c11, h⟩ | ⟨c12, h⟩
          · have h := Option.some.inj h
            subst h
            exact go_ret hΘ hm hP hn (hs := [⟨0, .new 1001, none⟩, ⟨1, .new 1002, none⟩, ⟨8, .br false, none⟩, ⟨14, .br false, none⟩, ⟨20, .br false, none⟩, ⟨26, .br false, none⟩, ⟨32, .br true, none⟩]) (rh := []) (ph := .raw) (ps := [(p1.Routine != p2.Routine) = false, (p1.Pc != p2.Pc) = false, (p1.State != p2.State) = false, (p1.Cond != p2.Cond) = false, (p1.Lock != p2.Lock) = true, (B false) = (B false), litA (B false) = true]) (by kernel_rfl) ⟨c4, c6, c8, c10, c11, rfl, rfl, trivial⟩
          · obtain ⟨r13, hr13, h⟩ := bnS h
            rcases itS h with ⟨c14, h⟩ | ⟨c15, h⟩
            · have h := Option.some.inj h
              subst h
              exact go_ret hΘ hm hP hn (hs := [⟨0, .new 1001, none⟩, ⟨1, .new 1002, none⟩, ⟨8, .br false, none⟩, ⟨14, .br false, none⟩, ⟨20, .br false, none⟩, ⟨26, .br false, none⟩, ⟨32, .br false, none⟩, ⟨37, .callV [] (B r13), none⟩, ⟨39, .br true, none⟩]) (rh := []) (ph := .raw) (ps := [(p1.Routine != p2.Routine) = false, (p1.Pc != p2.Pc) = false, (p1.State != p2.State) = false, (p1.Cond != p2.Cond) = false, (p1.Lock != p2.Lock) = false, Meets Try.prog 52 [(AV.ro 1 (p1.Stack.map o83)), (AV.ro 1 (p2.Stack.map o83))] (B r13), litA (B r13) = true, (!r13) = true, (B false) = (B false), litA (B false) = true]) (by kernel_rfl) ⟨c4, c6, c8, c10, c12, (laws_eqFloat64S_m hr13), rfl, c14, rfl, rfl, trivial⟩
            · have h := Option.some.inj h
              subst h
              exact go_ret hΘ hm hP hn (hs := [⟨0, .new 1001, none⟩, ⟨1, .new 1002, none⟩, ⟨8, .br false, none⟩, ⟨14, .br false, none⟩, ⟨20, .br false, none⟩, ⟨26, .br false, none⟩, ⟨32, .br false, none⟩, ⟨37, .callV [] (B r13), none⟩, ⟨39, .br false, none⟩]) (rh := []) (ph := .raw) (ps := [(p1.Routine != p2.Routine) = false, (p1.Pc != p2.Pc) = false, (p1.State != p2.State) = false, (p1.Cond != p2.Cond) = false, (p1.Lock != p2.Lock) = false, Meets Try.prog 52 [(AV.ro 1 (p1.Stack.map o83)), (AV.ro 1 (p2.Stack.map o83))] (B r13), litA (B r13) = true, (!r13) = false, (B true) = (B true), litA (B true) = true]) (by kernel_rfl) ⟨c4, c6, c8, c10, c12, (laws_eqFloat64S_m hr13), rfl, c15, rfl, rfl, trivial⟩
noncomputable def body51 : Code := match Try.f51.body with | some c => c | none => .skip
noncomputable def laws_eqThreadS_l0  (p1 : (List GThread)) (p2 : (List GThread)) : Nat → Int → Option Bool
  | 0, _ => none
  | n + 1, v5 =>
  if (decide (v5 < (p1.length : Int))) = true then
    Option.bind (rd p1 v5) fun x7 =>
    Option.bind (rd p2 v5) fun x8 =>
    Option.bind (laws_eqThread x7 x8) fun r9 =>
    if (!r9) = true then
      some false
    else
      laws_eqThreadS_l0 p1 p2 n (w64 (v5 + 1))
  else
    some true
theorem laws_eqThreadS_l0_m {E : Env} (hP : E.P = Try.prog) (hn : E.n = 27) (hx : ∀ p, p ∈ E.fx → p.1 ∈ ([] : List Nat)) (p1 : (List GThread)) (p2 : (List GThread))  : ∀ (n : Nat) (v5 : Int) (r : Bool), laws_eqThreadS_l0 p1 p2 n v5 = some r → WAt E body51 (FQ (RetE Θ Try.f51.results.toList [] [] (B r) E)) [true, true, false, true, false] ⟨[(0, (AV.ro 6 (p1.map r70))), (1, (AV.ro 6 (p2.map r70))), (5, (I v5))], [], [JJ]⟩ := by
  have hm : E.P.follows .mixedOrders = true := by rw [hP]; exact mixed
  have hΘ : TOK E.P Θ := by rw [hP]; exact Θ_ok
  intro n
  induction n with
  | zero => intro v5 r h; simp only [laws_eqThreadS_l0] at h; cases h
  | succ n ih =>
    intro v5 r h
    simp only [laws_eqThreadS_l0] at h
    rcases itS h with ⟨c6, h⟩ | ⟨c12, h⟩
    · obtain ⟨x7, hx7, h⟩ := bnS h
      obtain ⟨x8, hx8, h⟩ := bnS h
      obtain ⟨r9, hr9, h⟩ := bnS h
      rcases itS h with ⟨c10, h⟩ | ⟨c11, h⟩
      · have h := Option.some.inj h
        subst h
        exact go_ret hΘ hm hP hn (hs := [⟨2, .no, some (I (p1.length : Int))⟩, ⟨4, .br true, none⟩, ⟨7, .row (r70 x7), none⟩, ⟨11, .row (r70 x8), none⟩, ⟨13, .callV [[], []] (B r9), none⟩, ⟨15, .br true, none⟩]) (rh := []) (ph := .raw) (ps := [AV.lit (.int .i64 (((p1.map r70).length : Nat) : Int)) = (I (p1.length : Int)), (decide (v5 < (p1.length : Int))) = true, (0 : Int) ≤ v5, (p1.map r70)[(Int.toNat v5)]? = some (r70 x7), (0 : Int) ≤ v5, (p2.map r70)[(Int.toNat v5)]? = some (r70 x8), Meets Try.prog 80 [(AV.agg ((r70 x7))), (AV.agg ((r70 x8)))] (B r9), litA (B r9) = true, (!r9) = true, (B false) = (B false), litA (B false) = true]) (by kernel_rfl) ⟨(lenM r70), c6, (rd0 hx7), (rdM r70 hx7), (rd0 hx8), (rdM r70 hx8), (laws_eqThread_m hr9), rfl, c10, rfl, rfl, trivial⟩
      · exact go_to hΘ hm hx hP hn (hs := [⟨2, .no, some (I (p1.length : Int))⟩, ⟨4, .br true, none⟩, ⟨7, .row (r70 x7), none⟩, ⟨11, .row (r70 x8), none⟩, ⟨13, .callV [[], []] (B r9), none⟩, ⟨15, .br false, none⟩]) (π := []) (ts := [0, 1, 5]) (kp := []) (ps := [AV.lit (.int .i64 (((p1.map r70).length : Nat) : Int)) = (I (p1.length : Int)), (decide (v5 < (p1.length : Int))) = true, (0 : Int) ≤ v5, (p1.map r70)[(Int.toNat v5)]? = some (r70 x7), (0 : Int) ≤ v5, (p2.map r70)[(Int.toNat v5)]? = some (r70 x8), Meets Try.prog 80 [(AV.agg ((r70 x7))), (AV.agg ((r70 x8)))] (B r9), litA (B r9) = true, (!r9) = false]) (by kernel_rfl) ⟨(lenM r70), c6, (rd0 hx7), (rdM r70 hx7), (rd0 hx8), (rdM r70 hx8), (laws_eqThread_m hr9), rfl, c11, trivial⟩ (ih (w64 (v5 + 1)) _ h)
    · have h := Option.some.inj h
      subst h
      exact go_ret hΘ hm hP hn (hs := [⟨2, .no, some (I (p1.length : Int))⟩, ⟨4, .br false, none⟩]) (rh := []) (ph := .raw) (ps := [AV.lit (.int .i64 (((p1.map r70).length : Nat) : Int)) = (I (p1.length : Int)), (decide (v5 < (p1.length : Int))) = false, (B true) = (B true), litA (B true) = true]) (by kernel_rfl) ⟨(lenM r70), c12, rfl, rfl, trivial⟩
noncomputable def laws_eqThreadS (p1 : (List GThread)) (p2 : (List GThread)) : Option Bool :=
  if ((p1.length : Int) != (p2.length : Int)) = true then
    some false
  else
    laws_eqThreadS_l0 p1 p2 FU 0
theorem laws_eqThreadS_m {p1 : (List GThread)} {p2 : (List GThread)} {r : Bool} (h : laws_eqThreadS p1 p2 = some r) : Meets Try.prog 51 [(AV.ro 6 (p1.map r70)), (AV.ro 6 (p2.map r70))] (B r) := by
  refine meets_ofC Θ_ok Try.func51 rfl (c := body51) (by kernel_rfl) (Nat.le_of_ble_eq_true rfl) ?_
  intro E hP hn hx
  replace hn : E.n = 27 := hn
  have hm : E.P.follows .mixedOrders = true := by rw [hP]; exact mixed
  have hΘ : TOK E.P Θ := by rw [hP]; exact Θ_ok
  unfold laws_eqThreadS at h
  show WAt E body51 (FQ (RetE Θ Try.f51.results.toList [] [] (B r) E)) [] ⟨[(0, (AV.ro 6 (p1.map r70))), (1, (AV.ro 6 (p2.map r70)))], [], [JJ]⟩
  rcases itS h with ⟨c3, h⟩ | ⟨c4, h⟩
  · have h := Option.some.inj h
    subst h
    exact go_ret hΘ hm hP hn (hs := [⟨2, .no, some (I (p1.length : Int))⟩, ⟨4, .no, some (I (p2.length : Int))⟩, ⟨6, .br true, none⟩]) (rh := []) (ph := .raw) (ps := [AV.lit (.int .i64 (((p1.map r70).length : Nat) : Int)) = (I (p1.length : Int)), AV.lit (.int .i64 (((p2.map r70).length : Nat) : Int)) = (I (p2.length : Int)), ((p1.length : Int) != (p2.length : Int)) = true, (B false) = (B false), litA (B false) = true]) (by kernel_rfl) ⟨(lenM r70), (lenM r70), c3, rfl, rfl, trivial⟩
  · exact go_to hΘ hm hx hP hn (hs := [⟨2, .no, some (I (p1.length : Int))⟩, ⟨4, .no, some (I (p2.length : Int))⟩, ⟨6, .br false, none⟩]) (π := []) (ts := [0, 1, 5]) (kp := []) (ps := [AV.lit (.int .i64 (((p1.map r70).length : Nat) : Int)) = (I (p1.length : Int)), AV.lit (.int .i64 (((p2.map r70).length : Nat) : Int)) = (I (p2.length : Int)), ((p1.length : Int) != (p2.length : Int)) = false]) (by kernel_rfl) ⟨(lenM r70), (lenM r70), c4, trivial⟩ (laws_eqThreadS_l0_m hP hn hx p1 p2 FU 0 _ h)
noncomputable def body15 : Code := match Try.f15.body with | some c => c | none => .skip
noncomputable def laws_eqState (p1 : GState) (p2 : GState) : Option Bool :=
  Option.bind (laws_eqThreadS p1.Threads p2.Threads) fun r3 =>
  if (!r3) = true then
    some false
  else
    Option.bind (laws_eqFloat64S p1.Cells p2.Cells) fun r6 =>
    if (!r6) = true then
      some false
    else
      Option.bind (laws_eqIntS p1.Owner p2.Owner) fun r9 =>
      if (!r9) = true then
        some false
      else
        if (p1.Fault != p2.Fault) = true then
          some false
        else
          some true
theorem laws_eqState_m {p1 : GState} {p2 : GState} {r : Bool} (h : laws_eqState p1 p2 = some r) : Meets Try.prog 15 [(AV.agg ((r39 p1))), (AV.agg ((r39 p2)))] (B r) := by
  refine meets_ofC Θ_ok Try.func15 rfl (c := body15) (by kernel_rfl) (Nat.le_of_ble_eq_true rfl) ?_
  intro E hP hn hx
  replace hn : E.n = 28 := hn
  have hm : E.P.follows .mixedOrders = true := by rw [hP]; exact mixed
  have hΘ : TOK E.P Θ := by rw [hP]; exact Θ_ok
  unfold laws_eqState at h
  show WAt E body15 (FQ (RetE Θ Try.f15.results.toList [] [] (B r) E)) [] ⟨[(0, (AV.agg ((r39 p1)))), (1, (AV.agg ((r39 p2))))], [], [JJ]⟩
  obtain ⟨r3, hr3, h⟩ := bnS h
  rcases itS h with ⟨c4, h⟩ | ⟨c5, h⟩
  · have h := Option.some.inj h
    subst h
    exact go_ret hΘ hm hP hn (hs := [⟨0, .new 1001, none⟩, ⟨1, .new 1002, none⟩, ⟨7, .callV [] (B r3), none⟩, ⟨9, .br true, none⟩]) (rh := []) (ph := .raw) (ps := [Meets Try.prog 51 [(AV.ro 6 (p1.Threads.map r70)), (AV.ro 6 (p2.Threads.map r70))] (B r3), litA (B r3) = true, (!r3) = true, (B false) = (B false), litA (B false) = true]) (by kernel_rfl) ⟨(laws_eqThreadS_m hr3), rfl, c4, rfl, rfl, trivial⟩
  · obtain ⟨r6, hr6, h⟩ := bnS h
    rcases itS h with ⟨c7, h⟩ | ⟨c8, h⟩
    · have h := Option.some.inj h
      subst h
      exact go_ret hΘ hm hP hn (hs := [⟨0, .new 1001, none⟩, ⟨1, .new 1002, none⟩, ⟨7, .callV [] (B r3), none⟩, ⟨9, .br false, none⟩, ⟨14, .callV [] (B r6), none⟩, ⟨16, .br true, none⟩]) (rh := []) (ph := .raw) (ps := [Meets Try.prog 51 [(AV.ro 6 (p1.Threads.map r70)), (AV.ro 6 (p2.Threads.map r70))] (B r3), litA (B r3) = true, (!r3) = false, Meets Try.prog 52 [(AV.ro 1 (p1.Cells.map o83)), (AV.ro 1 (p2.Cells.map o83))] (B r6), litA (B r6) = true, (!r6) = true, (B false) = (B false), litA (B false) = true]) (by kernel_rfl) ⟨(laws_eqThreadS_m hr3), rfl, c5, (laws_eqFloat64S_m hr6), rfl, c7, rfl, rfl, trivial⟩
    · obtain ⟨r9, hr9, h⟩ := bnS h
      rcases itS h with ⟨c10, h⟩ | ⟨c11, h⟩
      · have h := Option.some.inj h
        subst h
        exact go_ret hΘ hm hP hn (hs := [⟨0, .new 1001, none⟩, ⟨1, .new 1002, none⟩, ⟨7, .callV [] (B r3), none⟩, ⟨9, .br false, none⟩, ⟨14, .callV [] (B r6), none⟩, ⟨16, .br false, none⟩, ⟨21, .callV [] (B r9), none⟩, ⟨23, .br true, none⟩]) (rh := []) (ph := .raw) (ps := [Meets Try.prog 51 [(AV.ro 6 (p1.Threads.map r70)), (AV.ro 6 (p2.Threads.map r70))] (B r3), litA (B r3) = true, (!r3) = false, Meets Try.prog 52 [(AV.ro 1 (p1.Cells.map o83)), (AV.ro 1 (p2.Cells.map o83))] (B r6), litA (B r6) = true, (!r6) = false, Meets Try.prog 23 [(AV.ro 1 (p1.Owner.map o3)), (AV.ro 1 (p2.Owner.map o3))] (B r9), litA (B r9) = true, (!r9) = true, (B false) = (B false), litA (B false) = true]) (by kernel_rfl) ⟨(laws_eqThreadS_m hr3), rfl, c5, (laws_eqFloat64S_m hr6), rfl, c8, (laws_eqIntS_m hr9), rfl, c10, rfl, rfl, trivial⟩
      · rcases itS h with ⟨c12, h⟩ | ⟨c13, h⟩
        · have h := Option.some.inj h
          subst h
          exact go_ret hΘ hm hP hn (hs := [⟨0, .new 1001, none⟩, ⟨1, .new 1002, none⟩, ⟨7, .callV [] (B r3), none⟩, ⟨9, .br false, none⟩, ⟨14, .callV [] (B r6), none⟩, ⟨16, .br false, none⟩, ⟨21, .callV [] (B r9), none⟩, ⟨23, .br false, none⟩, ⟨29, .br true, none⟩]) (rh := []) (ph := .raw) (ps := [Meets Try.prog 51 [(AV.ro 6 (p1.Threads.map r70)), (AV.ro 6 (p2.Threads.map r70))] (B r3), litA (B r3) = true, (!r3) = false, Meets Try.prog 52 [(AV.ro 1 (p1.Cells.map o83)), (AV.ro 1 (p2.Cells.map o83))] (B r6), litA (B r6) = true, (!r6) = false, Meets Try.prog 23 [(AV.ro 1 (p1.Owner.map o3)), (AV.ro 1 (p2.Owner.map o3))] (B r9), litA (B r9) = true, (!r9) = false, (p1.Fault != p2.Fault) = true, (B false) = (B false), litA (B false) = true]) (by kernel_rfl) ⟨(laws_eqThreadS_m hr3), rfl, c5, (laws_eqFloat64S_m hr6), rfl, c8, (laws_eqIntS_m hr9), rfl, c11, c12, rfl, rfl, trivial⟩
        · have h := Option.some.inj h
          subst h
          exact go_ret hΘ hm hP hn (hs := [⟨0, .new 1001, none⟩, ⟨1, .new 1002, none⟩, ⟨7, .callV [] (B r3), none⟩, ⟨9, .br false, none⟩, ⟨14, .callV [] (B r6), none⟩, ⟨16, .br false, none⟩, ⟨21, .callV [] (B r9), none⟩, ⟨23, .br false, none⟩, ⟨29, .br false, none⟩]) (rh := []) (ph := .raw) (ps := [Meets Try.prog 51 [(AV.ro 6 (p1.Threads.map r70)), (AV.ro 6 (p2.Threads.map r70))] (B r3), litA (B r3) = true, (!r3) = false, Meets Try.prog 52 [(AV.ro 1 (p1.Cells.map o83)), (AV.ro 1 (p2.Cells.map o83))] (B r6), litA (B r6) = true, (!r6) = false, Meets Try.prog 23 [(AV.ro 1 (p1.Owner.map o3)), (AV.ro 1 (p2.Owner.map o3))] (B r9), litA (B r9) = true, (!r9) = false, (p1.Fault != p2.Fault) = false, (B true) = (B true), litA (B true) = true]) (by kernel_rfl) ⟨(laws_eqThreadS_m hr3), rfl, c5, (laws_eqFloat64S_m hr6), rfl, c8, (laws_eqIntS_m hr9), rfl, c11, c13, rfl, rfl, trivial⟩
noncomputable def body25 : Code := match Try.f25.body with | some c => c | none => .skip
noncomputable def laws_heldIntS_l0  (p1 : (List Int)) : Nat → Int → Int → Option Int
  | 0, _, _ => none
  | n + 1, v3, v4 =>
  if (decide (v4 < (p1.length : Int))) = true then
    Option.bind (rd p1 v4) fun x6 =>
    if (x6 != v3) = true then
      some (-1)
    else
      laws_heldIntS_l0 p1 n (w64 (v3 + 1)) (w64 (v4 + 1))
  else
    some v3
theorem laws_heldIntS_l0_m {E : Env} (hP : E.P = Try.prog) (hn : E.n = 21) (hx : ∀ p, p ∈ E.fx → p.1 ∈ ([] : List Nat)) (p1 : (List Int))  : ∀ (n : Nat) (v3 : Int) (v4 : Int) (r : Int), laws_heldIntS_l0 p1 n v3 v4 = some r → WAt E body25 (FQ (RetE Θ Try.f25.results.toList [] [] (I r) E)) [true, false, true, false] ⟨[(0, (AV.ro 1 (p1.map o3))), (1, (I v3)), (5, (I v4))], [], [JJ]⟩ := by
  have hm : E.P.follows .mixedOrders = true := by rw [hP]; exact mixed
  have hΘ : TOK E.P Θ := by rw [hP]; exact Θ_ok
  intro n
  induction n with
  | zero => intro v3 v4 r h; simp only [laws_heldIntS_l0] at h; cases h
  | succ n ih =>
    intro v3 v4 r h
    simp only [laws_heldIntS_l0] at h
    rcases itS h with ⟨c5, h⟩ | ⟨c9, h⟩
    · obtain ⟨x6, hx6, h⟩ := bnS h
      rcases itS h with ⟨c7, h⟩ | ⟨c8, h⟩
      · have h := Option.some.inj h
        subst h
        exact go_ret hΘ hm hP hn (hs := [⟨2, .no, some (I (p1.length : Int))⟩, ⟨4, .br true, none⟩, ⟨7, .row (o3 x6), none⟩, ⟨11, .br true, none⟩]) (rh := []) (ph := .raw) (ps := [AV.lit (.int .i64 (((p1.map o3).length : Nat) : Int)) = (I (p1.length : Int)), (decide (v4 < (p1.length : Int))) = true, (0 : Int) ≤ v4, (p1.map o3)[(Int.toNat v4)]? = some (o3 x6), (x6 != v3) = true, (I (-1)) = (I (-1)), litA (I (-1)) = true]) (by kernel_rfl) ⟨(lenM o3), c5, (rd0 hx6), (rdM o3 hx6), c7, rfl, rfl, trivial⟩
      · exact go_to hΘ hm hx hP hn (hs := [⟨2, .no, some (I (p1.length : Int))⟩, ⟨4, .br true, none⟩, ⟨7, .row (o3 x6), none⟩, ⟨11, .br false, none⟩]) (π := []) (ts := [0, 1, 5]) (kp := []) (ps := [AV.lit (.int .i64 (((p1.map o3).length : Nat) : Int)) = (I (p1.length : Int)), (decide (v4 < (p1.length : Int))) = true, (0 : Int) ≤ v4, (p1.map o3)[(Int.toNat v4)]? = some (o3 x6), (x6 != v3) = false]) (by kernel_rfl) ⟨(lenM o3), c5, (rd0 hx6), (rdM o3 hx6), c8, trivial⟩ (ih (w64 (v3 + 1)) (w64 (v4 + 1)) _ h)
    · have h := Option.some.inj h
      subst h
      exact go_ret hΘ hm hP hn (hs := [⟨2, .no, some (I (p1.length : Int))⟩, ⟨4, .br false, none⟩]) (rh := []) (ph := .raw) (ps := [AV.lit (.int .i64 (((p1.map o3).length : Nat) : Int)) = (I (p1.length : Int)), (decide (v4 < (p1.length : Int))) = false, (I v3) = (I v3), litA (I v3) = true]) (by kernel_rfl) ⟨(lenM o3), c9, rfl, rfl, trivial⟩
noncomputable def laws_heldIntS (p1 : (List Int)) (p2 : Int) : Option Int :=
  laws_heldIntS_l0 p1 FU p2 0
theorem laws_heldIntS_m {p1 : (List Int)} {p2 : Int} {r : Int} (h : laws_heldIntS p1 p2 = some r) : Meets Try.prog 25 [(AV.ro 1 (p1.map o3)), (I p2)] (I r) := by
  refine meets_ofC Θ_ok Try.func25 rfl (c := body25) (by kernel_rfl) (Nat.le_of_ble_eq_true rfl) ?_
  intro E hP hn hx
  replace hn : E.n = 21 := hn
  have hm : E.P.follows .mixedOrders = true := by rw [hP]; exact mixed
  have hΘ : TOK E.P Θ := by rw [hP]; exact Θ_ok
  unfold laws_heldIntS at h
  show WAt E body25 (FQ (RetE Θ Try.f25.results.toList [] [] (I r) E)) [] ⟨[(0, (AV.ro 1 (p1.map o3))), (1, (I p2))], [], [JJ]⟩
  exact go_to hΘ hm hx hP hn (hs := []) (π := []) (ts := [0, 1, 5]) (kp := []) (ps := []) (by kernel_rfl) trivial (laws_heldIntS_l0_m hP hn hx p1 FU p2 0 _ h)
noncomputable def body32 : Code := match Try.f32.body with | some c => c | none => .skip
noncomputable def laws_heldIntSS_l0  (p1 : (List (List Int))) : Nat → Int → Int → Option Int
  | 0, _, _ => none
  | n + 1, v3, v4 =>
  if (decide (v4 < (p1.length : Int))) = true then
    Option.bind (rd p1 v4) fun x6 =>
    Option.bind (laws_heldIntS x6 v3) fun r7 =>
    if (decide (r7 < 0)) = true then
      some (-1)
    else
      laws_heldIntSS_l0 p1 n r7 (w64 (v4 + 1))
  else
    some v3
theorem laws_heldIntSS_l0_m {E : Env} (hP : E.P = Try.prog) (hn : E.n = 21) (hx : ∀ p, p ∈ E.fx → p.1 ∈ ([] : List Nat)) (p1 : (List (List Int)))  : ∀ (n : Nat) (v3 : Int) (v4 : Int) (r : Int), laws_heldIntSS_l0 p1 n v3 v4 = some r → WAt E body32 (FQ (RetE Θ Try.f32.results.toList [] [] (I r) E)) [true, false, true, false] ⟨[(0, (AV.ro 1 (p1.map r27))), (1, (I v3)), (5, (I v4))], [], [JJ]⟩ := by
  have hm : E.P.follows .mixedOrders = true := by rw [hP]; exact mixed
  have hΘ : TOK E.P Θ := by rw [hP]; exact Θ_ok
  intro n
  induction n with
  | zero => intro v3 v4 r h; simp only [laws_heldIntSS_l0] at h; cases h
  | succ n ih =>
    intro v3 v4 r h
    simp only [laws_heldIntSS_l0] at h
    rcases itS h with ⟨c5, h⟩ | ⟨c10, h⟩
    · obtain ⟨x6, hx6, h⟩ := bnS h
      obtain ⟨r7, hr7, h⟩ := bnS h
      rcases itS h with ⟨c8, h⟩ | ⟨c9, h⟩
      · have h := Option.some.inj h
        subst h
        exact go_ret hΘ hm hP hn (hs := [⟨2, .no, some (I (p1.length : Int))⟩, ⟨4, .br true, none⟩, ⟨7, .row (r27 x6), none⟩, ⟨10, .callV [] (I r7), none⟩, ⟨14, .br true, none⟩]) (rh := []) (ph := .raw) (ps := [AV.lit (.int .i64 (((p1.map r27).length : Nat) : Int)) = (I (p1.length : Int)), (decide (v4 < (p1.length : Int))) = true, (0 : Int) ≤ v4, (p1.map r27)[(Int.toNat v4)]? = some (r27 x6), Meets Try.prog 25 [(AV.ro 1 (x6.map o3)), (I v3)] (I r7), litA (I r7) = true, (decide (r7 < 0)) = true, (I (-1)) = (I (-1)), litA (I (-1)) = true]) (by kernel_rfl) ⟨(lenM r27), c5, (rd0 hx6), (rdM r27 hx6), (laws_heldIntS_m hr7), rfl, c8, rfl, rfl, trivial⟩
      · exact go_to hΘ hm hx hP hn (hs := [⟨2, .no, some (I (p1.length : Int))⟩, ⟨4, .br true, none⟩, ⟨7, .row (r27 x6), none⟩, ⟨10, .callV [] (I r7), none⟩, ⟨14, .br false, none⟩]) (π := []) (ts := [0, 1, 5]) (kp := []) (ps := [AV.lit (.int .i64 (((p1.map r27).length : Nat) : Int)) = (I (p1.length : Int)), (decide (v4 < (p1.length : Int))) = true, (0 : Int) ≤ v4, (p1.map r27)[(Int.toNat v4)]? = some (r27 x6), Meets Try.prog 25 [(AV.ro 1 (x6.map o3)), (I v3)] (I r7), litA (I r7) = true, (decide (r7 < 0)) = false]) (by kernel_rfl) ⟨(lenM r27), c5, (rd0 hx6), (rdM r27 hx6), (laws_heldIntS_m hr7), rfl, c9, trivial⟩ (ih r7 (w64 (v4 + 1)) _ h)
    · have h := Option.some.inj h
      subst h
      exact go_ret hΘ hm hP hn (hs := [⟨2, .no, some (I (p1.length : Int))⟩, ⟨4, .br false, none⟩]) (rh := []) (ph := .raw) (ps := [AV.lit (.int .i64 (((p1.map r27).length : Nat) : Int)) = (I (p1.length : Int)), (decide (v4 < (p1.length : Int))) = false, (I v3) = (I v3), litA (I v3) = true]) (by kernel_rfl) ⟨(lenM r27), c10, rfl, rfl, trivial⟩
noncomputable def laws_heldIntSS (p1 : (List (List Int))) (p2 : Int) : Option Int :=
  laws_heldIntSS_l0 p1 FU p2 0
theorem laws_heldIntSS_m {p1 : (List (List Int))} {p2 : Int} {r : Int} (h : laws_heldIntSS p1 p2 = some r) : Meets Try.prog 32 [(AV.ro 1 (p1.map r27)), (I p2)] (I r) := by
  refine meets_ofC Θ_ok Try.func32 rfl (c := body32) (by kernel_rfl) (Nat.le_of_ble_eq_true rfl) ?_
  intro E hP hn hx
  replace hn : E.n = 21 := hn
  have hm : E.P.follows .mixedOrders = true := by rw [hP]; exact mixed
  have hΘ : TOK E.P Θ := by rw [hP]; exact Θ_ok
  unfold laws_heldIntSS at h
  show WAt E body32 (FQ (RetE Θ Try.f32.results.toList [] [] (I r) E)) [] ⟨[(0, (AV.ro 1 (p1.map r27))), (1, (I p2))], [], [JJ]⟩
  exact go_to hΘ hm hx hP hn (hs := []) (π := []) (ts := [0, 1, 5]) (kp := []) (ps := []) (by kernel_rfl) trivial (laws_heldIntSS_l0_m hP hn hx p1 FU p2 0 _ h)
noncomputable def body24 : Code := match Try.f24.body with | some c => c | none => .skip
noncomputable def laws_markIntS_l0   : Nat → (List Int) → Int → Int → Option (Int × (List Int))
  | 0, _, _, _ => none
  | n + 1, a3, v4, v5 =>
  if (decide (v5 < (a3.length : Int))) = true then
    Option.bind (rd a3 v5) fun x7 =>
    laws_markIntS_l0 n (a3.set (Int.toNat v5) v4) (w64 (v4 + 1)) (w64 (v5 + 1))
  else
    some (v4, a3)
theorem laws_markIntS_l0_m {E : Env} (hP : E.P = Try.prog) (hn : E.n = 19) (hx : ∀ p, p ∈ E.fx → p.1 ∈ ([0] : List Nat))   : ∀ (n : Nat) (a3 : (List Int)) (v4 : Int) (v5 : Int) (r : (Int × (List Int))), laws_markIntS_l0  n a3 v4 v5 = some r → WAt E body24 (FQ (RetE Θ Try.f24.results.toList [true] [⟨3, 1, (r.2.map o3)⟩] (I r.1) E)) [true, false, true, false] ⟨[(0, (AV.sl 0 0 (List.length (a3.map o3)))), (1, (I v4)), (5, (I v5))], [(0, some ⟨3, 1, (a3.map o3)⟩)], [0, JJ]⟩ := by
  have hm : E.P.follows .mixedOrders = true := by rw [hP]; exact mixed
  have hΘ : TOK E.P Θ := by rw [hP]; exact Θ_ok
  intro n
  induction n with
  | zero => intro a3 v4 v5 r h; simp only [laws_markIntS_l0] at h; cases h
  | succ n ih =>
    intro a3 v4 v5 r h
    simp only [laws_markIntS_l0] at h
    rcases itS h with ⟨c6, h⟩ | ⟨c8, h⟩
    · obtain ⟨x7, hx7, h⟩ := bnS h
      exact go_to hΘ hm hx hP hn (hs := [⟨2, .no, some (I (a3.length : Int))⟩, ⟨4, .br true, none⟩, ⟨9, .sto [(I x7)] ((a3.set (Int.toNat v5) v4).map o3), none⟩, ⟨16, .slen 0 (List.length ((a3.set (Int.toNat v5) v4).map o3)), none⟩]) (π := [(0, 0)]) (ts := [0, 1, 5]) (kp := []) (ps := [AV.lit (.int .i64 (((List.length (a3.map o3)) : Nat) : Int)) = (I (a3.length : Int)), (decide (v5 < (a3.length : Int))) = true, (0 : Int) ≤ v5, v5 < (((List.length (a3.map o3)) : Nat) : Int), (a3.map o3)[(Int.toNat v5)]? = some [(I x7)], (a3.map o3).set (Int.toNat v5) (wr [(I x7)] 0 [(I v4)]) = ((a3.set (Int.toNat v5) v4).map o3), [(I v4)].length = 1, 0 + [(I v4)].length ≤ [(I x7)].length, (List.length (a3.map o3)) = (List.length ((a3.set (Int.toNat v5) v4).map o3)), RenOK [(0, 0)] ((a3.set (Int.toNat v5) v4).map o3)]) (by kernel_rfl) ⟨(lenM o3), c6, (rd0 hx7), (rdL o3 hx7), (rdM o3 hx7), (setM o3), rfl, (Nat.le_of_ble_eq_true rfl), (by first | exact lnSet _ | exact lnSet2 _ | simp only [List.length_map, List.length_set, List.length_cons, List.length_nil]), (rok (treeM t3)), trivial⟩ (ih (a3.set (Int.toNat v5) v4) (w64 (v4 + 1)) (w64 (v5 + 1)) _ h)
    · have h := Option.some.inj h
      subst h
      exact go_ret hΘ hm hP hn (hs := [⟨2, .no, some (I (a3.length : Int))⟩, ⟨4, .br false, none⟩]) (rh := []) (ph := .raw) (ps := [AV.lit (.int .i64 (((List.length (a3.map o3)) : Nat) : Int)) = (I (a3.length : Int)), (decide (v5 < (a3.length : Int))) = false, (a3.map o3) = (a3.map o3), treeLL (a3.map o3) = true, noRoLL (a3.map o3) = true, (I v4) = (I v4), litA (I v4) = true]) (by kernel_rfl) ⟨(lenM o3), c8, rfl, (treeM t3), (noRoM n3), rfl, rfl, trivial⟩
noncomputable def laws_markIntS (p1 : (List Int)) (p2 : Int) : Option (Int × (List Int)) :=
  laws_markIntS_l0 FU p1 p2 0
theorem laws_markIntS_m {p1 : (List Int)} {p2 : Int} {r : (Int × (List Int))} (h : laws_markIntS p1 p2 = some r) : MeetsR Try.prog 24 [⟨3, 1, (p1.map o3)⟩] [(AV.sl 0 0 (List.length (p1.map o3))), (I p2)] [true] [⟨3, 1, (r.2.map o3)⟩] (I r.1) := by
  refine meetsR_of Θ_ok Try.func24 rfl (c := body24) (by kernel_rfl) (Nat.le_of_ble_eq_true rfl) rfl (Nat.le_of_ble_eq_true rfl) rfl (fr := [0]) (frI rfl) ?_
  intro E hP hn hx
  replace hn : E.n = 19 := hn
  have hm : E.P.follows .mixedOrders = true := by rw [hP]; exact mixed
  have hΘ : TOK E.P Θ := by rw [hP]; exact Θ_ok
  unfold laws_markIntS at h
  show WAt E body24 (FQ (RetE Θ Try.f24.results.toList [true] [⟨3, 1, (r.2.map o3)⟩] (I r.1) E)) [] ⟨[(0, (AV.sl 0 0 (List.length (p1.map o3)))), (1, (I p2))], [(0, some ⟨3, 1, (p1.map o3)⟩)], [0, JJ]⟩
  exact go_to hΘ hm hx hP hn (hs := []) (π := [(0, 0)]) (ts := [0, 1, 5]) (kp := []) (ps := [RenOK [(0, 0)] (p1.map o3)]) (by kernel_rfl) ⟨(rok (treeM t3)), trivial⟩ (laws_markIntS_l0_m hP hn hx FU p1 p2 0 _ h)
noncomputable def body31 : Code := match Try.f31.body with | some c => c | none => .skip
noncomputable def laws_markIntSS_l0   : Nat → (List (List Int)) → Int → Int → Option (Int × (List (List Int)))
  | 0, _, _, _ => none
  | n + 1, a3, v4, v5 =>
  if (decide (v5 < (a3.length : Int))) = true then
    Option.bind (rd a3 v5) fun x7 =>
    Option.bind (laws_markIntS x7 v4) fun r8 =>
    Option.bind (sameLen x7 r8.2) fun q9 =>
    laws_markIntSS_l0 n (a3.set (Int.toNat v5) r8.2) r8.1 (w64 (v5 + 1))
  else
    some (v4, a3)
theorem laws_markIntSS_l0_m {E : Env} (hP : E.P = Try.prog) (hn : E.n = 19) (hx : ∀ p, p ∈ E.fx → p.1 ∈ ([0] : List Nat))   : ∀ (n : Nat) (a3 : (List (List Int))) (v4 : Int) (v5 : Int) (r : (Int × (List (List Int)))), laws_markIntSS_l0  n a3 v4 v5 = some r → WAt E body31 (FQ (RetE Θ Try.f31.results.toList [true] [⟨27, 1, (r.2.map o27)⟩] (I r.1) E)) [true, false, true, false] ⟨[(0, (AV.sl 0 0 (List.length (a3.map o27)))), (1, (I v4)), (5, (I v5))], [(0, some ⟨27, 1, (a3.map o27)⟩)], [0, JJ]⟩ := by
  have hm : E.P.follows .mixedOrders = true := by rw [hP]; exact mixed
  have hΘ : TOK E.P Θ := by rw [hP]; exact Θ_ok
  intro n
  induction n with
  | zero => intro a3 v4 v5 r h; simp only [laws_markIntSS_l0] at h; cases h
  | succ n ih =>
    intro a3 v4 v5 r h
    simp only [laws_markIntSS_l0] at h
    rcases itS h with ⟨c6, h⟩ | ⟨c10, h⟩
    · obtain ⟨x7, hx7, h⟩ := bnS h
      obtain ⟨r8, hr8, h⟩ := bnS h
      obtain ⟨q9, hq9, h⟩ := bnS h
      exact go_to hΘ hm hx hP hn (hs := [⟨2, .no, some (I (a3.length : Int))⟩, ⟨4, .br true, none⟩, ⟨8, .unpack 0 1001 (Int.toNat v5) 0 [(AV.own 3 1 (x7.map o3))] 3 1 (x7.map o3) ((a3.map o27).set (Int.toNat v5) [(AV.sl 1001 0 (List.length (x7.map o3)))]), none⟩, ⟨8, .row [(AV.sl 1001 0 (List.length (x7.map o3)))], none⟩, ⟨10, .callX [1001] [true] [⟨3, 1, (x7.map o3)⟩] [⟨3, 1, (r8.2.map o3)⟩] [] (I r8.1) [] (I r8.1) [], none⟩, ⟨15, .pack 0 1001 (Int.toNat v5) 0 [(AV.sl 1001 0 (List.length (x7.map o3)))] ((a3.set (Int.toNat v5) r8.2).map o27), none⟩, ⟨15, .slen 0 (List.length ((a3.set (Int.toNat v5) r8.2).map o27)), none⟩]) (π := [(0, 0)]) (ts := [0, 1, 5]) (kp := []) (ps := [AV.lit (.int .i64 (((List.length (a3.map o27)) : Nat) : Int)) = (I (a3.length : Int)), (decide (v5 < (a3.length : Int))) = true, (0 : Int) ≤ v5, v5 < (((List.length (a3.map o27)) : Nat) : Int), (a3.map o27)[(Int.toNat v5)]? = some [(AV.own 3 1 (x7.map o3))], [(AV.own 3 1 (x7.map o3))][0]? = some (AV.own 3 1 (x7.map o3)), 0 < 1, (a3.map o27).set (Int.toNat v5) ([(AV.own 3 1 (x7.map o3))].set 0 (AV.sl 1001 0 (List.length (x7.map o3)))) = ((a3.map o27).set (Int.toNat v5) [(AV.sl 1001 0 (List.length (x7.map o3)))]), ((a3.map o27).set (Int.toNat v5) [(AV.sl 1001 0 (List.length (x7.map o3)))])[(Int.toNat v5)]? = some [(AV.sl 1001 0 (List.length (x7.map o3)))], MeetsR Try.prog 24 [⟨3, 1, (x7.map o3)⟩] [(AV.sl 0 0 (List.length (x7.map o3))), (I v4)] [true] [⟨3, 1, (r8.2.map o3)⟩] (I r8.1), (some (Root.mk 3 1 (x7.map o3)) = some (Root.mk 3 1 (x7.map o3))) ∧ True, (treeLL (x7.map o3) = true ∧ noRoLL (x7.map o3) = true) ∧ True, ((r8.2.map o3).length = (x7.map o3).length) ∧ True, (rtf (renA [(0, 1001)] (I r8.1)) []).1 = (I r8.1), (rtf (renA [(0, 1001)] (I r8.1)) []).2.1 = [], ((a3.map o27).set (Int.toNat v5) [(AV.sl 1001 0 (List.length (x7.map o3)))])[(Int.toNat v5)]? = some [(AV.sl 1001 0 (List.length (x7.map o3)))], [(AV.sl 1001 0 (List.length (x7.map o3)))][0]? = some (AV.sl 1001 0 (List.length (r8.2.map o3))), treeLL (r8.2.map o3) = true, ((a3.map o27).set (Int.toNat v5) [(AV.sl 1001 0 (List.length (x7.map o3)))]).set (Int.toNat v5) ([(AV.sl 1001 0 (List.length (x7.map o3)))].set 0 (AV.own 3 1 (r8.2.map o3))) = ((a3.set (Int.toNat v5) r8.2).map o27), (List.length (a3.map o27)) = (List.length ((a3.set (Int.toNat v5) r8.2).map o27)), RenOK [(0, 0)] ((a3.set (Int.toNat v5) r8.2).map o27)]) (by kernel_rfl) ⟨(lenM o27), c6, (rd0 hx7), (rdL o27 hx7), (rdM o27 hx7), rfl, (by decide), rfl, (setE (rdM o27 hx7)), (laws_markIntS_m hr8), ⟨rfl, trivial⟩, ⟨⟨treeM t3, noRoM n3⟩, trivial⟩, ⟨(sameLenE o3 hq9), trivial⟩, rfl, rfl, (setE (rdM o27 hx7)), (pkS (sameLenE o3 hq9).symm), (treeM t3), (setP o27), (by first | exact lnSet _ | exact lnSet2 _ | simp only [List.length_map, List.length_set, List.length_cons, List.length_nil]), (rok (treeM t27)), trivial⟩ (ih (a3.set (Int.toNat v5) r8.2) r8.1 (w64 (v5 + 1)) _ h)
    · have h := Option.some.inj h
      subst h
      exact go_ret hΘ hm hP hn (hs := [⟨2, .no, some (I (a3.length : Int))⟩, ⟨4, .br false, none⟩]) (rh := []) (ph := .raw) (ps := [AV.lit (.int .i64 (((List.length (a3.map o27)) : Nat) : Int)) = (I (a3.length : Int)), (decide (v5 < (a3.length : Int))) = false, (a3.map o27) = (a3.map o27), treeLL (a3.map o27) = true, noRoLL (a3.map o27) = true, (I v4) = (I v4), litA (I v4) = true]) (by kernel_rfl) ⟨(lenM o27), c10, rfl, (treeM t27), (noRoM n27), rfl, rfl, trivial⟩
noncomputable def laws_markIntSS (p1 : (List (List Int))) (p2 : Int) : Option (Int × (List (List Int))) :=
  laws_markIntSS_l0 FU p1 p2 0
theorem laws_markIntSS_m {p1 : (List (List Int))} {p2 : Int} {r : (Int × (List (List Int)))} (h : laws_markIntSS p1 p2 = some r) : MeetsR Try.prog 31 [⟨27, 1, (p1.map o27)⟩] [(AV.sl 0 0 (List.length (p1.map o27))), (I p2)] [true] [⟨27, 1, (r.2.map o27)⟩] (I r.1) := by
  refine meetsR_of Θ_ok Try.func31 rfl (c := body31) (by kernel_rfl) (Nat.le_of_ble_eq_true rfl) rfl (Nat.le_of_ble_eq_true rfl) rfl (fr := [0]) (frI rfl) ?_
  intro E hP hn hx
  replace hn : E.n = 19 := hn
  have hm : E.P.follows .mixedOrders = true := by rw [hP]; exact mixed
  have hΘ : TOK E.P Θ := by rw [hP]; exact Θ_ok
  unfold laws_markIntSS at h
  show WAt E body31 (FQ (RetE Θ Try.f31.results.toList [true] [⟨27, 1, (r.2.map o27)⟩] (I r.1) E)) [] ⟨[(0, (AV.sl 0 0 (List.length (p1.map o27)))), (1, (I p2))], [(0, some ⟨27, 1, (p1.map o27)⟩)], [0, JJ]⟩
  exact go_to hΘ hm hx hP hn (hs := []) (π := [(0, 0)]) (ts := [0, 1, 5]) (kp := []) (ps := [RenOK [(0, 0)] (p1.map o27)]) (by kernel_rfl) ⟨(rok (treeM t27)), trivial⟩ (laws_markIntSS_l0_m hP hn hx FU p1 p2 0 _ h)
noncomputable def body84 : Code := match Try.f84.body with | some c => c | none => .skip
noncomputable def laws_markOpS_l0   : Nat → (List GOp) → Int → Int → Option (Int × (List GOp))
  | 0, _, _, _ => none
  | n + 1, a3, v4, v5 =>
  if (decide (v5 < (a3.length : Int))) = true then
    Option.bind (rd a3 v5) fun x7 =>
    laws_markOpS_l0 n (a3.set (Int.toNat v5) (GOp.mk v4 (w64 (v4 + 1)) (w64 ((w64 (v4 + 1)) + 1)) (fOf (w64 ((w64 ((w64 (v4 + 1)) + 1)) + 1))))) (w64 ((w64 ((w64 ((w64 (v4 + 1)) + 1)) + 1)) + 1)) (w64 (v5 + 1))
  else
    some (v4, a3)
theorem laws_markOpS_l0_m {E : Env} (hP : E.P = Try.prog) (hn : E.n = 42) (hx : ∀ p, p ∈ E.fx → p.1 ∈ ([0] : List Nat))   : ∀ (n : Nat) (a3 : (List GOp)) (v4 : Int) (v5 : Int) (r : (Int × (List GOp))), laws_markOpS_l0  n a3 v4 v5 = some r → WAt E body84 (FQ (RetE Θ Try.f84.results.toList [true] [⟨85, 4, (r.2.map o85)⟩] (I r.1) E)) [true, false, true, false] ⟨[(0, (AV.sl 0 0 (List.length (a3.map o85)))), (1, (I v4)), (5, (I v5))], [(0, some ⟨85, 4, (a3.map o85)⟩)], [0, JJ]⟩ := by
  have hm : E.P.follows .mixedOrders = true := by rw [hP]; exact mixed
  have hΘ : TOK E.P Θ := by rw [hP]; exact Θ_ok
  intro n
  induction n with
  | zero => intro a3 v4 v5 r h; simp only [laws_markOpS_l0] at h; cases h
  | succ n ih =>
    intro a3 v4 v5 r h
    simp only [laws_markOpS_l0] at h
    rcases itS h with ⟨c6, h⟩ | ⟨c8, h⟩
    · obtain ⟨x7, hx7, h⟩ := bnS h
      exact go_to hΘ hm hx hP hn (hs := [⟨2, .no, some (I (a3.length : Int))⟩, ⟨4, .br true, none⟩, ⟨10, .sto ((o85 x7)) ((a3.set (Int.toNat v5) (GOp.mk v4 x7.A x7.B x7.V)).map o85), none⟩, ⟨14, .slen 0 (List.length ((a3.set (Int.toNat v5) (GOp.mk v4 x7.A x7.B x7.V)).map o85)), none⟩, ⟨19, .sto [(I v4), (I x7.A), (I x7.B), (FK x7.V)] ((a3.set (Int.toNat v5) (GOp.mk v4 (w64 (v4 + 1)) x7.B x7.V)).map o85), none⟩, ⟨23, .slen 0 (List.length ((a3.set (Int.toNat v5) (GOp.mk v4 (w64 (v4 + 1)) x7.B x7.V)).map o85)), none⟩, ⟨28, .sto [(I v4), (I (w64 (v4 + 1))), (I x7.B), (FK x7.V)] ((a3.set (Int.toNat v5) (GOp.mk v4 (w64 (v4 + 1)) (w64 ((w64 (v4 + 1)) + 1)) x7.V)).map o85), none⟩, ⟨32, .slen 0 (List.length ((a3.set (Int.toNat v5) (GOp.mk v4 (w64 (v4 + 1)) (w64 ((w64 (v4 + 1)) + 1)) x7.V)).map o85)), none⟩, ⟨35, .cnv (FK (fOf (w64 ((w64 ((w64 (v4 + 1)) + 1)) + 1)))), none⟩, ⟨38, .sto [(I v4), (I (w64 (v4 + 1))), (I (w64 ((w64 (v4 + 1)) + 1))), (FK x7.V)] ((a3.set (Int.toNat v5) (GOp.mk v4 (w64 (v4 + 1)) (w64 ((w64 (v4 + 1)) + 1)) (fOf (w64 ((w64 ((w64 (v4 + 1)) + 1)) + 1))))).map o85), none⟩, ⟨45, .slen 0 (List.length ((a3.set (Int.toNat v5) (GOp.mk v4 (w64 (v4 + 1)) (w64 ((w64 (v4 + 1)) + 1)) (fOf (w64 ((w64 ((w64 (v4 + 1)) + 1)) + 1))))).map o85)), none⟩]) (π := [(0, 0)]) (ts := [0, 1, 5]) (kp := []) (ps := [AV.lit (.int .i64 (((List.length (a3.map o85)) : Nat) : Int)) = (I (a3.length : Int)), (decide (v5 < (a3.length : Int))) = true, (0 : Int) ≤ v5, v5 < (((List.length (a3.map o85)) : Nat) : Int), (a3.map o85)[(Int.toNat v5)]? = some ((o85 x7)), (a3.map o85).set (Int.toNat v5) (wr ((o85 x7)) 0 [(I v4)]) = ((a3.set (Int.toNat v5) (GOp.mk v4 x7.A x7.B x7.V)).map o85), [(I v4)].length = 1, 0 + [(I v4)].length ≤ ((o85 x7)).length, (List.length (a3.map o85)) = (List.length ((a3.set (Int.toNat v5) (GOp.mk v4 x7.A x7.B x7.V)).map o85)), (0 : Int) ≤ v5, v5 < (((List.length ((a3.set (Int.toNat v5) (GOp.mk v4 x7.A x7.B x7.V)).map o85)) : Nat) : Int), ((a3.set (Int.toNat v5) (GOp.mk v4 x7.A x7.B x7.V)).map o85)[(Int.toNat v5)]? = some [(I v4), (I x7.A), (I x7.B), (FK x7.V)], ((a3.set (Int.toNat v5) (GOp.mk v4 x7.A x7.B x7.V)).map o85).set (Int.toNat v5) (wr [(I v4), (I x7.A), (I x7.B), (FK x7.V)] 1 [(I (w64 (v4 + 1)))]) = ((a3.set (Int.toNat v5) (GOp.mk v4 (w64 (v4 + 1)) x7.B x7.V)).map o85), [(I (w64 (v4 + 1)))].length = 1, 1 + [(I (w64 (v4 + 1)))].length ≤ [(I v4), (I x7.A), (I x7.B), (FK x7.V)].length, (List.length ((a3.set (Int.toNat v5) (GOp.mk v4 x7.A x7.B x7.V)).map o85)) = (List.length ((a3.set (Int.toNat v5) (GOp.mk v4 (w64 (v4 + 1)) x7.B x7.V)).map o85)), (0 : Int) ≤ v5, v5 < (((List.length ((a3.set (Int.toNat v5) (GOp.mk v4 (w64 (v4 + 1)) x7.B x7.V)).map o85)) : Nat) : Int), ((a3.set (Int.toNat v5) (GOp.mk v4 (w64 (v4 + 1)) x7.B x7.V)).map o85)[(Int.toNat v5)]? = some [(I v4), (I (w64 (v4 + 1))), (I x7.B), (FK x7.V)], ((a3.set (Int.toNat v5) (GOp.mk v4 (w64 (v4 + 1)) x7.B x7.V)).map o85).set (Int.toNat v5) (wr [(I v4), (I (w64 (v4 + 1))), (I x7.B), (FK x7.V)] 2 [(I (w64 ((w64 (v4 + 1)) + 1)))]) = ((a3.set (Int.toNat v5) (GOp.mk v4 (w64 (v4 + 1)) (w64 ((w64 (v4 + 1)) + 1)) x7.V)).map o85), [(I (w64 ((w64 (v4 + 1)) + 1)))].length = 1, 2 + [(I (w64 ((w64 (v4 + 1)) + 1)))].length ≤ [(I v4), (I (w64 (v4 + 1))), (I x7.B), (FK x7.V)].length, (List.length ((a3.set (Int.toNat v5) (GOp.mk v4 (w64 (v4 + 1)) x7.B x7.V)).map o85)) = (List.length ((a3.set (Int.toNat v5) (GOp.mk v4 (w64 (v4 + 1)) (w64 ((w64 (v4 + 1)) + 1)) x7.V)).map o85)), CnvS Try.prog 3 83 (I (w64 ((w64 ((w64 (v4 + 1)) + 1)) + 1))) (FK (fOf (w64 ((w64 ((w64 (v4 + 1)) + 1)) + 1)))), (0 : Int) ≤ v5, v5 < (((List.length ((a3.set (Int.toNat v5) (GOp.mk v4 (w64 (v4 + 1)) (w64 ((w64 (v4 + 1)) + 1)) x7.V)).map o85)) : Nat) : Int), ((a3.set (Int.toNat v5) (GOp.mk v4 (w64 (v4 + 1)) (w64 ((w64 (v4 + 1)) + 1)) x7.V)).map o85)[(Int.toNat v5)]? = some [(I v4), (I (w64 (v4 + 1))), (I (w64 ((w64 (v4 + 1)) + 1))), (FK x7.V)], ((a3.set (Int.toNat v5) (GOp.mk v4 (w64 (v4 + 1)) (w64 ((w64 (v4 + 1)) + 1)) x7.V)).map o85).set (Int.toNat v5) (wr [(I v4), (I (w64 (v4 + 1))), (I (w64 ((w64 (v4 + 1)) + 1))), (FK x7.V)] 3 [(FK (fOf (w64 ((w64 ((w64 (v4 + 1)) + 1)) + 1))))]) = ((a3.set (Int.toNat v5) (GOp.mk v4 (w64 (v4 + 1)) (w64 ((w64 (v4 + 1)) + 1)) (fOf (w64 ((w64 ((w64 (v4 + 1)) + 1)) + 1))))).map o85), [(FK (fOf (w64 ((w64 ((w64 (v4 + 1)) + 1)) + 1))))].length = 1, 3 + [(FK (fOf (w64 ((w64 ((w64 (v4 + 1)) + 1)) + 1))))].length ≤ [(I v4), (I (w64 (v4 + 1))), (I (w64 ((w64 (v4 + 1)) + 1))), (FK x7.V)].length, (List.length ((a3.set (Int.toNat v5) (GOp.mk v4 (w64 (v4 + 1)) (w64 ((w64 (v4 + 1)) + 1)) x7.V)).map o85)) = (List.length ((a3.set (Int.toNat v5) (GOp.mk v4 (w64 (v4 + 1)) (w64 ((w64 (v4 + 1)) + 1)) (fOf (w64 ((w64 ((w64 (v4 + 1)) + 1)) + 1))))).map o85)), RenOK [(0, 0)] ((a3.set (Int.toNat v5) (GOp.mk v4 (w64 (v4 + 1)) (w64 ((w64 (v4 + 1)) + 1)) (fOf (w64 ((w64 ((w64 (v4 + 1)) + 1)) + 1))))).map o85)]) (by kernel_rfl) ⟨(lenM o85), c6, (rd0 hx7), (rdL o85 hx7), (rdM o85 hx7), (setMr o85 (by kernel_rfl)), rfl, (Nat.le_of_ble_eq_true rfl), (by first | exact lnSet _ | exact lnSet2 _ | simp only [List.length_map, List.length_set, List.length_cons, List.length_nil]), (rd0 hx7), (rdL o85 (rdS (y := (GOp.mk v4 x7.A x7.B x7.V)) hx7)), (rdM o85 (rdS (y := (GOp.mk v4 x7.A x7.B x7.V)) hx7)), (setSS o85 (by kernel_rfl)), rfl, (Nat.le_of_ble_eq_true rfl), (by first | exact lnSet _ | exact lnSet2 _ | simp only [List.length_map, List.length_set, List.length_cons, List.length_nil]), (rd0 hx7), (rdL o85 (rdS (y := (GOp.mk v4 (w64 (v4 + 1)) x7.B x7.V)) hx7)), (rdM o85 (rdS (y := (GOp.mk v4 (w64 (v4 + 1)) x7.B x7.V)) hx7)), (setSS o85 (by kernel_rfl)), rfl, (Nat.le_of_ble_eq_true rfl), (by first | exact lnSet _ | exact lnSet2 _ | simp only [List.length_map, List.length_set, List.length_cons, List.length_nil]), (cIF (P := Try.prog) ty3 ty83), (rd0 hx7), (rdL o85 (rdS (y := (GOp.mk v4 (w64 (v4 + 1)) (w64 ((w64 (v4 + 1)) + 1)) x7.V)) hx7)), (rdM o85 (rdS (y := (GOp.mk v4 (w64 (v4 + 1)) (w64 ((w64 (v4 + 1)) + 1)) x7.V)) hx7)), (setSS o85 (by kernel_rfl)), rfl, (Nat.le_of_ble_eq_true rfl), (by first | exact lnSet _ | exact lnSet2 _ | simp only [List.length_map, List.length_set, List.length_cons, List.length_nil]), (rok (treeM t85)), trivial⟩ (ih (a3.set (Int.toNat v5) (GOp.mk v4 (w64 (v4 + 1)) (w64 ((w64 (v4 + 1)) + 1)) (fOf (w64 ((w64 ((w64 (v4 + 1)) + 1)) + 1))))) (w64 ((w64 ((w64 ((w64 (v4 + 1)) + 1)) + 1)) + 1)) (w64 (v5 + 1)) _ h)
    · have h := Option.some.inj h
      subst h
      exact go_ret hΘ hm hP hn (hs := [⟨2, .no, some (I (a3.length : Int))⟩, ⟨4, .br false, none⟩]) (rh := []) (ph := .raw) (ps := [AV.lit (.int .i64 (((List.length (a3.map o85)) : Nat) : Int)) = (I (a3.length : Int)), (decide (v5 < (a3.length : Int))) = false, (a3.map o85) = (a3.map o85), treeLL (a3.map o85) = true, noRoLL (a3.map o85) = true, (I v4) = (I v4), litA (I v4) = true]) (by kernel_rfl) ⟨(lenM o85), c8, rfl, (treeM t85), (noRoM n85), rfl, rfl, trivial⟩
noncomputable def laws_markOpS (p1 : (List GOp)) (p2 : Int) : Option (Int × (List GOp)) :=
  laws_markOpS_l0 FU p1 p2 0
theorem laws_markOpS_m {p1 : (List GOp)} {p2 : Int} {r : (Int × (List GOp))} (h : laws_markOpS p1 p2 = some r) : MeetsR Try.prog 84 [⟨85, 4, (p1.map o85)⟩] [(AV.sl 0 0 (List.length (p1.map o85))), (I p2)] [true] [⟨85, 4, (r.2.map o85)⟩] (I r.1) := by
  refine meetsR_of Θ_ok Try.func84 rfl (c := body84) (by kernel_rfl) (Nat.le_of_ble_eq_true rfl) rfl (Nat.le_of_ble_eq_true rfl) rfl (fr := [0]) (frI rfl) ?_
  intro E hP hn hx
  replace hn : E.n = 42 := hn
  have hm : E.P.follows .mixedOrders = true := by rw [hP]; exact mixed
  have hΘ : TOK E.P Θ := by rw [hP]; exact Θ_ok
  unfold laws_markOpS at h
  show WAt E body84 (FQ (RetE Θ Try.f84.results.toList [true] [⟨85, 4, (r.2.map o85)⟩] (I r.1) E)) [] ⟨[(0, (AV.sl 0 0 (List.length (p1.map o85)))), (1, (I p2))], [(0, some ⟨85, 4, (p1.map o85)⟩)], [0, JJ]⟩
  exact go_to hΘ hm hx hP hn (hs := []) (π := [(0, 0)]) (ts := [0, 1, 5]) (kp := []) (ps := [RenOK [(0, 0)] (p1.map o85)]) (by kernel_rfl) ⟨(rok (treeM t85)), trivial⟩ (laws_markOpS_l0_m hP hn hx FU p1 p2 0 _ h)
end Go.Proofs.Ytgofeoobgpadiaa
