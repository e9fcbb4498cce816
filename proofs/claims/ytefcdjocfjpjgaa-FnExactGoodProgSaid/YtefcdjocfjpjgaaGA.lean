/- Functions as plain data, and that the code comes to them; no condition. -/

import Derived.Test.YtefcdjocfjpjgaaGT
set_option linter.unusedVariables false
set_option maxRecDepth 100000
namespace Go.Proofs.Ytefcdjocfjpjgaa
open Go Go.T
noncomputable def body66 : Code := match Try.f66.body with | some c => c | none => .skip
noncomputable def impl_in (p1 : Int) (p2 : Int) (p3 : Int) : Option Bool :=
  if (decide (p2 ≤ p1)) = true then
    some (decide (p1 ≤ p3))
  else
    some false
theorem impl_in_m {p1 : Int} {p2 : Int} {p3 : Int} {r : Bool} (h : impl_in p1 p2 p3 = some r) : Meets Try.prog 66 [(I p1), (I p2), (I p3)] (B r) := by
  refine meets_ofC Θ_ok Try.func66 rfl (c := body66) (by kernel_rfl) (Nat.le_of_ble_eq_true rfl) ?_
  intro E hP hn hx
  replace hn : E.n = 15 := hn
  have hm : E.P.follows .mixedOrders = true := by rw [hP]; exact mixed
  have hΘ : TOK E.P Θ := by rw [hP]; exact Θ_ok
  unfold impl_in at h
  show WAt E body66 (FQ (RetE Θ Try.f66.results.toList [] [] (B r) E)) [] ⟨[(0, (I p1)), (1, (I p2)), (2, (I p3))], [], [JJ]⟩
  rcases itS h with ⟨c4, h⟩ | ⟨c5, h⟩
  · have h := Option.some.inj h
    subst h
    exact go_ret hΘ hm hP hn (hs := [⟨4, .no, some (B true)⟩]) (rh := []) (ph := .raw) (ps := [(B (decide (p2 ≤ p1))) = (B true), (B (decide (p1 ≤ p3))) = (B (decide (p1 ≤ p3))), litA (B (decide (p1 ≤ p3))) = true]) (by kernel_rfl) ⟨(litB c4), rfl, rfl, trivial⟩
  · have h := Option.some.inj h
    subst h
    exact go_ret hΘ hm hP hn (hs := [⟨4, .no, some (B false)⟩]) (rh := []) (ph := .raw) (ps := [(B (decide (p2 ≤ p1))) = (B false), (B false) = (B false), litA (B false) = true]) (by kernel_rfl) ⟨(litB c5), rfl, rfl, trivial⟩
noncomputable def body114 : Code := match Try.f114.body with | some c => c | none => .skip
noncomputable def impl_Op_names_j0  (p1 : GOp) (v3 : Bool) : Option Int :=
  if v3 = true then
    some 1
  else
    if (p1.Code == 16) = true then
      some 2
    else
      some 0
theorem impl_Op_names_j0_m {E : Env} (hP : E.P = Try.prog) (hn : E.n = 16) (hx : ∀ p, p ∈ E.fx → p.1 ∈ ([] : List Nat)) (p1 : GOp)  (v3 : Bool) (r : Int) (h : impl_Op_names_j0 p1 v3 = some r) : WAt E body114 (FQ (RetE Θ Try.f114.results.toList [] [] (I r) E)) [true, false, true, false, true] ⟨[(4, (I p1.Code)), (5, (B v3))], [], [JJ]⟩ := by
  have hm : E.P.follows .mixedOrders = true := by rw [hP]; exact mixed
  have hΘ : TOK E.P Θ := by rw [hP]; exact Θ_ok
  unfold impl_Op_names_j0 at h
  rcases itS h with ⟨c4, h⟩ | ⟨c5, h⟩
  · have h := Option.some.inj h
    subst h
    exact go_ret hΘ hm hP hn (hs := [⟨0, .br true, none⟩]) (rh := []) (ph := .raw) (ps := [v3 = true, (I 1) = (I 1), litA (I 1) = true]) (by kernel_rfl) ⟨c4, rfl, rfl, trivial⟩
  · rcases itS h with ⟨c6, h⟩ | ⟨c7, h⟩
    · have h := Option.some.inj h
      subst h
      exact go_ret hΘ hm hP hn (hs := [⟨0, .br false, none⟩, ⟨3, .br true, none⟩]) (rh := []) (ph := .raw) (ps := [v3 = false, (p1.Code == 16) = true, (I 2) = (I 2), litA (I 2) = true]) (by kernel_rfl) ⟨c5, c6, rfl, rfl, trivial⟩
    · have h := Option.some.inj h
      subst h
      exact go_ret hΘ hm hP hn (hs := [⟨0, .br false, none⟩, ⟨3, .br false, none⟩]) (rh := []) (ph := .raw) (ps := [v3 = false, (p1.Code == 16) = false, (I 0) = (I 0), litA (I 0) = true]) (by kernel_rfl) ⟨c5, c7, rfl, rfl, trivial⟩
noncomputable def impl_Op_names (p1 : GOp) : Option Int :=
  if (p1.Code == 2) = true then
    impl_Op_names_j0 p1 (p1.Code == 2)
  else
    if (p1.Code == 3) = true then
      impl_Op_names_j0 p1 (p1.Code == 3)
    else
      if (p1.Code == 10) = true then
        impl_Op_names_j0 p1 (p1.Code == 10)
      else
        if (p1.Code == 11) = true then
          impl_Op_names_j0 p1 (p1.Code == 11)
        else
          if (p1.Code == 12) = true then
            impl_Op_names_j0 p1 (p1.Code == 12)
          else
            if (p1.Code == 13) = true then
              impl_Op_names_j0 p1 (p1.Code == 13)
            else
              if (p1.Code == 14) = true then
                impl_Op_names_j0 p1 (p1.Code == 14)
              else
                impl_Op_names_j0 p1 (p1.Code == 17)
theorem impl_Op_names_m {p1 : GOp} {r : Int} (h : impl_Op_names p1 = some r) : Meets Try.prog 114 [(AV.agg ((o93 p1)))] (I r) := by
  refine meets_ofC Θ_ok Try.func114 rfl (c := body114) (by kernel_rfl) (Nat.le_of_ble_eq_true rfl) ?_
  intro E hP hn hx
  replace hn : E.n = 16 := hn
  have hm : E.P.follows .mixedOrders = true := by rw [hP]; exact mixed
  have hΘ : TOK E.P Θ := by rw [hP]; exact Θ_ok
  unfold impl_Op_names at h
  show WAt E body114 (FQ (RetE Θ Try.f114.results.toList [] [] (I r) E)) [] ⟨[(0, (AV.agg ((o93 p1))))], [], [JJ]⟩
  rcases itS h with ⟨c2, h⟩ | ⟨c8, h⟩
  · exact go_to hΘ hm hx hP hn (hs := [⟨0, .new 1001, none⟩, ⟨6, .br true, none⟩]) (π := []) (ts := [4, 5]) (kp := []) (ps := [(p1.Code == 2) = true]) (by kernel_rfl) ⟨c2, trivial⟩ (impl_Op_names_j0_m hP hn hx p1 (p1.Code == 2) _ h)
  · rcases itS h with ⟨c9, h⟩ | ⟨c10, h⟩
    · exact go_to hΘ hm hx hP hn (hs := [⟨0, .new 1001, none⟩, ⟨6, .br false, none⟩, ⟨9, .br true, none⟩]) (π := []) (ts := [4, 5]) (kp := []) (ps := [(p1.Code == 2) = false, (p1.Code == 3) = true]) (by kernel_rfl) ⟨c8, c9, trivial⟩ (impl_Op_names_j0_m hP hn hx p1 (p1.Code == 3) _ h)
    · rcases itS h with ⟨c11, h⟩ | ⟨c12, h⟩
      · exact go_to hΘ hm hx hP hn (hs := [⟨0, .new 1001, none⟩, ⟨6, .br false, none⟩, ⟨9, .br false, none⟩, ⟨12, .br true, none⟩]) (π := []) (ts := [4, 5]) (kp := []) (ps := [(p1.Code == 2) = false, (p1.Code == 3) = false, (p1.Code == 10) = true]) (by kernel_rfl) ⟨c8, c10, c11, trivial⟩ (impl_Op_names_j0_m hP hn hx p1 (p1.Code == 10) _ h)
      · rcases itS h with ⟨c13, h⟩ | ⟨c14, h⟩
        · exact go_to hΘ hm hx hP hn (hs := [⟨0, .new 1001, none⟩, ⟨6, .br false, none⟩, ⟨9, .br false, none⟩, ⟨12, .br false, none⟩, ⟨15, .br true, none⟩]) (π := []) (ts := [4, 5]) (kp := []) (ps := [(p1.Code == 2) = false, (p1.Code == 3) = false, (p1.Code == 10) = false, (p1.Code == 11) = true]) (by kernel_rfl) ⟨c8, c10, c12, c13, trivial⟩ (impl_Op_names_j0_m hP hn hx p1 (p1.Code == 11) _ h)
        · rcases itS h with ⟨c15, h⟩ | ⟨c16, h⟩
          · exact go_to hΘ hm hx hP hn (hs := [⟨0, .new 1001, none⟩, ⟨6, .br false, none⟩, ⟨9, .br false, none⟩, ⟨12, .br false, none⟩, ⟨15, .br false, none⟩, ⟨18, .br true, none⟩]) (π := []) (ts := [4, 5]) (kp := []) (ps := [(p1.Code == 2) = false, (p1.Code == 3) = false, (p1.Code == 10) = false, (p1.Code == 11) = false, (p1.Code == 12) = true]) (by kernel_rfl) ⟨c8, c10, c12, c14, c15, trivial⟩ (impl_Op_names_j0_m hP hn hx p1 (p1.Code == 12) _ h)
          · rcases itS h with ⟨c17, h⟩ | ⟨c18, h⟩
            · exact go_to hΘ hm hx hP hn (hs := [⟨0, .new 1001, none⟩, ⟨6, .br false, none⟩, ⟨9, .br false, none⟩, ⟨12, .br false, none⟩, ⟨15, .br false, none⟩, ⟨18, .br false, none⟩, ⟨21, .br true, none⟩]) (π := []) (ts := [4, 5]) (kp := []) (ps := [(p1.Code == 2) = false, (p1.Code == 3) = false, (p1.Code == 10) = false, (p1.Code == 11) = false, (p1.Code == 12) = false, (p1.Code == 13) = true]) (by kernel_rfl) ⟨c8, c10, c12, c14, c16, c17, trivial⟩ (impl_Op_names_j0_m hP hn hx p1 (p1.Code == 13) _ h)
            · rcases itS h with ⟨c19, h⟩ | ⟨c20, h⟩
              · exact go_to hΘ hm hx hP hn (hs := [⟨0, .new 1001, none⟩, ⟨6, .br false, none⟩, ⟨9, .br false, none⟩, ⟨12, .br false, none⟩, ⟨15, .br false, none⟩, ⟨18, .br false, none⟩, ⟨21, .br false, none⟩, ⟨24, .br true, none⟩]) (π := []) (ts := [4, 5]) (kp := []) (ps := [(p1.Code == 2) = false, (p1.Code == 3) = false, (p1.Code == 10) = false, (p1.Code == 11) = false, (p1.Code == 12) = false, (p1.Code == 13) = false, (p1.Code == 14) = true]) (by kernel_rfl) ⟨c8, c10, c12, c14, c16, c18, c19, trivial⟩ (impl_Op_names_j0_m hP hn hx p1 (p1.Code == 14) _ h)
              · exact go_to hΘ hm hx hP hn (hs := [⟨0, .new 1001, none⟩, ⟨6, .br false, none⟩, ⟨9, .br false, none⟩, ⟨12, .br false, none⟩, ⟨15, .br false, none⟩, ⟨18, .br false, none⟩, ⟨21, .br false, none⟩, ⟨24, .br false, none⟩]) (π := []) (ts := [4, 5]) (kp := []) (ps := [(p1.Code == 2) = false, (p1.Code == 3) = false, (p1.Code == 10) = false, (p1.Code == 11) = false, (p1.Code == 12) = false, (p1.Code == 13) = false, (p1.Code == 14) = false]) (by kernel_rfl) ⟨c8, c10, c12, c14, c16, c18, c20, trivial⟩ (impl_Op_names_j0_m hP hn hx p1 (p1.Code == 17) _ h)
noncomputable def body118 : Code := match Try.f118.body with | some c => c | none => .skip
noncomputable def math_IsNaN (p1 : Nat) : Option Bool :=
  some ((fcmp p1 p1) != some .eq)
theorem math_IsNaN_m {p1 : Nat} {r : Bool} (h : math_IsNaN p1 = some r) : Meets Try.prog 118 [(FK p1)] (B r) := by
  refine meets_ofC Θ_ok Try.func118 rfl (c := body118) (by kernel_rfl) (Nat.le_of_ble_eq_true rfl) ?_
  intro E hP hn hx
  replace hn : E.n = 6 := hn
  have hm : E.P.follows .mixedOrders = true := by rw [hP]; exact mixed
  have hΘ : TOK E.P Θ := by rw [hP]; exact Θ_ok
  unfold math_IsNaN at h
  show WAt E body118 (FQ (RetE Θ Try.f118.results.toList [] [] (B r) E)) [] ⟨[(0, (FK p1))], [], [JJ]⟩
  have h := Option.some.inj h
  subst h
  exact go_ret hΘ hm hP hn (hs := [⟨3, .bin (B ((fcmp p1 p1) != some .eq)), none⟩]) (rh := []) (ph := .raw) (ps := [BinS Try.prog .neq 69 (FK p1) (FK p1) (B ((fcmp p1 p1) != some .eq)), (B ((fcmp p1 p1) != some .eq)) = (B ((fcmp p1 p1) != some .eq)), litA (B ((fcmp p1 p1) != some .eq)) = true]) (by kernel_rfl) ⟨fNeq, rfl, rfl, trivial⟩
noncomputable def body105 : Code := match Try.f105.body with | some c => c | none => .skip
noncomputable def impl_SameNum (p1 : Nat) (p2 : Nat) : Option Bool :=
  Option.bind (math_IsNaN p1) fun r3 =>
  if r3 = true then
    Option.bind (math_IsNaN p2) fun r5 =>
    if r5 = true then
      some true
    else
      some (((p1 : Nat) : Int) == ((p2 : Nat) : Int))
  else
    some (((p1 : Nat) : Int) == ((p2 : Nat) : Int))
theorem impl_SameNum_m {p1 : Nat} {p2 : Nat} {r : Bool} (h : impl_SameNum p1 p2 = some r) : Meets Try.prog 105 [(FK p1), (FK p2)] (B r) := by
  refine meets_ofC Θ_ok Try.func105 rfl (c := body105) (by kernel_rfl) (Nat.le_of_ble_eq_true rfl) ?_
  intro E hP hn hx
  replace hn : E.n = 18 := hn
  have hm : E.P.follows .mixedOrders = true := by rw [hP]; exact mixed
  have hΘ : TOK E.P Θ := by rw [hP]; exact Θ_ok
  unfold impl_SameNum at h
  show WAt E body105 (FQ (RetE Θ Try.f105.results.toList [] [] (B r) E)) [] ⟨[(0, (FK p1)), (1, (FK p2))], [], [JJ]⟩
  obtain ⟨r3, hr3, h⟩ := bnS h
  rcases itS h with ⟨c4, h⟩ | ⟨c8, h⟩
  · obtain ⟨r5, hr5, h⟩ := bnS h
    rcases itS h with ⟨c6, h⟩ | ⟨c7, h⟩
    · have h := Option.some.inj h
      subst h
      exact go_ret hΘ hm hP hn (hs := [⟨2, .callV [] (B r3), none⟩, ⟨3, .no, some (B true)⟩, ⟨5, .callV [] (B r5), none⟩, ⟨7, .no, some (B true)⟩]) (rh := []) (ph := .raw) (ps := [Meets Try.prog 118 [(FK p1)] (B r3), litA (B r3) = true, (B r3) = (B true), Meets Try.prog 118 [(FK p2)] (B r5), litA (B r5) = true, (B r5) = (B true), (B true) = (B true), litA (B true) = true]) (by kernel_rfl) ⟨(math_IsNaN_m hr3), rfl, (litB c4), (math_IsNaN_m hr5), rfl, (litB c6), rfl, rfl, trivial⟩
    · have h := Option.some.inj h
      subst h
      exact go_ret hΘ hm hP hn (hs := [⟨2, .callV [] (B r3), none⟩, ⟨3, .no, some (B true)⟩, ⟨5, .callV [] (B r5), none⟩, ⟨7, .no, some (B false)⟩, ⟨9, .xt (IK .u64 ((p1 : Nat) : Int)), none⟩, ⟨11, .xt (IK .u64 ((p2 : Nat) : Int)), none⟩]) (rh := []) (ph := .raw) (ps := [Meets Try.prog 118 [(FK p1)] (B r3), litA (B r3) = true, (B r3) = (B true), Meets Try.prog 118 [(FK p2)] (B r5), litA (B r5) = true, (B r5) = (B false), ExtS Try.prog 119 (FK p1) (IK .u64 ((p1 : Nat) : Int)), ExtS Try.prog 119 (FK p2) (IK .u64 ((p2 : Nat) : Int)), (B (((p1 : Nat) : Int) == ((p2 : Nat) : Int))) = (B (((p1 : Nat) : Int) == ((p2 : Nat) : Int))), litA (B (((p1 : Nat) : Int) == ((p2 : Nat) : Int))) = true]) (by kernel_rfl) ⟨(math_IsNaN_m hr3), rfl, (litB c4), (math_IsNaN_m hr5), rfl, (litB c7), (xBits Try.func119 (by kernel_rfl) (by kernel_rfl) (by kernel_rfl) (by kernel_rfl)), (xBits Try.func119 (by kernel_rfl) (by kernel_rfl) (by kernel_rfl) (by kernel_rfl)), rfl, rfl, trivial⟩
  · have h := Option.some.inj h
    subst h
    exact go_ret hΘ hm hP hn (hs := [⟨2, .callV [] (B r3), none⟩, ⟨3, .no, some (B false)⟩, ⟨9, .xt (IK .u64 ((p1 : Nat) : Int)), none⟩, ⟨11, .xt (IK .u64 ((p2 : Nat) : Int)), none⟩]) (rh := []) (ph := .raw) (ps := [Meets Try.prog 118 [(FK p1)] (B r3), litA (B r3) = true, (B r3) = (B false), ExtS Try.prog 119 (FK p1) (IK .u64 ((p1 : Nat) : Int)), ExtS Try.prog 119 (FK p2) (IK .u64 ((p2 : Nat) : Int)), (B (((p1 : Nat) : Int) == ((p2 : Nat) : Int))) = (B (((p1 : Nat) : Int) == ((p2 : Nat) : Int))), litA (B (((p1 : Nat) : Int) == ((p2 : Nat) : Int))) = true]) (by kernel_rfl) ⟨(math_IsNaN_m hr3), rfl, (litB c8), (xBits Try.func119 (by kernel_rfl) (by kernel_rfl) (by kernel_rfl) (by kernel_rfl)), (xBits Try.func119 (by kernel_rfl) (by kernel_rfl) (by kernel_rfl) (by kernel_rfl)), rfl, rfl, trivial⟩
noncomputable def body101 : Code := match Try.f101.body with | some c => c | none => .skip
noncomputable def impl_Op_fits (p1 : GOp) : Option Bool :=
  Option.bind (impl_Op_names p1) fun r2 =>
  Option.bind (impl_in p1.Code 1 17) fun r3 =>
  if r3 = true then
    if (decide (r2 > 0)) = true then
      if (decide (r2 > 1)) = true then
        if (p1.Code == 1) = true then
          some true
        else
          Option.bind (impl_SameNum p1.V 0) fun r9 =>
          some r9
      else
        if (p1.B == 0) = true then
          if (p1.Code == 1) = true then
            some true
          else
            Option.bind (impl_SameNum p1.V 0) fun r14 =>
            some r14
        else
          some false
    else
      if (p1.A == 0) = true then
        if (decide (r2 > 1)) = true then
          if (p1.Code == 1) = true then
            some true
          else
            Option.bind (impl_SameNum p1.V 0) fun r21 =>
            some r21
        else
          if (p1.B == 0) = true then
            if (p1.Code == 1) = true then
              some true
            else
              Option.bind (impl_SameNum p1.V 0) fun r26 =>
              some r26
          else
            some false
      else
        some false
  else
    some false
theorem impl_Op_fits_m {p1 : GOp} {r : Bool} (h : impl_Op_fits p1 = some r) : Meets Try.prog 101 [(AV.agg ((o93 p1)))] (B r) := by
  refine meets_ofC Θ_ok Try.func101 rfl (c := body101) (by kernel_rfl) (Nat.le_of_ble_eq_true rfl) ?_
  intro E hP hn hx
  replace hn : E.n = 37 := hn
  have hm : E.P.follows .mixedOrders = true := by rw [hP]; exact mixed
  have hΘ : TOK E.P Θ := by rw [hP]; exact Θ_ok
  unfold impl_Op_fits at h
  show WAt E body101 (FQ (RetE Θ Try.f101.results.toList [] [] (B r) E)) [] ⟨[(0, (AV.agg ((o93 p1))))], [], [JJ]⟩
  obtain ⟨r2, hr2, h⟩ := bnS h
  obtain ⟨r3, hr3, h⟩ := bnS h
  rcases itS h with ⟨c4, h⟩ | ⟨c29, h⟩
  · rcases itS h with ⟨c5, h⟩ | ⟨c16, h⟩
    · rcases itS h with ⟨c6, h⟩ | ⟨c10, h⟩
      · rcases itS h with ⟨c7, h⟩ | ⟨c8, h⟩
        · have h := Option.some.inj h
          subst h
          exact go_ret hΘ hm hP hn (hs := [⟨0, .new 1001, none⟩, ⟨3, .callV [[]] (I r2), none⟩, ⟨7, .callV [] (B r3), none⟩, ⟨8, .no, some (B true)⟩, ⟨11, .no, some (B true)⟩, ⟨20, .no, some (B true)⟩, ⟨30, .no, some (B true)⟩]) (rh := []) (ph := .raw) (ps := [Meets Try.prog 114 [(AV.agg ((o93 p1)))] (I r2), litA (I r2) = true, Meets Try.prog 66 [(I p1.Code), (I 1), (I 17)] (B r3), litA (B r3) = true, (B r3) = (B true), (B (decide (r2 > 0))) = (B true), (B (decide (r2 > 1))) = (B true), (B (p1.Code == 1)) = (B true), (B true) = (B true), litA (B true) = true]) (by kernel_rfl) ⟨(impl_Op_names_m hr2), rfl, (impl_in_m hr3), rfl, (litB c4), (litB c5), (litB c6), (litB c7), rfl, rfl, trivial⟩
        · obtain ⟨r9, hr9, h⟩ := bnS h
          have h := Option.some.inj h
          subst h
          exact go_ret hΘ hm hP hn (hs := [⟨0, .new 1001, none⟩, ⟨3, .callV [[]] (I r2), none⟩, ⟨7, .callV [] (B r3), none⟩, ⟨8, .no, some (B true)⟩, ⟨11, .no, some (B true)⟩, ⟨20, .no, some (B true)⟩, ⟨30, .no, some (B false)⟩, ⟨33, .callV [] (B r9), none⟩]) (rh := []) (ph := .raw) (ps := [Meets Try.prog 114 [(AV.agg ((o93 p1)))] (I r2), litA (I r2) = true, Meets Try.prog 66 [(I p1.Code), (I 1), (I 17)] (B r3), litA (B r3) = true, (B r3) = (B true), (B (decide (r2 > 0))) = (B true), (B (decide (r2 > 1))) = (B true), (B (p1.Code == 1)) = (B false), Meets Try.prog 105 [(FK p1.V), (FK 0)] (B r9), litA (B r9) = true, (B r9) = (B r9), litA (B r9) = true]) (by kernel_rfl) ⟨(impl_Op_names_m hr2), rfl, (impl_in_m hr3), rfl, (litB c4), (litB c5), (litB c6), (litB c8), (impl_SameNum_m hr9), rfl, rfl, rfl, trivial⟩
      · rcases itS h with ⟨c11, h⟩ | ⟨c15, h⟩
        · rcases itS h with ⟨c12, h⟩ | ⟨c13, h⟩
          · have h := Option.some.inj h
            subst h
            exact go_ret hΘ hm hP hn (hs := [⟨0, .new 1001, none⟩, ⟨3, .callV [[]] (I r2), none⟩, ⟨7, .callV [] (B r3), none⟩, ⟨8, .no, some (B true)⟩, ⟨11, .no, some (B true)⟩, ⟨20, .no, some (B false)⟩, ⟨26, .no, some (B true)⟩, ⟨30, .no, some (B true)⟩]) (rh := []) (ph := .raw) (ps := [Meets Try.prog 114 [(AV.agg ((o93 p1)))] (I r2), litA (I r2) = true, Meets Try.prog 66 [(I p1.Code), (I 1), (I 17)] (B r3), litA (B r3) = true, (B r3) = (B true), (B (decide (r2 > 0))) = (B true), (B (decide (r2 > 1))) = (B false), (B (p1.B == 0)) = (B true), (B (p1.Code == 1)) = (B true), (B true) = (B true), litA (B true) = true]) (by kernel_rfl) ⟨(impl_Op_names_m hr2), rfl, (impl_in_m hr3), rfl, (litB c4), (litB c5), (litB c10), (litB c11), (litB c12), rfl, rfl, trivial⟩
          · obtain ⟨r14, hr14, h⟩ := bnS h
            have h := Option.some.inj h
            subst h
            exact go_ret hΘ hm hP hn (hs := [⟨0, .new 1001, none⟩, ⟨3, .callV [[]] (I r2), none⟩, ⟨7, .callV [] (B r3), none⟩, ⟨8, .no, some (B true)⟩, ⟨11, .no, some (B true)⟩, ⟨20, .no, some (B false)⟩, ⟨26, .no, some (B true)⟩, ⟨30, .no, some (B false)⟩, ⟨33, .callV [] (B r14), none⟩]) (rh := []) (ph := .raw) (ps := [Meets Try.prog 114 [(AV.agg ((o93 p1)))] (I r2), litA (I r2) = true, Meets Try.prog 66 [(I p1.Code), (I 1), (I 17)] (B r3), litA (B r3) = true, (B r3) = (B true), (B (decide (r2 > 0))) = (B true), (B (decide (r2 > 1))) = (B false), (B (p1.B == 0)) = (B true), (B (p1.Code == 1)) = (B false), Meets Try.prog 105 [(FK p1.V), (FK 0)] (B r14), litA (B r14) = true, (B r14) = (B r14), litA (B r14) = true]) (by kernel_rfl) ⟨(impl_Op_names_m hr2), rfl, (impl_in_m hr3), rfl, (litB c4), (litB c5), (litB c10), (litB c11), (litB c13), (impl_SameNum_m hr14), rfl, rfl, rfl, trivial⟩
        · have h := Option.some.inj h
          subst h
          exact go_ret hΘ hm hP hn (hs := [⟨0, .new 1001, none⟩, ⟨3, .callV [[]] (I r2), none⟩, ⟨7, .callV [] (B r3), none⟩, ⟨8, .no, some (B true)⟩, ⟨11, .no, some (B true)⟩, ⟨20, .no, some (B false)⟩, ⟨26, .no, some (B false)⟩]) (rh := []) (ph := .raw) (ps := [Meets Try.prog 114 [(AV.agg ((o93 p1)))] (I r2), litA (I r2) = true, Meets Try.prog 66 [(I p1.Code), (I 1), (I 17)] (B r3), litA (B r3) = true, (B r3) = (B true), (B (decide (r2 > 0))) = (B true), (B (decide (r2 > 1))) = (B false), (B (p1.B == 0)) = (B false), (B false) = (B false), litA (B false) = true]) (by kernel_rfl) ⟨(impl_Op_names_m hr2), rfl, (impl_in_m hr3), rfl, (litB c4), (litB c5), (litB c10), (litB c15), rfl, rfl, trivial⟩
    · rcases itS h with ⟨c17, h⟩ | ⟨c28, h⟩
      · rcases itS h with ⟨c18, h⟩ | ⟨c22, h⟩
        · rcases itS h with ⟨c19, h⟩ | ⟨c20, h⟩
          · have h := Option.some.inj h
            subst h
            exact go_ret hΘ hm hP hn (hs := [⟨0, .new 1001, none⟩, ⟨3, .callV [[]] (I r2), none⟩, ⟨7, .callV [] (B r3), none⟩, ⟨8, .no, some (B true)⟩, ⟨11, .no, some (B false)⟩, ⟨17, .no, some (B true)⟩, ⟨20, .no, some (B true)⟩, ⟨30, .no, some (B true)⟩]) (rh := []) (ph := .raw) (ps := [Meets Try.prog 114 [(AV.agg ((o93 p1)))] (I r2), litA (I r2) = true, Meets Try.prog 66 [(I p1.Code), (I 1), (I 17)] (B r3), litA (B r3) = true, (B r3) = (B true), (B (decide (r2 > 0))) = (B false), (B (p1.A == 0)) = (B true), (B (decide (r2 > 1))) = (B true), (B (p1.Code == 1)) = (B true), (B true) = (B true), litA (B true) = true]) (by kernel_rfl) ⟨(impl_Op_names_m hr2), rfl, (impl_in_m hr3), rfl, (litB c4), (litB c16), (litB c17), (litB c18), (litB c19), rfl, rfl, trivial⟩
          · obtain ⟨r21, hr21, h⟩ := bnS h
            have h := Option.some.inj h
            subst h
            exact go_ret hΘ hm hP hn (hs := [⟨0, .new 1001, none⟩, ⟨3, .callV [[]] (I r2), none⟩, ⟨7, .callV [] (B r3), none⟩, ⟨8, .no, some (B true)⟩, ⟨11, .no, some (B false)⟩, ⟨17, .no, some (B true)⟩, ⟨20, .no, some (B true)⟩, ⟨30, .no, some (B false)⟩, ⟨33, .callV [] (B r21), none⟩]) (rh := []) (ph := .raw) (ps := [Meets Try.prog 114 [(AV.agg ((o93 p1)))] (I r2), litA (I r2) = true, Meets Try.prog 66 [(I p1.Code), (I 1), (I 17)] (B r3), litA (B r3) = true, (B r3) = (B true), (B (decide (r2 > 0))) = (B false), (B (p1.A == 0)) = (B true), (B (decide (r2 > 1))) = (B true), (B (p1.Code == 1)) = (B false), Meets Try.prog 105 [(FK p1.V), (FK 0)] (B r21), litA (B r21) = true, (B r21) = (B r21), litA (B r21) = true]) (by kernel_rfl) ⟨(impl_Op_names_m hr2), rfl, (impl_in_m hr3), rfl, (litB c4), (litB c16), (litB c17), (litB c18), (litB c20), (impl_SameNum_m hr21), rfl, rfl, rfl, trivial⟩
        · rcases itS h with ⟨c23, h⟩ | ⟨c27, h⟩
          · rcases itS h with ⟨c24, h⟩ | ⟨c25, h⟩
            · have h := Option.some.inj h
              subst h
              exact go_ret hΘ hm hP hn (hs := [⟨0, .new 1001, none⟩, ⟨3, .callV [[]] (I r2), none⟩, ⟨7, .callV [] (B r3), none⟩, ⟨8, .no, some (B true)⟩, ⟨11, .no, some (B false)⟩, ⟨17, .no, some (B true)⟩, ⟨20, .no, some (B false)⟩, ⟨26, .no, some (B true)⟩, ⟨30, .no, some (B true)⟩]) (rh := []) (ph := .raw) (ps := [Meets Try.prog 114 [(AV.agg ((o93 p1)))] (I r2), litA (I r2) = true, Meets Try.prog 66 [(I p1.Code), (I 1), (I 17)] (B r3), litA (B r3) = true, (B r3) = (B true), (B (decide (r2 > 0))) = (B false), (B (p1.A == 0)) = (B true), (B (decide (r2 > 1))) = (B false), (B (p1.B == 0)) = (B true), (B (p1.Code == 1)) = (B true), (B true) = (B true), litA (B true) = true]) (by kernel_rfl) ⟨(impl_Op_names_m hr2), rfl, (impl_in_m hr3), rfl, (litB c4), (litB c16), (litB c17), (litB c22), (litB c23), (litB c24), rfl, rfl, trivial⟩
            · obtain ⟨r26, hr26, h⟩ := bnS h
              have h := Option.some.inj h
              subst h
              exact go_ret hΘ hm hP hn (hs := [⟨0, .new 1001, none⟩, ⟨3, .callV [[]] (I r2), none⟩, ⟨7, .callV [] (B r3), none⟩, ⟨8, .no, some (B true)⟩, ⟨11, .no, some (B false)⟩, ⟨17, .no, some (B true)⟩, ⟨20, .no, some (B false)⟩, ⟨26, .no, some (B true)⟩, ⟨30, .no, some (B false)⟩, ⟨33, .callV [] (B r26), none⟩]) (rh := []) (ph := .raw) (ps := [Meets Try.prog 114 [(AV.agg ((o93 p1)))] (I r2), litA (I r2) = true, Meets Try.prog 66 [(I p1.Code), (I 1), (I 17)] (B r3), litA (B r3) = true, (B r3) = (B true), (B (decide (r2 > 0))) = (B false), (B (p1.A == 0)) = (B true), (B (decide (r2 > 1))) = (B false), (B (p1.B == 0)) = (B true), (B (p1.Code == 1)) = (B false), Meets Try.prog 105 [(FK p1.V), (FK 0)] (B r26), litA (B r26) = true, (B r26) = (B r26), litA (B r26) = true]) (by kernel_rfl) ⟨(impl_Op_names_m hr2), rfl, (impl_in_m hr3), rfl, (litB c4), (litB c16), (litB c17), (litB c22), (litB c23), (litB c25), (impl_SameNum_m hr26), rfl, rfl, rfl, trivial⟩
          · have h := Option.some.inj h
            subst h
            exact go_ret hΘ hm hP hn (hs := [⟨0, .new 1001, none⟩, ⟨3, .callV [[]] (I r2), none⟩, ⟨7, .callV [] (B r3), none⟩, ⟨8, .no, some (B true)⟩, ⟨11, .no, some (B false)⟩, ⟨17, .no, some (B true)⟩, ⟨20, .no, some (B false)⟩, ⟨26, .no, some (B false)⟩]) (rh := []) (ph := .raw) (ps := [Meets Try.prog 114 [(AV.agg ((o93 p1)))] (I r2), litA (I r2) = true, Meets Try.prog 66 [(I p1.Code), (I 1), (I 17)] (B r3), litA (B r3) = true, (B r3) = (B true), (B (decide (r2 > 0))) = (B false), (B (p1.A == 0)) = (B true), (B (decide (r2 > 1))) = (B false), (B (p1.B == 0)) = (B false), (B false) = (B false), litA (B false) = true]) (by kernel_rfl) ⟨(impl_Op_names_m hr2), rfl, (impl_in_m hr3), rfl, (litB c4), (litB c16), (litB c17), (litB c22), (litB c27), rfl, rfl, trivial⟩
      · have h := Option.some.inj h
        subst h
        exact go_ret hΘ hm hP hn (hs := [⟨0, .new 1001, none⟩, ⟨3, .callV [[]] (I r2), none⟩, ⟨7, .callV [] (B r3), none⟩, ⟨8, .no, some (B true)⟩, ⟨11, .no, some (B false)⟩, ⟨17, .no, some (B false)⟩]) (rh := []) (ph := .raw) (ps := [Meets Try.prog 114 [(AV.agg ((o93 p1)))] (I r2), litA (I r2) = true, Meets Try.prog 66 [(I p1.Code), (I 1), (I 17)] (B r3), litA (B r3) = true, (B r3) = (B true), (B (decide (r2 > 0))) = (B false), (B (p1.A == 0)) = (B false), (B false) = (B false), litA (B false) = true]) (by kernel_rfl) ⟨(impl_Op_names_m hr2), rfl, (impl_in_m hr3), rfl, (litB c4), (litB c16), (litB c28), rfl, rfl, trivial⟩
  · have h := Option.some.inj h
    subst h
    exact go_ret hΘ hm hP hn (hs := [⟨0, .new 1001, none⟩, ⟨3, .callV [[]] (I r2), none⟩, ⟨7, .callV [] (B r3), none⟩, ⟨8, .no, some (B false)⟩]) (rh := []) (ph := .raw) (ps := [Meets Try.prog 114 [(AV.agg ((o93 p1)))] (I r2), litA (I r2) = true, Meets Try.prog 66 [(I p1.Code), (I 1), (I 17)] (B r3), litA (B r3) = true, (B r3) = (B false), (B false) = (B false), litA (B false) = true]) (by kernel_rfl) ⟨(impl_Op_names_m hr2), rfl, (impl_in_m hr3), rfl, (litB c29), rfl, rfl, trivial⟩
noncomputable def body69 : Code := match Try.f69.body with | some c => c | none => .skip
noncomputable def impl_Prog_isGood_j2  (p1 : GProg) (p2 : GOp) (v18 : Bool) : Option Bool :=
  if v18 = true then
    Option.bind (impl_in p2.A 0 (w64 (p1.Locks - 1))) fun r20 =>
    some r20
  else
    if (p2.Code == 14) = true then
      Option.bind (impl_in p2.A 0 (w64 ((p1.Routines.length : Int) - 1))) fun r23 =>
      some r23
    else
      if (p2.Code == 16) = true then
        Option.bind (impl_in p2.A 0 (w64 (p1.Conds - 1))) fun r26 =>
        if r26 = true then
          Option.bind (impl_in p2.B 0 (w64 (p1.Locks - 1))) fun r28 =>
          some r28
        else
          some false
      else
        if (p2.Code == 17) = true then
          Option.bind (impl_in p2.A 0 (w64 (p1.Conds - 1))) fun r32 =>
          some r32
        else
          some true
theorem impl_Prog_isGood_j2_m {E : Env} (hP : E.P = Try.prog) (hn : E.n = 70) (hx : ∀ p, p ∈ E.fx → p.1 ∈ ([] : List Nat)) (p1 : GProg) (p2 : GOp)  (v18 : Bool) (r : Bool) (h : impl_Prog_isGood_j2 p1 p2 v18 = some r) : WAt E body69 (FQ (RetE Θ Try.f69.results.toList [] [] (B r) E)) [true, true, false, true, false, true, true, true, true, true] ⟨[(3, (AV.ptr 1 0 0)), (4, (AV.ptr 2 0 0)), (11, (I p2.Code)), (28, (B v18))], [(1, some ⟨61, 4, [((r61 p1))]⟩), (2, some ⟨93, 4, [((o93 p2))]⟩)], [1, 2, JJ]⟩ := by
  have hm : E.P.follows .mixedOrders = true := by rw [hP]; exact mixed
  have hΘ : TOK E.P Θ := by rw [hP]; exact Θ_ok
  unfold impl_Prog_isGood_j2 at h
  rcases itS h with ⟨c19, h⟩ | ⟨c21, h⟩
  · obtain ⟨r20, hr20, h⟩ := bnS h
    have h := Option.some.inj h
    subst h
    exact go_ret hΘ hm hP hn (hs := [⟨0, .br true, none⟩, ⟨6, .callV [] (B r20), none⟩]) (rh := []) (ph := .raw) (ps := [v18 = true, Meets Try.prog 66 [(I p2.A), (I 0), (I (w64 (p1.Locks - 1)))] (B r20), litA (B r20) = true, (B r20) = (B r20), litA (B r20) = true]) (by kernel_rfl) ⟨c19, (impl_in_m hr20), rfl, rfl, rfl, trivial⟩
  · rcases itS h with ⟨c22, h⟩ | ⟨c24, h⟩
    · obtain ⟨r23, hr23, h⟩ := bnS h
      have h := Option.some.inj h
      subst h
      exact go_ret hΘ hm hP hn (hs := [⟨0, .br false, none⟩, ⟨3, .br true, none⟩, ⟨8, .no, some (I (p1.Routines.length : Int))⟩, ⟨10, .callV [] (B r23), none⟩]) (rh := []) (ph := .raw) (ps := [v18 = false, (p2.Code == 14) = true, AV.lit (.int .i64 (((p1.Routines.map r91).length : Nat) : Int)) = (I (p1.Routines.length : Int)), Meets Try.prog 66 [(I p2.A), (I 0), (I (w64 ((p1.Routines.length : Int) - 1)))] (B r23), litA (B r23) = true, (B r23) = (B r23), litA (B r23) = true]) (by kernel_rfl) ⟨c21, c22, (lenM r91), (impl_in_m hr23), rfl, rfl, rfl, trivial⟩
    · rcases itS h with ⟨c25, h⟩ | ⟨c30, h⟩
      · obtain ⟨r26, hr26, h⟩ := bnS h
        rcases itS h with ⟨c27, h⟩ | ⟨c29, h⟩
        · obtain ⟨r28, hr28, h⟩ := bnS h
          have h := Option.some.inj h
          subst h
          exact go_ret hΘ hm hP hn (hs := [⟨0, .br false, none⟩, ⟨3, .br false, none⟩, ⟨6, .br true, none⟩, ⟨12, .callV [] (B r26), none⟩, ⟨13, .no, some (B true)⟩, ⟨19, .callV [] (B r28), none⟩]) (rh := []) (ph := .raw) (ps := [v18 = false, (p2.Code == 14) = false, (p2.Code == 16) = true, Meets Try.prog 66 [(I p2.A), (I 0), (I (w64 (p1.Conds - 1)))] (B r26), litA (B r26) = true, (B r26) = (B true), Meets Try.prog 66 [(I p2.B), (I 0), (I (w64 (p1.Locks - 1)))] (B r28), litA (B r28) = true, (B r28) = (B r28), litA (B r28) = true]) (by kernel_rfl) ⟨c21, c24, c25, (impl_in_m hr26), rfl, (litB c27), (impl_in_m hr28), rfl, rfl, rfl, trivial⟩
        · have h := Option.some.inj h
          subst h
          exact go_ret hΘ hm hP hn (hs := [⟨0, .br false, none⟩, ⟨3, .br false, none⟩, ⟨6, .br true, none⟩, ⟨12, .callV [] (B r26), none⟩, ⟨13, .no, some (B false)⟩]) (rh := []) (ph := .raw) (ps := [v18 = false, (p2.Code == 14) = false, (p2.Code == 16) = true, Meets Try.prog 66 [(I p2.A), (I 0), (I (w64 (p1.Conds - 1)))] (B r26), litA (B r26) = true, (B r26) = (B false), (B false) = (B false), litA (B false) = true]) (by kernel_rfl) ⟨c21, c24, c25, (impl_in_m hr26), rfl, (litB c29), rfl, rfl, trivial⟩
      · rcases itS h with ⟨c31, h⟩ | ⟨c33, h⟩
        · obtain ⟨r32, hr32, h⟩ := bnS h
          have h := Option.some.inj h
          subst h
          exact go_ret hΘ hm hP hn (hs := [⟨0, .br false, none⟩, ⟨3, .br false, none⟩, ⟨6, .br false, none⟩, ⟨9, .br true, none⟩, ⟨15, .callV [] (B r32), none⟩]) (rh := []) (ph := .raw) (ps := [v18 = false, (p2.Code == 14) = false, (p2.Code == 16) = false, (p2.Code == 17) = true, Meets Try.prog 66 [(I p2.A), (I 0), (I (w64 (p1.Conds - 1)))] (B r32), litA (B r32) = true, (B r32) = (B r32), litA (B r32) = true]) (by kernel_rfl) ⟨c21, c24, c30, c31, (impl_in_m hr32), rfl, rfl, rfl, trivial⟩
        · have h := Option.some.inj h
          subst h
          exact go_ret hΘ hm hP hn (hs := [⟨0, .br false, none⟩, ⟨3, .br false, none⟩, ⟨6, .br false, none⟩, ⟨9, .br false, none⟩]) (rh := []) (ph := .raw) (ps := [v18 = false, (p2.Code == 14) = false, (p2.Code == 16) = false, (p2.Code == 17) = false, (B true) = (B true), litA (B true) = true]) (by kernel_rfl) ⟨c21, c24, c30, c33, rfl, rfl, trivial⟩
noncomputable def impl_Prog_isGood_j1  (p1 : GProg) (p2 : GOp) (p3 : Int) (v13 : Bool) : Option Bool :=
  if v13 = true then
    Option.bind (impl_in p2.A 0 p3) fun r15 =>
    some r15
  else
    if (p2.Code == 12) = true then
      impl_Prog_isGood_j2 p1 p2 (p2.Code == 12)
    else
      impl_Prog_isGood_j2 p1 p2 (p2.Code == 13)
theorem impl_Prog_isGood_j1_m {E : Env} (hP : E.P = Try.prog) (hn : E.n = 70) (hx : ∀ p, p ∈ E.fx → p.1 ∈ ([] : List Nat)) (p1 : GProg) (p2 : GOp) (p3 : Int)  (v13 : Bool) (r : Bool) (h : impl_Prog_isGood_j1 p1 p2 p3 v13 = some r) : WAt E body69 (FQ (RetE Θ Try.f69.results.toList [] [] (B r) E)) [true, true, false, true, false, true, true, true] ⟨[(2, (I p3)), (3, (AV.ptr 1 0 0)), (4, (AV.ptr 2 0 0)), (11, (I p2.Code)), (21, (B v13))], [(1, some ⟨61, 4, [((r61 p1))]⟩), (2, some ⟨93, 4, [((o93 p2))]⟩)], [1, 2, JJ]⟩ := by
  have hm : E.P.follows .mixedOrders = true := by rw [hP]; exact mixed
  have hΘ : TOK E.P Θ := by rw [hP]; exact Θ_ok
  unfold impl_Prog_isGood_j1 at h
  rcases itS h with ⟨c14, h⟩ | ⟨c16, h⟩
  · obtain ⟨r15, hr15, h⟩ := bnS h
    have h := Option.some.inj h
    subst h
    exact go_ret hΘ hm hP hn (hs := [⟨0, .br true, none⟩, ⟨4, .callV [] (B r15), none⟩]) (rh := []) (ph := .raw) (ps := [v13 = true, Meets Try.prog 66 [(I p2.A), (I 0), (I p3)] (B r15), litA (B r15) = true, (B r15) = (B r15), litA (B r15) = true]) (by kernel_rfl) ⟨c14, (impl_in_m hr15), rfl, rfl, rfl, trivial⟩
  · rcases itS h with ⟨c17, h⟩ | ⟨c34, h⟩
    · exact go_to hΘ hm hx hP hn (hs := [⟨0, .br false, none⟩, ⟨3, .br true, none⟩]) (π := [(1, 1), (2, 2)]) (ts := [3, 4, 11, 28]) (kp := []) (ps := [v13 = false, (p2.Code == 12) = true, RenOK [(1, 1), (2, 2)] [((r61 p1))], RenOK [(1, 1), (2, 2)] [((o93 p2))]]) (by kernel_rfl) ⟨c16, c17, (rok (treeB t61 p1)), (rok rfl), trivial⟩ (impl_Prog_isGood_j2_m hP hn hx p1 p2 (p2.Code == 12) _ h)
    · exact go_to hΘ hm hx hP hn (hs := [⟨0, .br false, none⟩, ⟨3, .br false, none⟩]) (π := [(1, 1), (2, 2)]) (ts := [3, 4, 11, 28]) (kp := []) (ps := [v13 = false, (p2.Code == 12) = false, RenOK [(1, 1), (2, 2)] [((r61 p1))], RenOK [(1, 1), (2, 2)] [((o93 p2))]]) (by kernel_rfl) ⟨c16, c34, (rok (treeB t61 p1)), (rok rfl), trivial⟩ (impl_Prog_isGood_j2_m hP hn hx p1 p2 (p2.Code == 13) _ h)
noncomputable def impl_Prog_isGood_j0  (p1 : GProg) (p2 : GOp) (p3 : Int) (v8 : Bool) : Option Bool :=
  if v8 = true then
    Option.bind (impl_in p2.A 0 (w64 (p1.Cells - 1))) fun r10 =>
    some r10
  else
    if (p2.Code == 10) = true then
      impl_Prog_isGood_j1 p1 p2 p3 (p2.Code == 10)
    else
      impl_Prog_isGood_j1 p1 p2 p3 (p2.Code == 11)
theorem impl_Prog_isGood_j0_m {E : Env} (hP : E.P = Try.prog) (hn : E.n = 70) (hx : ∀ p, p ∈ E.fx → p.1 ∈ ([] : List Nat)) (p1 : GProg) (p2 : GOp) (p3 : Int)  (v8 : Bool) (r : Bool) (h : impl_Prog_isGood_j0 p1 p2 p3 v8 = some r) : WAt E body69 (FQ (RetE Θ Try.f69.results.toList [] [] (B r) E)) [true, true, false, true, false, true] ⟨[(2, (I p3)), (3, (AV.ptr 1 0 0)), (4, (AV.ptr 2 0 0)), (11, (I p2.Code)), (12, (B v8))], [(1, some ⟨61, 4, [((r61 p1))]⟩), (2, some ⟨93, 4, [((o93 p2))]⟩)], [1, 2, JJ]⟩ := by
  have hm : E.P.follows .mixedOrders = true := by rw [hP]; exact mixed
  have hΘ : TOK E.P Θ := by rw [hP]; exact Θ_ok
  unfold impl_Prog_isGood_j0 at h
  rcases itS h with ⟨c9, h⟩ | ⟨c11, h⟩
  · obtain ⟨r10, hr10, h⟩ := bnS h
    have h := Option.some.inj h
    subst h
    exact go_ret hΘ hm hP hn (hs := [⟨0, .br true, none⟩, ⟨6, .callV [] (B r10), none⟩]) (rh := []) (ph := .raw) (ps := [v8 = true, Meets Try.prog 66 [(I p2.A), (I 0), (I (w64 (p1.Cells - 1)))] (B r10), litA (B r10) = true, (B r10) = (B r10), litA (B r10) = true]) (by kernel_rfl) ⟨c9, (impl_in_m hr10), rfl, rfl, rfl, trivial⟩
  · rcases itS h with ⟨c12, h⟩ | ⟨c35, h⟩
    · exact go_to hΘ hm hx hP hn (hs := [⟨0, .br false, none⟩, ⟨3, .br true, none⟩]) (π := [(1, 1), (2, 2)]) (ts := [2, 3, 4, 11, 21]) (kp := []) (ps := [v8 = false, (p2.Code == 10) = true, RenOK [(1, 1), (2, 2)] [((r61 p1))], RenOK [(1, 1), (2, 2)] [((o93 p2))]]) (by kernel_rfl) ⟨c11, c12, (rok (treeB t61 p1)), (rok rfl), trivial⟩ (impl_Prog_isGood_j1_m hP hn hx p1 p2 p3 (p2.Code == 10) _ h)
    · exact go_to hΘ hm hx hP hn (hs := [⟨0, .br false, none⟩, ⟨3, .br false, none⟩]) (π := [(1, 1), (2, 2)]) (ts := [2, 3, 4, 11, 21]) (kp := []) (ps := [v8 = false, (p2.Code == 10) = false, RenOK [(1, 1), (2, 2)] [((r61 p1))], RenOK [(1, 1), (2, 2)] [((o93 p2))]]) (by kernel_rfl) ⟨c11, c35, (rok (treeB t61 p1)), (rok rfl), trivial⟩ (impl_Prog_isGood_j1_m hP hn hx p1 p2 p3 (p2.Code == 11) _ h)
noncomputable def impl_Prog_isGood (p1 : GProg) (p2 : GOp) (p3 : Int) : Option Bool :=
  Option.bind (impl_Op_fits p2) fun r4 =>
  if (!r4) = true then
    some false
  else
    if (p2.Code == 2) = true then
      impl_Prog_isGood_j0 p1 p2 p3 (p2.Code == 2)
    else
      impl_Prog_isGood_j0 p1 p2 p3 (p2.Code == 3)
theorem impl_Prog_isGood_m {p1 : GProg} {p2 : GOp} {p3 : Int} {r : Bool} (h : impl_Prog_isGood p1 p2 p3 = some r) : Meets Try.prog 69 [(AV.agg ((r61 p1))), (AV.agg ((o93 p2))), (I p3)] (B r) := by
  refine meets_ofC Θ_ok Try.func69 rfl (c := body69) (by kernel_rfl) (Nat.le_of_ble_eq_true rfl) ?_
  intro E hP hn hx
  replace hn : E.n = 70 := hn
  have hm : E.P.follows .mixedOrders = true := by rw [hP]; exact mixed
  have hΘ : TOK E.P Θ := by rw [hP]; exact Θ_ok
  unfold impl_Prog_isGood at h
  show WAt E body69 (FQ (RetE Θ Try.f69.results.toList [] [] (B r) E)) [] ⟨[(0, (AV.agg ((r61 p1)))), (1, (AV.agg ((o93 p2)))), (2, (I p3))], [], [JJ]⟩
  obtain ⟨r4, hr4, h⟩ := bnS h
  rcases itS h with ⟨c5, h⟩ | ⟨c6, h⟩
  · have h := Option.some.inj h
    subst h
    exact go_ret hΘ hm hP hn (hs := [⟨0, .new 1001, none⟩, ⟨1, .new 1002, none⟩, ⟨4, .callV [[]] (B r4), none⟩, ⟨6, .br true, none⟩]) (rh := []) (ph := .raw) (ps := [Meets Try.prog 101 [(AV.agg ((o93 p2)))] (B r4), litA (B r4) = true, (!r4) = true, (B false) = (B false), litA (B false) = true]) (by kernel_rfl) ⟨(impl_Op_fits_m hr4), rfl, c5, rfl, rfl, trivial⟩
  · rcases itS h with ⟨c7, h⟩ | ⟨c36, h⟩
    · exact go_to hΘ hm hx hP hn (hs := [⟨0, .new 1001, none⟩, ⟨1, .new 1002, none⟩, ⟨4, .callV [[]] (B r4), none⟩, ⟨6, .br false, none⟩, ⟨11, .br true, none⟩]) (π := [(1001, 1), (1002, 2)]) (ts := [2, 3, 4, 11, 12]) (kp := []) (ps := [Meets Try.prog 101 [(AV.agg ((o93 p2)))] (B r4), litA (B r4) = true, (!r4) = false, (p2.Code == 2) = true, RenOK [(1001, 1), (1002, 2)] [((r61 p1))], RenOK [(1001, 1), (1002, 2)] [((o93 p2))]]) (by kernel_rfl) ⟨(impl_Op_fits_m hr4), rfl, c6, c7, (rok (treeB t61 p1)), (rok rfl), trivial⟩ (impl_Prog_isGood_j0_m hP hn hx p1 p2 p3 (p2.Code == 2) _ h)
    · exact go_to hΘ hm hx hP hn (hs := [⟨0, .new 1001, none⟩, ⟨1, .new 1002, none⟩, ⟨4, .callV [[]] (B r4), none⟩, ⟨6, .br false, none⟩, ⟨11, .br false, none⟩]) (π := [(1001, 1), (1002, 2)]) (ts := [2, 3, 4, 11, 12]) (kp := []) (ps := [Meets Try.prog 101 [(AV.agg ((o93 p2)))] (B r4), litA (B r4) = true, (!r4) = false, (p2.Code == 2) = false, RenOK [(1001, 1), (1002, 2)] [((r61 p1))], RenOK [(1001, 1), (1002, 2)] [((o93 p2))]]) (by kernel_rfl) ⟨(impl_Op_fits_m hr4), rfl, c6, c36, (rok (treeB t61 p1)), (rok rfl), trivial⟩ (impl_Prog_isGood_j0_m hP hn hx p1 p2 p3 (p2.Code == 3) _ h)
noncomputable def body68 : Code := match Try.f68.body with | some c => c | none => .skip
noncomputable def impl_GoodProg_1 (p1 : GOp) (p2 : GProg) (p3 : (List GOp)) : Option Bool :=
  Option.bind (impl_Prog_isGood p2 p1 (p3.length : Int)) fun r4 =>
  some (!r4)
theorem impl_GoodProg_1_m {p1 : GOp} {p2 : GProg} {p3 : (List GOp)} {r : Bool} (h : impl_GoodProg_1 p1 p2 p3 = some r) : Meets Try.prog 68 [(AV.agg ((o93 p1))), (AV.rop (r61 p2) 0), (AV.rop (r91 p3) 0)] (B r) := by
  refine meets_ofC Θ_ok Try.func68 rfl (c := body68) (by kernel_rfl) (Nat.le_of_ble_eq_true rfl) ?_
  intro E hP hn hx
  replace hn : E.n = 11 := hn
  have hm : E.P.follows .mixedOrders = true := by rw [hP]; exact mixed
  have hΘ : TOK E.P Θ := by rw [hP]; exact Θ_ok
  unfold impl_GoodProg_1 at h
  show WAt E body68 (FQ (RetE Θ Try.f68.results.toList [] [] (B r) E)) [] ⟨[(0, (AV.agg ((o93 p1)))), (1, (AV.rop (r61 p2) 0)), (2, (AV.rop (r91 p3) 0))], [], [JJ]⟩
  obtain ⟨r4, hr4, h⟩ := bnS h
  have h := Option.some.inj h
  subst h
  exact go_ret hΘ hm hP hn (hs := [⟨0, .new 1001, none⟩, ⟨5, .no, some (I (p3.length : Int))⟩, ⟨6, .callV [[], []] (B r4), none⟩]) (rh := []) (ph := .raw) (ps := [AV.lit (.int .i64 (((p3.map o93).length : Nat) : Int)) = (I (p3.length : Int)), Meets Try.prog 69 [(AV.agg ((r61 p2))), (AV.agg ((o93 p1))), (I (p3.length : Int))] (B r4), litA (B r4) = true, (B (!r4)) = (B (!r4)), litA (B (!r4)) = true]) (by kernel_rfl) ⟨(lenM o93), (impl_Prog_isGood_m hr4), rfl, rfl, rfl, trivial⟩
noncomputable def body100 : Code := match Try.f100.body with | some c => c | none => .skip
noncomputable def slices_IndexFunc_Op_Op__impl_GoodProg_1_l0  (p1 : (List GOp)) (p2 : GProg) (p3 : (List GOp)) : Nat → Int → Option Int
  | 0, _ => none
  | n + 1, v4 =>
  if (decide (v4 < (p1.length : Int))) = true then
    Option.bind (rd p1 v4) fun x6 =>
    Option.bind (impl_GoodProg_1 x6 p2 p3) fun r7 =>
    if r7 = true then
      some v4
    else
      slices_IndexFunc_Op_Op__impl_GoodProg_1_l0 p1 p2 p3 n (w64 (v4 + 1))
  else
    some (-1)
theorem slices_IndexFunc_Op_Op__impl_GoodProg_1_l0_m {E : Env} (hP : E.P = Try.prog) (hn : E.n = 19) (hx : ∀ p, p ∈ E.fx → p.1 ∈ ([] : List Nat)) (p1 : (List GOp)) (p2 : GProg) (p3 : (List GOp))  : ∀ (n : Nat) (v4 : Int) (r : Int), slices_IndexFunc_Op_Op__impl_GoodProg_1_l0 p1 p2 p3 n v4 = some r → WAt E body100 (FQ (RetE Θ Try.f100.results.toList [] [] (I r) E)) [true, false, true, false] ⟨[(0, (AV.ro 4 (p1.map o93))), (1, (AV.fn 68 [(AV.rop (r61 p2) 0), (AV.rop (r91 p3) 0)])), (7, (I (p1.length : Int))), (8, (I v4))], [], [JJ]⟩ := by
  have hm : E.P.follows .mixedOrders = true := by rw [hP]; exact mixed
  have hΘ : TOK E.P Θ := by rw [hP]; exact Θ_ok
  intro n
  induction n with
  | zero => intro v4 r h; simp only [slices_IndexFunc_Op_Op__impl_GoodProg_1_l0] at h; cases h
  | succ n ih =>
    intro v4 r h
    simp only [slices_IndexFunc_Op_Op__impl_GoodProg_1_l0] at h
    rcases itS h with ⟨c5, h⟩ | ⟨c10, h⟩
    · obtain ⟨x6, hx6, h⟩ := bnS h
      obtain ⟨r7, hr7, h⟩ := bnS h
      rcases itS h with ⟨c8, h⟩ | ⟨c9, h⟩
      · have h := Option.some.inj h
        subst h
        exact go_ret hΘ hm hP hn (hs := [⟨1, .br true, none⟩, ⟨7, .row (o93 x6), none⟩, ⟨9, .callV [[]] (B r7), none⟩, ⟨10, .br true, none⟩]) (rh := []) (ph := .raw) (ps := [(decide (v4 < (p1.length : Int))) = true, (0 : Int) ≤ v4, (p1.map o93)[(Int.toNat v4)]? = some (o93 x6), Meets Try.prog 68 [(AV.agg ((o93 x6))), (AV.rop (r61 p2) 0), (AV.rop (r91 p3) 0)] (B r7), litA (B r7) = true, r7 = true, (I v4) = (I v4), litA (I v4) = true]) (by kernel_rfl) ⟨c5, (rd0 hx6), (rdM o93 hx6), (impl_GoodProg_1_m hr7), rfl, c8, rfl, rfl, trivial⟩
      · exact go_to hΘ hm hx hP hn (hs := [⟨1, .br true, none⟩, ⟨7, .row (o93 x6), none⟩, ⟨9, .callV [[]] (B r7), none⟩, ⟨10, .br false, none⟩]) (π := []) (ts := [0, 1, 7, 8]) (kp := []) (ps := [(decide (v4 < (p1.length : Int))) = true, (0 : Int) ≤ v4, (p1.map o93)[(Int.toNat v4)]? = some (o93 x6), Meets Try.prog 68 [(AV.agg ((o93 x6))), (AV.rop (r61 p2) 0), (AV.rop (r91 p3) 0)] (B r7), litA (B r7) = true, r7 = false]) (by kernel_rfl) ⟨c5, (rd0 hx6), (rdM o93 hx6), (impl_GoodProg_1_m hr7), rfl, c9, trivial⟩ (ih (w64 (v4 + 1)) _ h)
    · have h := Option.some.inj h
      subst h
      exact go_ret hΘ hm hP hn (hs := [⟨1, .br false, none⟩]) (rh := []) (ph := .raw) (ps := [(decide (v4 < (p1.length : Int))) = false, (I (-1)) = (I (-1)), litA (I (-1)) = true]) (by kernel_rfl) ⟨c10, rfl, rfl, trivial⟩
noncomputable def slices_IndexFunc_Op_Op__impl_GoodProg_1 (p1 : (List GOp)) (p2 : GProg) (p3 : (List GOp)) : Option Int :=
  slices_IndexFunc_Op_Op__impl_GoodProg_1_l0 p1 p2 p3 FU 0
theorem slices_IndexFunc_Op_Op__impl_GoodProg_1_m {p1 : (List GOp)} {p2 : GProg} {p3 : (List GOp)} {r : Int} (h : slices_IndexFunc_Op_Op__impl_GoodProg_1 p1 p2 p3 = some r) : Meets Try.prog 100 [(AV.ro 4 (p1.map o93)), (AV.fn 68 [(AV.rop (r61 p2) 0), (AV.rop (r91 p3) 0)])] (I r) := by
  refine meets_ofC Θ_ok Try.func100 rfl (c := body100) (by kernel_rfl) (Nat.le_of_ble_eq_true rfl) ?_
  intro E hP hn hx
  replace hn : E.n = 19 := hn
  have hm : E.P.follows .mixedOrders = true := by rw [hP]; exact mixed
  have hΘ : TOK E.P Θ := by rw [hP]; exact Θ_ok
  unfold slices_IndexFunc_Op_Op__impl_GoodProg_1 at h
  show WAt E body100 (FQ (RetE Θ Try.f100.results.toList [] [] (I r) E)) [] ⟨[(0, (AV.ro 4 (p1.map o93))), (1, (AV.fn 68 [(AV.rop (r61 p2) 0), (AV.rop (r91 p3) 0)]))], [], [JJ]⟩
  exact go_to hΘ hm hx hP hn (hs := [⟨2, .no, some (I (p1.length : Int))⟩]) (π := []) (ts := [0, 1, 7, 8]) (kp := []) (ps := [AV.lit (.int .i64 (((p1.map o93).length : Nat) : Int)) = (I (p1.length : Int))]) (by kernel_rfl) ⟨(lenM o93), trivial⟩ (slices_IndexFunc_Op_Op__impl_GoodProg_1_l0_m hP hn hx p1 p2 p3 FU 0 _ h)
noncomputable def body67 : Code := match Try.f67.body with | some c => c | none => .skip
noncomputable def slices_ContainsFunc_Op_Op__impl_GoodProg_1 (p1 : (List GOp)) (p2 : GProg) (p3 : (List GOp)) : Option Bool :=
  Option.bind (slices_IndexFunc_Op_Op__impl_GoodProg_1 p1 p2 p3) fun r4 =>
  some (decide (r4 ≥ 0))
theorem slices_ContainsFunc_Op_Op__impl_GoodProg_1_m {p1 : (List GOp)} {p2 : GProg} {p3 : (List GOp)} {r : Bool} (h : slices_ContainsFunc_Op_Op__impl_GoodProg_1 p1 p2 p3 = some r) : Meets Try.prog 67 [(AV.ro 4 (p1.map o93)), (AV.fn 68 [(AV.rop (r61 p2) 0), (AV.rop (r91 p3) 0)])] (B r) := by
  refine meets_ofC Θ_ok Try.func67 rfl (c := body67) (by kernel_rfl) (Nat.le_of_ble_eq_true rfl) ?_
  intro E hP hn hx
  replace hn : E.n = 9 := hn
  have hm : E.P.follows .mixedOrders = true := by rw [hP]; exact mixed
  have hΘ : TOK E.P Θ := by rw [hP]; exact Θ_ok
  unfold slices_ContainsFunc_Op_Op__impl_GoodProg_1 at h
  show WAt E body67 (FQ (RetE Θ Try.f67.results.toList [] [] (B r) E)) [] ⟨[(0, (AV.ro 4 (p1.map o93))), (1, (AV.fn 68 [(AV.rop (r61 p2) 0), (AV.rop (r91 p3) 0)]))], [], [JJ]⟩
  obtain ⟨r4, hr4, h⟩ := bnS h
  have h := Option.some.inj h
  subst h
  exact go_ret hΘ hm hP hn (hs := [⟨3, .callV [] (I r4), none⟩]) (rh := []) (ph := .raw) (ps := [Meets Try.prog 100 [(AV.ro 4 (p1.map o93)), (AV.fn 68 [(AV.rop (r61 p2) 0), (AV.rop (r91 p3) 0)])] (I r4), litA (I r4) = true, (B (decide (r4 ≥ 0))) = (B (decide (r4 ≥ 0))), litA (B (decide (r4 ≥ 0))) = true]) (by kernel_rfl) ⟨(slices_IndexFunc_Op_Op__impl_GoodProg_1_m hr4), rfl, rfl, rfl, trivial⟩
noncomputable def body38 : Code := match Try.f38.body with | some c => c | none => .skip
noncomputable def impl_GoodProg_l0  (p1 : GProg) : Nat → GProg → Int → Option Bool
  | 0, _, _ => none
  | n + 1, a14, v15 =>
  if (decide (v15 < (p1.Routines.length : Int))) = true then
    Option.bind (rd p1.Routines v15) fun x17 =>
    if (decide ((x17.length : Int) > 24)) = true then
      some false
    else
      Option.bind (slices_ContainsFunc_Op_Op__impl_GoodProg_1 x17 a14 x17) fun r20 =>
      if r20 = true then
        some false
      else
        impl_GoodProg_l0 p1 n a14 (w64 (v15 + 1))
  else
    some true
theorem impl_GoodProg_l0_m {E : Env} (hP : E.P = Try.prog) (hn : E.n = 44) (hx : ∀ p, p ∈ E.fx → p.1 ∈ ([] : List Nat)) (p1 : GProg)  : ∀ (n : Nat) (a14 : GProg) (v15 : Int) (r : Bool), impl_GoodProg_l0 p1 n a14 v15 = some r → WAt E body38 (FQ (RetE Θ Try.f38.results.toList [] [] (B r) E)) [true, true, false, true, false] ⟨[(1, (AV.ptr 1 0 0)), (29, (AV.ro 1 (p1.Routines.map r91))), (30, (I (p1.Routines.length : Int))), (31, (I v15))], [(1, some ⟨61, 4, [((r61 a14))]⟩)], [1, JJ]⟩ := by
  have hm : E.P.follows .mixedOrders = true := by rw [hP]; exact mixed
  have hΘ : TOK E.P Θ := by rw [hP]; exact Θ_ok
  intro n
  induction n with
  | zero => intro a14 v15 r h; simp only [impl_GoodProg_l0] at h; cases h
  | succ n ih =>
    intro a14 v15 r h
    simp only [impl_GoodProg_l0] at h
    rcases itS h with ⟨c16, h⟩ | ⟨c23, h⟩
    · obtain ⟨x17, hx17, h⟩ := bnS h
      rcases itS h with ⟨c18, h⟩ | ⟨c19, h⟩
      · have h := Option.some.inj h
        subst h
        exact go_ret hΘ hm hP hn (hs := [⟨1, .br true, none⟩, ⟨2, .row (r91 x17), none⟩, ⟨4, .new 1001, none⟩, ⟨7, .no, some (I (x17.length : Int))⟩, ⟨9, .no, some (B true)⟩]) (rh := []) (ph := .raw) (ps := [(decide (v15 < (p1.Routines.length : Int))) = true, (0 : Int) ≤ v15, (p1.Routines.map r91)[(Int.toNat v15)]? = some (r91 x17), AV.lit (.int .i64 (((x17.map o93).length : Nat) : Int)) = (I (x17.length : Int)), (B (decide ((x17.length : Int) > 24))) = (B true), (B false) = (B false), litA (B false) = true]) (by kernel_rfl) ⟨c16, (rd0 hx17), (rdM r91 hx17), (lenM o93), (litB c18), rfl, rfl, trivial⟩
      · obtain ⟨r20, hr20, h⟩ := bnS h
        rcases itS h with ⟨c21, h⟩ | ⟨c22, h⟩
        · have h := Option.some.inj h
          subst h
          exact go_ret hΘ hm hP hn (hs := [⟨1, .br true, none⟩, ⟨2, .row (r91 x17), none⟩, ⟨4, .new 1001, none⟩, ⟨7, .no, some (I (x17.length : Int))⟩, ⟨9, .no, some (B false)⟩, ⟨12, .callV [[((r61 a14)), (r61 a14)], [[(AV.ro 4 (x17.map o93))], (r91 x17)]] (B r20), none⟩, ⟨14, .br true, none⟩]) (rh := []) (ph := .raw) (ps := [(decide (v15 < (p1.Routines.length : Int))) = true, (0 : Int) ≤ v15, (p1.Routines.map r91)[(Int.toNat v15)]? = some (r91 x17), AV.lit (.int .i64 (((x17.map o93).length : Nat) : Int)) = (I (x17.length : Int)), (B (decide ((x17.length : Int) > 24))) = (B false), Meets Try.prog 67 [(AV.ro 4 (x17.map o93)), (AV.fn 68 [(AV.rop (r61 a14) 0), (AV.rop (r91 x17) 0)])] (B r20), litA (B r20) = true, [((r61 a14))][0]? = some ((r61 a14)), treeL ((r61 a14)) = true, frzL ((r61 a14)) = (r61 a14), [[(AV.ro 4 (x17.map o93))]][0]? = some [(AV.ro 4 (x17.map o93))], treeL [(AV.ro 4 (x17.map o93))] = true, frzL [(AV.ro 4 (x17.map o93))] = (r91 x17), r20 = true, (B false) = (B false), litA (B false) = true]) (by kernel_rfl) ⟨c16, (rd0 hx17), (rdM r91 hx17), (lenM o93), (litB c19), (slices_ContainsFunc_Op_Op__impl_GoodProg_1_m hr20), rfl, rfl, rfl, rfl, rfl, rfl, rfl, c21, rfl, rfl, trivial⟩
        · exact go_to hΘ hm hx hP hn (hs := [⟨1, .br true, none⟩, ⟨2, .row (r91 x17), none⟩, ⟨4, .new 1001, none⟩, ⟨7, .no, some (I (x17.length : Int))⟩, ⟨9, .no, some (B false)⟩, ⟨12, .callV [[((r61 a14)), (r61 a14)], [[(AV.ro 4 (x17.map o93))], (r91 x17)]] (B r20), none⟩, ⟨14, .br false, none⟩]) (π := [(1, 1)]) (ts := [1, 29, 30, 31]) (kp := []) (ps := [(decide (v15 < (p1.Routines.length : Int))) = true, (0 : Int) ≤ v15, (p1.Routines.map r91)[(Int.toNat v15)]? = some (r91 x17), AV.lit (.int .i64 (((x17.map o93).length : Nat) : Int)) = (I (x17.length : Int)), (B (decide ((x17.length : Int) > 24))) = (B false), Meets Try.prog 67 [(AV.ro 4 (x17.map o93)), (AV.fn 68 [(AV.rop (r61 a14) 0), (AV.rop (r91 x17) 0)])] (B r20), litA (B r20) = true, [((r61 a14))][0]? = some ((r61 a14)), treeL ((r61 a14)) = true, frzL ((r61 a14)) = (r61 a14), [[(AV.ro 4 (x17.map o93))]][0]? = some [(AV.ro 4 (x17.map o93))], treeL [(AV.ro 4 (x17.map o93))] = true, frzL [(AV.ro 4 (x17.map o93))] = (r91 x17), r20 = false, RenOK [(1, 1)] [((r61 a14))]]) (by kernel_rfl) ⟨c16, (rd0 hx17), (rdM r91 hx17), (lenM o93), (litB c19), (slices_ContainsFunc_Op_Op__impl_GoodProg_1_m hr20), rfl, rfl, rfl, rfl, rfl, rfl, rfl, c22, (rok (treeB t61 a14)), trivial⟩ (ih a14 (w64 (v15 + 1)) _ h)
    · have h := Option.some.inj h
      subst h
      exact go_ret hΘ hm hP hn (hs := [⟨1, .br false, none⟩]) (rh := []) (ph := .raw) (ps := [(decide (v15 < (p1.Routines.length : Int))) = false, (B true) = (B true), litA (B true) = true]) (by kernel_rfl) ⟨c23, rfl, rfl, trivial⟩
noncomputable def impl_GoodProg (p1 : GProg) : Option Bool :=
  Option.bind (impl_in p1.Cells 0 4) fun r2 =>
  if (!r2) = true then
    some false
  else
    Option.bind (impl_in p1.Locks 0 4) fun r5 =>
    if (!r5) = true then
      some false
    else
      Option.bind (impl_in p1.Conds 0 2) fun r8 =>
      if (!r8) = true then
        some false
      else
        Option.bind (impl_in (p1.Routines.length : Int) 1 4) fun r11 =>
        if (!r11) = true then
          some false
        else
          impl_GoodProg_l0 p1 FU p1 0
theorem impl_GoodProg_m {p1 : GProg} {r : Bool} (h : impl_GoodProg p1 = some r) : Meets Try.prog 38 [(AV.agg ((r61 p1)))] (B r) := by
  refine meets_ofC Θ_ok Try.func38 rfl (c := body38) (by kernel_rfl) (Nat.le_of_ble_eq_true rfl) ?_
  intro E hP hn hx
  replace hn : E.n = 44 := hn
  have hm : E.P.follows .mixedOrders = true := by rw [hP]; exact mixed
  have hΘ : TOK E.P Θ := by rw [hP]; exact Θ_ok
  unfold impl_GoodProg at h
  show WAt E body38 (FQ (RetE Θ Try.f38.results.toList [] [] (B r) E)) [] ⟨[(0, (AV.agg ((r61 p1))))], [], [JJ]⟩
  obtain ⟨r2, hr2, h⟩ := bnS h
  rcases itS h with ⟨c3, h⟩ | ⟨c4, h⟩
  · have h := Option.some.inj h
    subst h
    exact go_ret hΘ hm hP hn (hs := [⟨0, .new 1001, none⟩, ⟨4, .callV [] (B r2), none⟩, ⟨6, .no, some (B true)⟩]) (rh := []) (ph := .raw) (ps := [Meets Try.prog 66 [(I p1.Cells), (I 0), (I 4)] (B r2), litA (B r2) = true, (B (!r2)) = (B true), (B false) = (B false), litA (B false) = true]) (by kernel_rfl) ⟨(impl_in_m hr2), rfl, (litB c3), rfl, rfl, trivial⟩
  · obtain ⟨r5, hr5, h⟩ := bnS h
    rcases itS h with ⟨c6, h⟩ | ⟨c7, h⟩
    · have h := Option.some.inj h
      subst h
      exact go_ret hΘ hm hP hn (hs := [⟨0, .new 1001, none⟩, ⟨4, .callV [] (B r2), none⟩, ⟨6, .no, some (B false)⟩, ⟨9, .callV [] (B r5), none⟩, ⟨12, .no, some (B true)⟩]) (rh := []) (ph := .raw) (ps := [Meets Try.prog 66 [(I p1.Cells), (I 0), (I 4)] (B r2), litA (B r2) = true, (B (!r2)) = (B false), Meets Try.prog 66 [(I p1.Locks), (I 0), (I 4)] (B r5), litA (B r5) = true, (B (!r5)) = (B true), (B false) = (B false), litA (B false) = true]) (by kernel_rfl) ⟨(impl_in_m hr2), rfl, (litB c4), (impl_in_m hr5), rfl, (litB c6), rfl, rfl, trivial⟩
    · obtain ⟨r8, hr8, h⟩ := bnS h
      rcases itS h with ⟨c9, h⟩ | ⟨c10, h⟩
      · have h := Option.some.inj h
        subst h
        exact go_ret hΘ hm hP hn (hs := [⟨0, .new 1001, none⟩, ⟨4, .callV [] (B r2), none⟩, ⟨6, .no, some (B false)⟩, ⟨9, .callV [] (B r5), none⟩, ⟨12, .no, some (B false)⟩, ⟨15, .callV [] (B r8), none⟩, ⟨18, .no, some (B true)⟩]) (rh := []) (ph := .raw) (ps := [Meets Try.prog 66 [(I p1.Cells), (I 0), (I 4)] (B r2), litA (B r2) = true, (B (!r2)) = (B false), Meets Try.prog 66 [(I p1.Locks), (I 0), (I 4)] (B r5), litA (B r5) = true, (B (!r5)) = (B false), Meets Try.prog 66 [(I p1.Conds), (I 0), (I 2)] (B r8), litA (B r8) = true, (B (!r8)) = (B true), (B false) = (B false), litA (B false) = true]) (by kernel_rfl) ⟨(impl_in_m hr2), rfl, (litB c4), (impl_in_m hr5), rfl, (litB c7), (impl_in_m hr8), rfl, (litB c9), rfl, rfl, trivial⟩
      · obtain ⟨r11, hr11, h⟩ := bnS h
        rcases itS h with ⟨c12, h⟩ | ⟨c13, h⟩
        · have h := Option.some.inj h
          subst h
          exact go_ret hΘ hm hP hn (hs := [⟨0, .new 1001, none⟩, ⟨4, .callV [] (B r2), none⟩, ⟨6, .no, some (B false)⟩, ⟨9, .callV [] (B r5), none⟩, ⟨12, .no, some (B false)⟩, ⟨15, .callV [] (B r8), none⟩, ⟨18, .no, some (B false)⟩, ⟨21, .no, some (I (p1.Routines.length : Int))⟩, ⟨22, .callV [] (B r11), none⟩, ⟨25, .br true, none⟩]) (rh := []) (ph := .raw) (ps := [Meets Try.prog 66 [(I p1.Cells), (I 0), (I 4)] (B r2), litA (B r2) = true, (B (!r2)) = (B false), Meets Try.prog 66 [(I p1.Locks), (I 0), (I 4)] (B r5), litA (B r5) = true, (B (!r5)) = (B false), Meets Try.prog 66 [(I p1.Conds), (I 0), (I 2)] (B r8), litA (B r8) = true, (B (!r8)) = (B false), AV.lit (.int .i64 (((p1.Routines.map r91).length : Nat) : Int)) = (I (p1.Routines.length : Int)), Meets Try.prog 66 [(I (p1.Routines.length : Int)), (I 1), (I 4)] (B r11), litA (B r11) = true, (!r11) = true, (B false) = (B false), litA (B false) = true]) (by kernel_rfl) ⟨(impl_in_m hr2), rfl, (litB c4), (impl_in_m hr5), rfl, (litB c7), (impl_in_m hr8), rfl, (litB c10), (lenM r91), (impl_in_m hr11), rfl, c12, rfl, rfl, trivial⟩
        · exact go_to hΘ hm hx hP hn (hs := [⟨0, .new 1001, none⟩, ⟨4, .callV [] (B r2), none⟩, ⟨6, .no, some (B false)⟩, ⟨9, .callV [] (B r5), none⟩, ⟨12, .no, some (B false)⟩, ⟨15, .callV [] (B r8), none⟩, ⟨18, .no, some (B false)⟩, ⟨21, .no, some (I (p1.Routines.length : Int))⟩, ⟨22, .callV [] (B r11), none⟩, ⟨25, .br false, none⟩, ⟨28, .no, some (I (p1.Routines.length : Int))⟩]) (π := [(1001, 1)]) (ts := [1, 29, 30, 31]) (kp := []) (ps := [Meets Try.prog 66 [(I p1.Cells), (I 0), (I 4)] (B r2), litA (B r2) = true, (B (!r2)) = (B false), Meets Try.prog 66 [(I p1.Locks), (I 0), (I 4)] (B r5), litA (B r5) = true, (B (!r5)) = (B false), Meets Try.prog 66 [(I p1.Conds), (I 0), (I 2)] (B r8), litA (B r8) = true, (B (!r8)) = (B false), AV.lit (.int .i64 (((p1.Routines.map r91).length : Nat) : Int)) = (I (p1.Routines.length : Int)), Meets Try.prog 66 [(I (p1.Routines.length : Int)), (I 1), (I 4)] (B r11), litA (B r11) = true, (!r11) = false, AV.lit (.int .i64 (((p1.Routines.map r91).length : Nat) : Int)) = (I (p1.Routines.length : Int)), RenOK [(1001, 1)] [((r61 p1))]]) (by kernel_rfl) ⟨(impl_in_m hr2), rfl, (litB c4), (impl_in_m hr5), rfl, (litB c7), (impl_in_m hr8), rfl, (litB c10), (lenM r91), (impl_in_m hr11), rfl, c13, (lenM r91), (rok (treeB t61 p1)), trivial⟩ (impl_GoodProg_l0_m hP hn hx p1 FU p1 0 _ h)
noncomputable def body106 : Code := match Try.f106.body with | some c => c | none => .skip
noncomputable def laws_sameFloat_j0  (p1 : Nat) (p2 : Nat)  : Option Bool :=
  if ((fcmp p1 0) == some .eq) = true then
    if ((fcmp p2 0) == some .eq) = true then
      Option.bind (fdv 4607182418800017408 p1) fun x13 =>
      Option.bind (fdv 4607182418800017408 p2) fun x14 =>
      some (((fcmp x13 0) == some .gt) == ((fcmp x14 0) == some .gt))
    else
      some ((fcmp p1 p2) == some .eq)
  else
    some ((fcmp p1 p2) == some .eq)
theorem laws_sameFloat_j0_m {E : Env} (hP : E.P = Try.prog) (hn : E.n = 37) (hx : ∀ p, p ∈ E.fx → p.1 ∈ ([] : List Nat)) (p1 : Nat) (p2 : Nat)   (r : Bool) (h : laws_sameFloat_j0 p1 p2  = some r) : WAt E body106 (FQ (RetE Θ Try.f106.results.toList [] [] (B r) E)) [true, false, true, true] ⟨[(0, (FK p1)), (1, (FK p2))], [], [JJ]⟩ := by
  have hm : E.P.follows .mixedOrders = true := by rw [hP]; exact mixed
  have hΘ : TOK E.P Θ := by rw [hP]; exact Θ_ok
  unfold laws_sameFloat_j0 at h
  rcases itS h with ⟨c11, h⟩ | ⟨c16, h⟩
  · rcases itS h with ⟨c12, h⟩ | ⟨c15, h⟩
    · obtain ⟨x13, hx13, h⟩ := bnS h
      obtain ⟨x14, hx14, h⟩ := bnS h
      have h := Option.some.inj h
      subst h
      exact go_ret hΘ hm hP hn (hs := [⟨1, .bin (B ((fcmp p1 0) == some .eq)), none⟩, ⟨2, .no, some (B true)⟩, ⟨4, .bin (B ((fcmp p2 0) == some .eq)), none⟩, ⟨6, .br true, none⟩, ⟨8, .bin (FK x13), none⟩, ⟨9, .bin (B ((fcmp x13 0) == some .gt)), none⟩, ⟨11, .bin (FK x14), none⟩, ⟨12, .bin (B ((fcmp x14 0) == some .gt)), none⟩]) (rh := []) (ph := .raw) (ps := [BinS Try.prog .eql 69 (FK p1) (FK 0) (B ((fcmp p1 0) == some .eq)), (B ((fcmp p1 0) == some .eq)) = (B true), BinS Try.prog .eql 69 (FK p2) (FK 0) (B ((fcmp p2 0) == some .eq)), ((fcmp p2 0) == some .eq) = true, BinS Try.prog .quo 69 (FK 4607182418800017408) (FK p1) (FK x13), BinS Try.prog .gtr 69 (FK x13) (FK 0) (B ((fcmp x13 0) == some .gt)), BinS Try.prog .quo 69 (FK 4607182418800017408) (FK p2) (FK x14), BinS Try.prog .gtr 69 (FK x14) (FK 0) (B ((fcmp x14 0) == some .gt)), (B (((fcmp x13 0) == some .gt) == ((fcmp x14 0) == some .gt))) = (B (((fcmp x13 0) == some .gt) == ((fcmp x14 0) == some .gt))), litA (B (((fcmp x13 0) == some .gt) == ((fcmp x14 0) == some .gt))) = true]) (by kernel_rfl) ⟨fEql, (litB c11), fEql, c12, (fQuo hx13), fGtr, (fQuo hx14), fGtr, rfl, rfl, trivial⟩
    · have h := Option.some.inj h
      subst h
      exact go_ret hΘ hm hP hn (hs := [⟨1, .bin (B ((fcmp p1 0) == some .eq)), none⟩, ⟨2, .no, some (B true)⟩, ⟨4, .bin (B ((fcmp p2 0) == some .eq)), none⟩, ⟨6, .br false, none⟩, ⟨9, .bin (B ((fcmp p1 p2) == some .eq)), none⟩]) (rh := []) (ph := .raw) (ps := [BinS Try.prog .eql 69 (FK p1) (FK 0) (B ((fcmp p1 0) == some .eq)), (B ((fcmp p1 0) == some .eq)) = (B true), BinS Try.prog .eql 69 (FK p2) (FK 0) (B ((fcmp p2 0) == some .eq)), ((fcmp p2 0) == some .eq) = false, BinS Try.prog .eql 69 (FK p1) (FK p2) (B ((fcmp p1 p2) == some .eq)), (B ((fcmp p1 p2) == some .eq)) = (B ((fcmp p1 p2) == some .eq)), litA (B ((fcmp p1 p2) == some .eq)) = true]) (by kernel_rfl) ⟨fEql, (litB c11), fEql, c15, fEql, rfl, rfl, trivial⟩
  · have h := Option.some.inj h
    subst h
    exact go_ret hΘ hm hP hn (hs := [⟨1, .bin (B ((fcmp p1 0) == some .eq)), none⟩, ⟨2, .no, some (B false)⟩, ⟨9, .bin (B ((fcmp p1 p2) == some .eq)), none⟩]) (rh := []) (ph := .raw) (ps := [BinS Try.prog .eql 69 (FK p1) (FK 0) (B ((fcmp p1 0) == some .eq)), (B ((fcmp p1 0) == some .eq)) = (B false), BinS Try.prog .eql 69 (FK p1) (FK p2) (B ((fcmp p1 p2) == some .eq)), (B ((fcmp p1 p2) == some .eq)) = (B ((fcmp p1 p2) == some .eq)), litA (B ((fcmp p1 p2) == some .eq)) = true]) (by kernel_rfl) ⟨fEql, (litB c16), fEql, rfl, rfl, trivial⟩
noncomputable def laws_sameFloat (p1 : Nat) (p2 : Nat) : Option Bool :=
  if ((fcmp p1 p1) != some .eq) = true then
    if ((fcmp p1 p1) != some .eq) = true then
      some ((fcmp p2 p2) != some .eq)
    else
      some false
  else
    if ((fcmp p2 p2) != some .eq) = true then
      if ((fcmp p1 p1) != some .eq) = true then
        some ((fcmp p2 p2) != some .eq)
      else
        some false
    else
      laws_sameFloat_j0 p1 p2
theorem laws_sameFloat_m {p1 : Nat} {p2 : Nat} {r : Bool} (h : laws_sameFloat p1 p2 = some r) : Meets Try.prog 106 [(FK p1), (FK p2)] (B r) := by
  refine meets_ofC Θ_ok Try.func106 rfl (c := body106) (by kernel_rfl) (Nat.le_of_ble_eq_true rfl) ?_
  intro E hP hn hx
  replace hn : E.n = 37 := hn
  have hm : E.P.follows .mixedOrders = true := by rw [hP]; exact mixed
  have hΘ : TOK E.P Θ := by rw [hP]; exact Θ_ok
  unfold laws_sameFloat at h
  show WAt E body106 (FQ (RetE Θ Try.f106.results.toList [] [] (B r) E)) [] ⟨[(0, (FK p1)), (1, (FK p2))], [], [JJ]⟩
  rcases itS h with ⟨c3, h⟩ | ⟨c6, h⟩
  · rcases itS h with ⟨c4, h⟩ | ⟨c5, h⟩
    · have h := Option.some.inj h
      subst h
      exact go_ret hΘ hm hP hn (hs := [⟨3, .bin (B ((fcmp p1 p1) != some .eq)), none⟩, ⟨4, .no, some (B true)⟩, ⟨12, .bin (B ((fcmp p1 p1) != some .eq)), none⟩, ⟨13, .no, some (B true)⟩, ⟨16, .bin (B ((fcmp p2 p2) != some .eq)), none⟩]) (rh := []) (ph := .raw) (ps := [BinS Try.prog .neq 69 (FK p1) (FK p1) (B ((fcmp p1 p1) != some .eq)), (B ((fcmp p1 p1) != some .eq)) = (B true), BinS Try.prog .neq 69 (FK p1) (FK p1) (B ((fcmp p1 p1) != some .eq)), (B ((fcmp p1 p1) != some .eq)) = (B true), BinS Try.prog .neq 69 (FK p2) (FK p2) (B ((fcmp p2 p2) != some .eq)), (B ((fcmp p2 p2) != some .eq)) = (B ((fcmp p2 p2) != some .eq)), litA (B ((fcmp p2 p2) != some .eq)) = true]) (by kernel_rfl) ⟨fNeq, (litB c3), fNeq, (litB c4), fNeq, rfl, rfl, trivial⟩
    · have h := Option.some.inj h
      subst h
      exact go_ret hΘ hm hP hn (hs := [⟨3, .bin (B ((fcmp p1 p1) != some .eq)), none⟩, ⟨4, .no, some (B true)⟩, ⟨12, .bin (B ((fcmp p1 p1) != some .eq)), none⟩, ⟨13, .no, some (B false)⟩]) (rh := []) (ph := .raw) (ps := [BinS Try.prog .neq 69 (FK p1) (FK p1) (B ((fcmp p1 p1) != some .eq)), (B ((fcmp p1 p1) != some .eq)) = (B true), BinS Try.prog .neq 69 (FK p1) (FK p1) (B ((fcmp p1 p1) != some .eq)), (B ((fcmp p1 p1) != some .eq)) = (B false), (B false) = (B false), litA (B false) = true]) (by kernel_rfl) ⟨fNeq, (litB c3), fNeq, (litB c5), rfl, rfl, trivial⟩
  · rcases itS h with ⟨c7, h⟩ | ⟨c10, h⟩
    · rcases itS h with ⟨c8, h⟩ | ⟨c9, h⟩
      · have h := Option.some.inj h
        subst h
        exact go_ret hΘ hm hP hn (hs := [⟨3, .bin (B ((fcmp p1 p1) != some .eq)), none⟩, ⟨4, .no, some (B false)⟩, ⟨7, .bin (B ((fcmp p2 p2) != some .eq)), none⟩, ⟨9, .br true, none⟩, ⟨12, .bin (B ((fcmp p1 p1) != some .eq)), none⟩, ⟨13, .no, some (B true)⟩, ⟨16, .bin (B ((fcmp p2 p2) != some .eq)), none⟩]) (rh := []) (ph := .raw) (ps := [BinS Try.prog .neq 69 (FK p1) (FK p1) (B ((fcmp p1 p1) != some .eq)), (B ((fcmp p1 p1) != some .eq)) = (B false), BinS Try.prog .neq 69 (FK p2) (FK p2) (B ((fcmp p2 p2) != some .eq)), ((fcmp p2 p2) != some .eq) = true, BinS Try.prog .neq 69 (FK p1) (FK p1) (B ((fcmp p1 p1) != some .eq)), (B ((fcmp p1 p1) != some .eq)) = (B true), BinS Try.prog .neq 69 (FK p2) (FK p2) (B ((fcmp p2 p2) != some .eq)), (B ((fcmp p2 p2) != some .eq)) = (B ((fcmp p2 p2) != some .eq)), litA (B ((fcmp p2 p2) != some .eq)) = true]) (by kernel_rfl) ⟨fNeq, (litB c6), fNeq, c7, fNeq, (litB c8), fNeq, rfl, rfl, trivial⟩
      · have h := Option.some.inj h
        subst h
        exact go_ret hΘ hm hP hn (hs := [⟨3, .bin (B ((fcmp p1 p1) != some .eq)), none⟩, ⟨4, .no, some (B false)⟩, ⟨7, .bin (B ((fcmp p2 p2) != some .eq)), none⟩, ⟨9, .br true, none⟩, ⟨12, .bin (B ((fcmp p1 p1) != some .eq)), none⟩, ⟨13, .no, some (B false)⟩]) (rh := []) (ph := .raw) (ps := [BinS Try.prog .neq 69 (FK p1) (FK p1) (B ((fcmp p1 p1) != some .eq)), (B ((fcmp p1 p1) != some .eq)) = (B false), BinS Try.prog .neq 69 (FK p2) (FK p2) (B ((fcmp p2 p2) != some .eq)), ((fcmp p2 p2) != some .eq) = true, BinS Try.prog .neq 69 (FK p1) (FK p1) (B ((fcmp p1 p1) != some .eq)), (B ((fcmp p1 p1) != some .eq)) = (B false), (B false) = (B false), litA (B false) = true]) (by kernel_rfl) ⟨fNeq, (litB c6), fNeq, c7, fNeq, (litB c9), rfl, rfl, trivial⟩
    · exact go_to hΘ hm hx hP hn (hs := [⟨3, .bin (B ((fcmp p1 p1) != some .eq)), none⟩, ⟨4, .no, some (B false)⟩, ⟨7, .bin (B ((fcmp p2 p2) != some .eq)), none⟩, ⟨9, .br false, none⟩]) (π := []) (ts := [0, 1]) (kp := []) (ps := [BinS Try.prog .neq 69 (FK p1) (FK p1) (B ((fcmp p1 p1) != some .eq)), (B ((fcmp p1 p1) != some .eq)) = (B false), BinS Try.prog .neq 69 (FK p2) (FK p2) (B ((fcmp p2 p2) != some .eq)), ((fcmp p2 p2) != some .eq) = false]) (by kernel_rfl) ⟨fNeq, (litB c6), fNeq, c10, trivial⟩ (laws_sameFloat_j0_m hP hn hx p1 p2  _ h)
noncomputable def body115 : Code := match Try.f115.body with | some c => c | none => .skip
noncomputable def laws_eqOp (p1 : GOp) (p2 : GOp) : Option Bool :=
  if (p1.Code != p2.Code) = true then
    some false
  else
    if (p1.A != p2.A) = true then
      some false
    else
      if (p1.B != p2.B) = true then
        some false
      else
        Option.bind (laws_sameFloat p1.V p2.V) fun r9 =>
        if (!r9) = true then
          some false
        else
          some true
theorem laws_eqOp_m {p1 : GOp} {p2 : GOp} {r : Bool} (h : laws_eqOp p1 p2 = some r) : Meets Try.prog 115 [(AV.agg ((o93 p1))), (AV.agg ((o93 p2)))] (B r) := by
  refine meets_ofC Θ_ok Try.func115 rfl (c := body115) (by kernel_rfl) (Nat.le_of_ble_eq_true rfl) ?_
  intro E hP hn hx
  replace hn : E.n = 26 := hn
  have hm : E.P.follows .mixedOrders = true := by rw [hP]; exact mixed
  have hΘ : TOK E.P Θ := by rw [hP]; exact Θ_ok
  unfold laws_eqOp at h
  show WAt E body115 (FQ (RetE Θ Try.f115.results.toList [] [] (B r) E)) [] ⟨[(0, (AV.agg ((o93 p1)))), (1, (AV.agg ((o93 p2))))], [], [JJ]⟩
  rcases itS h with ⟨c3, h⟩ | ⟨c4, h⟩
  · have h := Option.some.inj h
    subst h
    exact go_ret hΘ hm hP hn (hs := [⟨0, .new 1001, none⟩, ⟨1, .new 1002, none⟩, ⟨8, .br true, none⟩]) (rh := []) (ph := .raw) (ps := [(p1.Code != p2.Code) = true, (B false) = (B false), litA (B false) = true]) (by kernel_rfl) ⟨c3, rfl, rfl, trivial⟩
  · rcases itS h with ⟨c5, h⟩ | ⟨c6, h⟩
    · have h := Option.some.inj h
      subst h
      exact go_ret hΘ hm hP hn (hs := [⟨0, .new 1001, none⟩, ⟨1, .new 1002, none⟩, ⟨8, .br false, none⟩, ⟨14, .br true, none⟩]) (rh := []) (ph := .raw) (ps := [(p1.Code != p2.Code) = false, (p1.A != p2.A) = true, (B false) = (B false), litA (B false) = true]) (by kernel_rfl) ⟨c4, c5, rfl, rfl, trivial⟩
    · rcases itS h with ⟨c7, h⟩ | ⟨c8, h⟩
      · have h := Option.some.inj h
        subst h
        exact go_ret hΘ hm hP hn (hs := [⟨0, .new 1001, none⟩, ⟨1, .new 1002, none⟩, ⟨8, .br false, none⟩, ⟨14, .br false, none⟩, ⟨20, .br true, none⟩]) (rh := []) (ph := .raw) (ps := [(p1.Code != p2.Code) = false, (p1.A != p2.A) = false, (p1.B != p2.B) = true, (B false) = (B false), litA (B false) = true]) (by kernel_rfl) ⟨c4, c6, c7, rfl, rfl, trivial⟩
      · obtain ⟨r9, hr9, h⟩ := bnS h
        rcases itS h with ⟨c10, h⟩ | ⟨c11, h⟩
        · have h := Option.some.inj h
          subst h
          exact go_ret hΘ hm hP hn (hs := [⟨0, .new 1001, none⟩, ⟨1, .new 1002, none⟩, ⟨8, .br false, none⟩, ⟨14, .br false, none⟩, ⟨20, .br false, none⟩, ⟨25, .callV [] (B r9), none⟩, ⟨27, .br true, none⟩]) (rh := []) (ph := .raw) (ps := [(p1.Code != p2.Code) = false, (p1.A != p2.A) = false, (p1.B != p2.B) = false, Meets Try.prog 106 [(FK p1.V), (FK p2.V)] (B r9), litA (B r9) = true, (!r9) = true, (B false) = (B false), litA (B false) = true]) (by kernel_rfl) ⟨c4, c6, c8, (laws_sameFloat_m hr9), rfl, c10, rfl, rfl, trivial⟩
        · have h := Option.some.inj h
          subst h
          exact go_ret hΘ hm hP hn (hs := [⟨0, .new 1001, none⟩, ⟨1, .new 1002, none⟩, ⟨8, .br false, none⟩, ⟨14, .br false, none⟩, ⟨20, .br false, none⟩, ⟨25, .callV [] (B r9), none⟩, ⟨27, .br false, none⟩]) (rh := []) (ph := .raw) (ps := [(p1.Code != p2.Code) = false, (p1.A != p2.A) = false, (p1.B != p2.B) = false, Meets Try.prog 106 [(FK p1.V), (FK p2.V)] (B r9), litA (B r9) = true, (!r9) = false, (B true) = (B true), litA (B true) = true]) (by kernel_rfl) ⟨c4, c6, c8, (laws_sameFloat_m hr9), rfl, c11, rfl, rfl, trivial⟩
noncomputable def body102 : Code := match Try.f102.body with | some c => c | none => .skip
noncomputable def laws_eqOpS_l0  (p1 : (List GOp)) (p2 : (List GOp)) : Nat → Int → Option Bool
  | 0, _ => none
  | n + 1, v5 =>
  if (decide (v5 < (p1.length : Int))) = true then
    Option.bind (rd p1 v5) fun x7 =>
    Option.bind (rd p2 v5) fun x8 =>
    Option.bind (laws_eqOp x7 x8) fun r9 =>
    if (!r9) = true then
      some false
    else
      laws_eqOpS_l0 p1 p2 n (w64 (v5 + 1))
  else
    some true
theorem laws_eqOpS_l0_m {E : Env} (hP : E.P = Try.prog) (hn : E.n = 27) (hx : ∀ p, p ∈ E.fx → p.1 ∈ ([] : List Nat)) (p1 : (List GOp)) (p2 : (List GOp))  : ∀ (n : Nat) (v5 : Int) (r : Bool), laws_eqOpS_l0 p1 p2 n v5 = some r → WAt E body102 (FQ (RetE Θ Try.f102.results.toList [] [] (B r) E)) [true, true, false, true, false] ⟨[(0, (AV.ro 4 (p1.map o93))), (1, (AV.ro 4 (p2.map o93))), (5, (I v5))], [], [JJ]⟩ := by
  have hm : E.P.follows .mixedOrders = true := by rw [hP]; exact mixed
  have hΘ : TOK E.P Θ := by rw [hP]; exact Θ_ok
  intro n
  induction n with
  | zero => intro v5 r h; simp only [laws_eqOpS_l0] at h; cases h
  | succ n ih =>
    intro v5 r h
    simp only [laws_eqOpS_l0] at h
    rcases itS h with ⟨c6, h⟩ | ⟨c12, h⟩
    · obtain ⟨x7, hx7, h⟩ := bnS h
      obtain ⟨x8, hx8, h⟩ := bnS h
      obtain ⟨r9, hr9, h⟩ := bnS h
      rcases itS h with ⟨c10, h⟩ | ⟨c11, h⟩
      · have h := Option.some.inj h
        subst h
        exact go_ret hΘ hm hP hn (hs := [⟨2, .no, some (I (p1.length : Int))⟩, ⟨4, .br true, none⟩, ⟨7, .row (o93 x7), none⟩, ⟨11, .row (o93 x8), none⟩, ⟨13, .callV [[], []] (B r9), none⟩, ⟨15, .br true, none⟩]) (rh := []) (ph := .raw) (ps := [AV.lit (.int .i64 (((p1.map o93).length : Nat) : Int)) = (I (p1.length : Int)), (decide (v5 < (p1.length : Int))) = true, (0 : Int) ≤ v5, (p1.map o93)[(Int.toNat v5)]? = some (o93 x7), (0 : Int) ≤ v5, (p2.map o93)[(Int.toNat v5)]? = some (o93 x8), Meets Try.prog 115 [(AV.agg ((o93 x7))), (AV.agg ((o93 x8)))] (B r9), litA (B r9) = true, (!r9) = true, (B false) = (B false), litA (B false) = true]) (by kernel_rfl) ⟨(lenM o93), c6, (rd0 hx7), (rdM o93 hx7), (rd0 hx8), (rdM o93 hx8), (laws_eqOp_m hr9), rfl, c10, rfl, rfl, trivial⟩
      · exact go_to hΘ hm hx hP hn (hs := [⟨2, .no, some (I (p1.length : Int))⟩, ⟨4, .br true, none⟩, ⟨7, .row (o93 x7), none⟩, ⟨11, .row (o93 x8), none⟩, ⟨13, .callV [[], []] (B r9), none⟩, ⟨15, .br false, none⟩]) (π := []) (ts := [0, 1, 5]) (kp := []) (ps := [AV.lit (.int .i64 (((p1.map o93).length : Nat) : Int)) = (I (p1.length : Int)), (decide (v5 < (p1.length : Int))) = true, (0 : Int) ≤ v5, (p1.map o93)[(Int.toNat v5)]? = some (o93 x7), (0 : Int) ≤ v5, (p2.map o93)[(Int.toNat v5)]? = some (o93 x8), Meets Try.prog 115 [(AV.agg ((o93 x7))), (AV.agg ((o93 x8)))] (B r9), litA (B r9) = true, (!r9) = false]) (by kernel_rfl) ⟨(lenM o93), c6, (rd0 hx7), (rdM o93 hx7), (rd0 hx8), (rdM o93 hx8), (laws_eqOp_m hr9), rfl, c11, trivial⟩ (ih (w64 (v5 + 1)) _ h)
    · have h := Option.some.inj h
      subst h
      exact go_ret hΘ hm hP hn (hs := [⟨2, .no, some (I (p1.length : Int))⟩, ⟨4, .br false, none⟩]) (rh := []) (ph := .raw) (ps := [AV.lit (.int .i64 (((p1.map o93).length : Nat) : Int)) = (I (p1.length : Int)), (decide (v5 < (p1.length : Int))) = false, (B true) = (B true), litA (B true) = true]) (by kernel_rfl) ⟨(lenM o93), c12, rfl, rfl, trivial⟩
noncomputable def laws_eqOpS (p1 : (List GOp)) (p2 : (List GOp)) : Option Bool :=
  if ((p1.length : Int) != (p2.length : Int)) = true then
    some false
  else
    laws_eqOpS_l0 p1 p2 FU 0
theorem laws_eqOpS_m {p1 : (List GOp)} {p2 : (List GOp)} {r : Bool} (h : laws_eqOpS p1 p2 = some r) : Meets Try.prog 102 [(AV.ro 4 (p1.map o93)), (AV.ro 4 (p2.map o93))] (B r) := by
  refine meets_ofC Θ_ok Try.func102 rfl (c := body102) (by kernel_rfl) (Nat.le_of_ble_eq_true rfl) ?_
  intro E hP hn hx
  replace hn : E.n = 27 := hn
  have hm : E.P.follows .mixedOrders = true := by rw [hP]; exact mixed
  have hΘ : TOK E.P Θ := by rw [hP]; exact Θ_ok
  unfold laws_eqOpS at h
  show WAt E body102 (FQ (RetE Θ Try.f102.results.toList [] [] (B r) E)) [] ⟨[(0, (AV.ro 4 (p1.map o93))), (1, (AV.ro 4 (p2.map o93)))], [], [JJ]⟩
  rcases itS h with ⟨c3, h⟩ | ⟨c4, h⟩
  · have h := Option.some.inj h
    subst h
    exact go_ret hΘ hm hP hn (hs := [⟨2, .no, some (I (p1.length : Int))⟩, ⟨4, .no, some (I (p2.length : Int))⟩, ⟨6, .br true, none⟩]) (rh := []) (ph := .raw) (ps := [AV.lit (.int .i64 (((p1.map o93).length : Nat) : Int)) = (I (p1.length : Int)), AV.lit (.int .i64 (((p2.map o93).length : Nat) : Int)) = (I (p2.length : Int)), ((p1.length : Int) != (p2.length : Int)) = true, (B false) = (B false), litA (B false) = true]) (by kernel_rfl) ⟨(lenM o93), (lenM o93), c3, rfl, rfl, trivial⟩
  · exact go_to hΘ hm hx hP hn (hs := [⟨2, .no, some (I (p1.length : Int))⟩, ⟨4, .no, some (I (p2.length : Int))⟩, ⟨6, .br false, none⟩]) (π := []) (ts := [0, 1, 5]) (kp := []) (ps := [AV.lit (.int .i64 (((p1.map o93).length : Nat) : Int)) = (I (p1.length : Int)), AV.lit (.int .i64 (((p2.map o93).length : Nat) : Int)) = (I (p2.length : Int)), ((p1.length : Int) != (p2.length : Int)) = false]) (by kernel_rfl) ⟨(lenM o93), (lenM o93), c4, trivial⟩ (laws_eqOpS_l0_m hP hn hx p1 p2 FU 0 _ h)
noncomputable def body70 : Code := match Try.f70.body with | some c => c | none => .skip
noncomputable def laws_eqOpSS_l0  (p1 : (List (List GOp))) (p2 : (List (List GOp))) : Nat → Int → Option Bool
  | 0, _ => none
  | n + 1, v5 =>
  if (decide (v5 < (p1.length : Int))) = true then
    Option.bind (rd p1 v5) fun x7 =>
    Option.bind (rd p2 v5) fun x8 =>
    Option.bind (laws_eqOpS x7 x8) fun r9 =>
    if (!r9) = true then
      some false
    else
      laws_eqOpSS_l0 p1 p2 n (w64 (v5 + 1))
  else
    some true
theorem laws_eqOpSS_l0_m {E : Env} (hP : E.P = Try.prog) (hn : E.n = 27) (hx : ∀ p, p ∈ E.fx → p.1 ∈ ([] : List Nat)) (p1 : (List (List GOp))) (p2 : (List (List GOp)))  : ∀ (n : Nat) (v5 : Int) (r : Bool), laws_eqOpSS_l0 p1 p2 n v5 = some r → WAt E body70 (FQ (RetE Θ Try.f70.results.toList [] [] (B r) E)) [true, true, false, true, false] ⟨[(0, (AV.ro 1 (p1.map r91))), (1, (AV.ro 1 (p2.map r91))), (5, (I v5))], [], [JJ]⟩ := by
  have hm : E.P.follows .mixedOrders = true := by rw [hP]; exact mixed
  have hΘ : TOK E.P Θ := by rw [hP]; exact Θ_ok
  intro n
  induction n with
  | zero => intro v5 r h; simp only [laws_eqOpSS_l0] at h; cases h
  | succ n ih =>
    intro v5 r h
    simp only [laws_eqOpSS_l0] at h
    rcases itS h with ⟨c6, h⟩ | ⟨c12, h⟩
    · obtain ⟨x7, hx7, h⟩ := bnS h
      obtain ⟨x8, hx8, h⟩ := bnS h
      obtain ⟨r9, hr9, h⟩ := bnS h
      rcases itS h with ⟨c10, h⟩ | ⟨c11, h⟩
      · have h := Option.some.inj h
        subst h
        exact go_ret hΘ hm hP hn (hs := [⟨2, .no, some (I (p1.length : Int))⟩, ⟨4, .br true, none⟩, ⟨7, .row (r91 x7), none⟩, ⟨11, .row (r91 x8), none⟩, ⟨13, .callV [] (B r9), none⟩, ⟨15, .br true, none⟩]) (rh := []) (ph := .raw) (ps := [AV.lit (.int .i64 (((p1.map r91).length : Nat) : Int)) = (I (p1.length : Int)), (decide (v5 < (p1.length : Int))) = true, (0 : Int) ≤ v5, (p1.map r91)[(Int.toNat v5)]? = some (r91 x7), (0 : Int) ≤ v5, (p2.map r91)[(Int.toNat v5)]? = some (r91 x8), Meets Try.prog 102 [(AV.ro 4 (x7.map o93)), (AV.ro 4 (x8.map o93))] (B r9), litA (B r9) = true, (!r9) = true, (B false) = (B false), litA (B false) = true]) (by kernel_rfl) ⟨(lenM r91), c6, (rd0 hx7), (rdM r91 hx7), (rd0 hx8), (rdM r91 hx8), (laws_eqOpS_m hr9), rfl, c10, rfl, rfl, trivial⟩
      · exact go_to hΘ hm hx hP hn (hs := [⟨2, .no, some (I (p1.length : Int))⟩, ⟨4, .br true, none⟩, ⟨7, .row (r91 x7), none⟩, ⟨11, .row (r91 x8), none⟩, ⟨13, .callV [] (B r9), none⟩, ⟨15, .br false, none⟩]) (π := []) (ts := [0, 1, 5]) (kp := []) (ps := [AV.lit (.int .i64 (((p1.map r91).length : Nat) : Int)) = (I (p1.length : Int)), (decide (v5 < (p1.length : Int))) = true, (0 : Int) ≤ v5, (p1.map r91)[(Int.toNat v5)]? = some (r91 x7), (0 : Int) ≤ v5, (p2.map r91)[(Int.toNat v5)]? = some (r91 x8), Meets Try.prog 102 [(AV.ro 4 (x7.map o93)), (AV.ro 4 (x8.map o93))] (B r9), litA (B r9) = true, (!r9) = false]) (by kernel_rfl) ⟨(lenM r91), c6, (rd0 hx7), (rdM r91 hx7), (rd0 hx8), (rdM r91 hx8), (laws_eqOpS_m hr9), rfl, c11, trivial⟩ (ih (w64 (v5 + 1)) _ h)
    · have h := Option.some.inj h
      subst h
      exact go_ret hΘ hm hP hn (hs := [⟨2, .no, some (I (p1.length : Int))⟩, ⟨4, .br false, none⟩]) (rh := []) (ph := .raw) (ps := [AV.lit (.int .i64 (((p1.map r91).length : Nat) : Int)) = (I (p1.length : Int)), (decide (v5 < (p1.length : Int))) = false, (B true) = (B true), litA (B true) = true]) (by kernel_rfl) ⟨(lenM r91), c12, rfl, rfl, trivial⟩
noncomputable def laws_eqOpSS (p1 : (List (List GOp))) (p2 : (List (List GOp))) : Option Bool :=
  if ((p1.length : Int) != (p2.length : Int)) = true then
    some false
  else
    laws_eqOpSS_l0 p1 p2 FU 0
theorem laws_eqOpSS_m {p1 : (List (List GOp))} {p2 : (List (List GOp))} {r : Bool} (h : laws_eqOpSS p1 p2 = some r) : Meets Try.prog 70 [(AV.ro 1 (p1.map r91)), (AV.ro 1 (p2.map r91))] (B r) := by
  refine meets_ofC Θ_ok Try.func70 rfl (c := body70) (by kernel_rfl) (Nat.le_of_ble_eq_true rfl) ?_
  intro E hP hn hx
  replace hn : E.n = 27 := hn
  have hm : E.P.follows .mixedOrders = true := by rw [hP]; exact mixed
  have hΘ : TOK E.P Θ := by rw [hP]; exact Θ_ok
  unfold laws_eqOpSS at h
  show WAt E body70 (FQ (RetE Θ Try.f70.results.toList [] [] (B r) E)) [] ⟨[(0, (AV.ro 1 (p1.map r91))), (1, (AV.ro 1 (p2.map r91)))], [], [JJ]⟩
  rcases itS h with ⟨c3, h⟩ | ⟨c4, h⟩
  · have h := Option.some.inj h
    subst h
    exact go_ret hΘ hm hP hn (hs := [⟨2, .no, some (I (p1.length : Int))⟩, ⟨4, .no, some (I (p2.length : Int))⟩, ⟨6, .br true, none⟩]) (rh := []) (ph := .raw) (ps := [AV.lit (.int .i64 (((p1.map r91).length : Nat) : Int)) = (I (p1.length : Int)), AV.lit (.int .i64 (((p2.map r91).length : Nat) : Int)) = (I (p2.length : Int)), ((p1.length : Int) != (p2.length : Int)) = true, (B false) = (B false), litA (B false) = true]) (by kernel_rfl) ⟨(lenM r91), (lenM r91), c3, rfl, rfl, trivial⟩
  · exact go_to hΘ hm hx hP hn (hs := [⟨2, .no, some (I (p1.length : Int))⟩, ⟨4, .no, some (I (p2.length : Int))⟩, ⟨6, .br false, none⟩]) (π := []) (ts := [0, 1, 5]) (kp := []) (ps := [AV.lit (.int .i64 (((p1.map r91).length : Nat) : Int)) = (I (p1.length : Int)), AV.lit (.int .i64 (((p2.map r91).length : Nat) : Int)) = (I (p2.length : Int)), ((p1.length : Int) != (p2.length : Int)) = false]) (by kernel_rfl) ⟨(lenM r91), (lenM r91), c4, trivial⟩ (laws_eqOpSS_l0_m hP hn hx p1 p2 FU 0 _ h)
noncomputable def body39 : Code := match Try.f39.body with | some c => c | none => .skip
noncomputable def laws_eqProg (p1 : GProg) (p2 : GProg) : Option Bool :=
  if (p1.Cells != p2.Cells) = true then
    some false
  else
    if (p1.Locks != p2.Locks) = true then
      some false
    else
      if (p1.Conds != p2.Conds) = true then
        some false
      else
        Option.bind (laws_eqOpSS p1.Routines p2.Routines) fun r9 =>
        if (!r9) = true then
          some false
        else
          some true
theorem laws_eqProg_m {p1 : GProg} {p2 : GProg} {r : Bool} (h : laws_eqProg p1 p2 = some r) : Meets Try.prog 39 [(AV.agg ((r61 p1))), (AV.agg ((r61 p2)))] (B r) := by
  refine meets_ofC Θ_ok Try.func39 rfl (c := body39) (by kernel_rfl) (Nat.le_of_ble_eq_true rfl) ?_
  intro E hP hn hx
  replace hn : E.n = 26 := hn
  have hm : E.P.follows .mixedOrders = true := by rw [hP]; exact mixed
  have hΘ : TOK E.P Θ := by rw [hP]; exact Θ_ok
  unfold laws_eqProg at h
  show WAt E body39 (FQ (RetE Θ Try.f39.results.toList [] [] (B r) E)) [] ⟨[(0, (AV.agg ((r61 p1)))), (1, (AV.agg ((r61 p2))))], [], [JJ]⟩
  rcases itS h with ⟨c3, h⟩ | ⟨c4, h⟩
  · have h := Option.some.inj h
    subst h
    exact go_ret hΘ hm hP hn (hs := [⟨0, .new 1001, none⟩, ⟨1, .new 1002, none⟩, ⟨8, .br true, none⟩]) (rh := []) (ph := .raw) (ps := [(p1.Cells != p2.Cells) = true, (B false) = (B false), litA (B false) = true]) (by kernel_rfl) ⟨c3, rfl, rfl, trivial⟩
  · rcases itS h with ⟨c5, h⟩ | ⟨c6, h⟩
    · have h := Option.some.inj h
      subst h
      exact go_ret hΘ hm hP hn (hs := [⟨0, .new 1001, none⟩, ⟨1, .new 1002, none⟩, ⟨8, .br false, none⟩, ⟨14, .br true, none⟩]) (rh := []) (ph := .raw) (ps := [(p1.Cells != p2.Cells) = false, (p1.Locks != p2.Locks) = true, (B false) = (B false), litA (B false) = true]) (by kernel_rfl) ⟨c4, c5, rfl, rfl, trivial⟩
    · rcases itS h with ⟨c7, h⟩ | ⟨c8, h⟩
      · have h := Option.some.inj h
        subst h
        exact go_ret hΘ hm hP hn (hs := [⟨0, .new 1001, none⟩, ⟨1, .new 1002, none⟩, ⟨8, .br false, none⟩, ⟨14, .br false, none⟩, ⟨20, .br true, none⟩]) (rh := []) (ph := .raw) (ps := [(p1.Cells != p2.Cells) = false, (p1.Locks != p2.Locks) = false, (p1.Conds != p2.Conds) = true, (B false) = (B false), litA (B false) = true]) (by kernel_rfl) ⟨c4, c6, c7, rfl, rfl, trivial⟩
      · obtain ⟨r9, hr9, h⟩ := bnS h
        rcases itS h with ⟨c10, h⟩ | ⟨c11, h⟩
        · have h := Option.some.inj h
          subst h
          exact go_ret hΘ hm hP hn (hs := [⟨0, .new 1001, none⟩, ⟨1, .new 1002, none⟩, ⟨8, .br false, none⟩, ⟨14, .br false, none⟩, ⟨20, .br false, none⟩, ⟨25, .callV [] (B r9), none⟩, ⟨27, .br true, none⟩]) (rh := []) (ph := .raw) (ps := [(p1.Cells != p2.Cells) = false, (p1.Locks != p2.Locks) = false, (p1.Conds != p2.Conds) = false, Meets Try.prog 70 [(AV.ro 1 (p1.Routines.map r91)), (AV.ro 1 (p2.Routines.map r91))] (B r9), litA (B r9) = true, (!r9) = true, (B false) = (B false), litA (B false) = true]) (by kernel_rfl) ⟨c4, c6, c8, (laws_eqOpSS_m hr9), rfl, c10, rfl, rfl, trivial⟩
        · have h := Option.some.inj h
          subst h
          exact go_ret hΘ hm hP hn (hs := [⟨0, .new 1001, none⟩, ⟨1, .new 1002, none⟩, ⟨8, .br false, none⟩, ⟨14, .br false, none⟩, ⟨20, .br false, none⟩, ⟨25, .callV [] (B r9), none⟩, ⟨27, .br false, none⟩]) (rh := []) (ph := .raw) (ps := [(p1.Cells != p2.Cells) = false, (p1.Locks != p2.Locks) = false, (p1.Conds != p2.Conds) = false, Meets Try.prog 70 [(AV.ro 1 (p1.Routines.map r91)), (AV.ro 1 (p2.Routines.map r91))] (B r9), litA (B r9) = true, (!r9) = false, (B true) = (B true), litA (B true) = true]) (by kernel_rfl) ⟨c4, c6, c8, (laws_eqOpSS_m hr9), rfl, c11, rfl, rfl, trivial⟩
noncomputable def body97 : Code := match Try.f97.body with | some c => c | none => .skip
noncomputable def laws_szOpS (p1 : (List GOp)) (p2 : Int) : Option Int :=
  if (decide ((w64 (p2 - (p1.length : Int))) < 0)) = true then
    some (-1)
  else
    some (w64 (p2 - (p1.length : Int)))
theorem laws_szOpS_m {p1 : (List GOp)} {p2 : Int} {r : Int} (h : laws_szOpS p1 p2 = some r) : Meets Try.prog 97 [(AV.ro 4 (p1.map o133)), (I p2)] (I r) := by
  refine meets_ofC Θ_ok Try.func97 rfl (c := body97) (by kernel_rfl) (Nat.le_of_ble_eq_true rfl) ?_
  intro E hP hn hx
  replace hn : E.n = 12 := hn
  have hm : E.P.follows .mixedOrders = true := by rw [hP]; exact mixed
  have hΘ : TOK E.P Θ := by rw [hP]; exact Θ_ok
  unfold laws_szOpS at h
  show WAt E body97 (FQ (RetE Θ Try.f97.results.toList [] [] (I r) E)) [] ⟨[(0, (AV.ro 4 (p1.map o133))), (1, (I p2))], [], [JJ]⟩
  rcases itS h with ⟨c3, h⟩ | ⟨c4, h⟩
  · have h := Option.some.inj h
    subst h
    exact go_ret hΘ hm hP hn (hs := [⟨3, .no, some (I (p1.length : Int))⟩, ⟨8, .br true, none⟩]) (rh := []) (ph := .raw) (ps := [AV.lit (.int .i64 (((p1.map o133).length : Nat) : Int)) = (I (p1.length : Int)), (decide ((w64 (p2 - (p1.length : Int))) < 0)) = true, (I (-1)) = (I (-1)), litA (I (-1)) = true]) (by kernel_rfl) ⟨(lenM o133), c3, rfl, rfl, trivial⟩
  · have h := Option.some.inj h
    subst h
    exact go_ret hΘ hm hP hn (hs := [⟨3, .no, some (I (p1.length : Int))⟩, ⟨8, .br false, none⟩]) (rh := []) (ph := .raw) (ps := [AV.lit (.int .i64 (((p1.map o133).length : Nat) : Int)) = (I (p1.length : Int)), (decide ((w64 (p2 - (p1.length : Int))) < 0)) = false, (I (w64 (p2 - (p1.length : Int)))) = (I (w64 (p2 - (p1.length : Int)))), litA (I (w64 (p2 - (p1.length : Int)))) = true]) (by kernel_rfl) ⟨(lenM o133), c4, rfl, rfl, trivial⟩
noncomputable def body63 : Code := match Try.f63.body with | some c => c | none => .skip
noncomputable def laws_szOpSS_l0  (p1 : (List (List GOp))) : Nat → Int → Int → Option Int
  | 0, _, _ => none
  | n + 1, v5, v6 =>
  if (decide (v6 < (p1.length : Int))) = true then
    Option.bind (rd p1 v6) fun x8 =>
    Option.bind (laws_szOpS x8 v5) fun r9 =>
    if (decide (r9 < 0)) = true then
      some (-1)
    else
      laws_szOpSS_l0 p1 n r9 (w64 (v6 + 1))
  else
    some v5
theorem laws_szOpSS_l0_m {E : Env} (hP : E.P = Try.prog) (hn : E.n = 27) (hx : ∀ p, p ∈ E.fx → p.1 ∈ ([] : List Nat)) (p1 : (List (List GOp)))  : ∀ (n : Nat) (v5 : Int) (v6 : Int) (r : Int), laws_szOpSS_l0 p1 n v5 v6 = some r → WAt E body63 (FQ (RetE Θ Try.f63.results.toList [] [] (I r) E)) [true, true, true, false, true, false] ⟨[(0, (AV.ro 1 (p1.map r122))), (1, (I v5)), (5, (I v6))], [], [JJ]⟩ := by
  have hm : E.P.follows .mixedOrders = true := by rw [hP]; exact mixed
  have hΘ : TOK E.P Θ := by rw [hP]; exact Θ_ok
  intro n
  induction n with
  | zero => intro v5 v6 r h; simp only [laws_szOpSS_l0] at h; cases h
  | succ n ih =>
    intro v5 v6 r h
    simp only [laws_szOpSS_l0] at h
    rcases itS h with ⟨c7, h⟩ | ⟨c12, h⟩
    · obtain ⟨x8, hx8, h⟩ := bnS h
      obtain ⟨r9, hr9, h⟩ := bnS h
      rcases itS h with ⟨c10, h⟩ | ⟨c11, h⟩
      · have h := Option.some.inj h
        subst h
        exact go_ret hΘ hm hP hn (hs := [⟨2, .no, some (I (p1.length : Int))⟩, ⟨4, .br true, none⟩, ⟨7, .row (r122 x8), none⟩, ⟨10, .callV [] (I r9), none⟩, ⟨14, .br true, none⟩]) (rh := []) (ph := .raw) (ps := [AV.lit (.int .i64 (((p1.map r122).length : Nat) : Int)) = (I (p1.length : Int)), (decide (v6 < (p1.length : Int))) = true, (0 : Int) ≤ v6, (p1.map r122)[(Int.toNat v6)]? = some (r122 x8), Meets Try.prog 97 [(AV.ro 4 (x8.map o133)), (I v5)] (I r9), litA (I r9) = true, (decide (r9 < 0)) = true, (I (-1)) = (I (-1)), litA (I (-1)) = true]) (by kernel_rfl) ⟨(lenM r122), c7, (rd0 hx8), (rdM r122 hx8), (laws_szOpS_m hr9), rfl, c10, rfl, rfl, trivial⟩
      · exact go_to hΘ hm hx hP hn (hs := [⟨2, .no, some (I (p1.length : Int))⟩, ⟨4, .br true, none⟩, ⟨7, .row (r122 x8), none⟩, ⟨10, .callV [] (I r9), none⟩, ⟨14, .br false, none⟩]) (π := []) (ts := [0, 1, 5]) (kp := []) (ps := [AV.lit (.int .i64 (((p1.map r122).length : Nat) : Int)) = (I (p1.length : Int)), (decide (v6 < (p1.length : Int))) = true, (0 : Int) ≤ v6, (p1.map r122)[(Int.toNat v6)]? = some (r122 x8), Meets Try.prog 97 [(AV.ro 4 (x8.map o133)), (I v5)] (I r9), litA (I r9) = true, (decide (r9 < 0)) = false]) (by kernel_rfl) ⟨(lenM r122), c7, (rd0 hx8), (rdM r122 hx8), (laws_szOpS_m hr9), rfl, c11, trivial⟩ (ih r9 (w64 (v6 + 1)) _ h)
    · have h := Option.some.inj h
      subst h
      exact go_ret hΘ hm hP hn (hs := [⟨2, .no, some (I (p1.length : Int))⟩, ⟨4, .br false, none⟩]) (rh := []) (ph := .raw) (ps := [AV.lit (.int .i64 (((p1.map r122).length : Nat) : Int)) = (I (p1.length : Int)), (decide (v6 < (p1.length : Int))) = false, (I v5) = (I v5), litA (I v5) = true]) (by kernel_rfl) ⟨(lenM r122), c12, rfl, rfl, trivial⟩
noncomputable def laws_szOpSS (p1 : (List (List GOp))) (p2 : Int) : Option Int :=
  if (decide ((w64 (p2 - (p1.length : Int))) < 0)) = true then
    some (-1)
  else
    laws_szOpSS_l0 p1 FU (w64 (p2 - (p1.length : Int))) 0
theorem laws_szOpSS_m {p1 : (List (List GOp))} {p2 : Int} {r : Int} (h : laws_szOpSS p1 p2 = some r) : Meets Try.prog 63 [(AV.ro 1 (p1.map r122)), (I p2)] (I r) := by
  refine meets_ofC Θ_ok Try.func63 rfl (c := body63) (by kernel_rfl) (Nat.le_of_ble_eq_true rfl) ?_
  intro E hP hn hx
  replace hn : E.n = 27 := hn
  have hm : E.P.follows .mixedOrders = true := by rw [hP]; exact mixed
  have hΘ : TOK E.P Θ := by rw [hP]; exact Θ_ok
  unfold laws_szOpSS at h
  show WAt E body63 (FQ (RetE Θ Try.f63.results.toList [] [] (I r) E)) [] ⟨[(0, (AV.ro 1 (p1.map r122))), (1, (I p2))], [], [JJ]⟩
  rcases itS h with ⟨c3, h⟩ | ⟨c4, h⟩
  · have h := Option.some.inj h
    subst h
    exact go_ret hΘ hm hP hn (hs := [⟨3, .no, some (I (p1.length : Int))⟩, ⟨8, .br true, none⟩]) (rh := []) (ph := .raw) (ps := [AV.lit (.int .i64 (((p1.map r122).length : Nat) : Int)) = (I (p1.length : Int)), (decide ((w64 (p2 - (p1.length : Int))) < 0)) = true, (I (-1)) = (I (-1)), litA (I (-1)) = true]) (by kernel_rfl) ⟨(lenM r122), c3, rfl, rfl, trivial⟩
  · exact go_to hΘ hm hx hP hn (hs := [⟨3, .no, some (I (p1.length : Int))⟩, ⟨8, .br false, none⟩]) (π := []) (ts := [0, 1, 5]) (kp := []) (ps := [AV.lit (.int .i64 (((p1.map r122).length : Nat) : Int)) = (I (p1.length : Int)), (decide ((w64 (p2 - (p1.length : Int))) < 0)) = false]) (by kernel_rfl) ⟨(lenM r122), c4, trivial⟩ (laws_szOpSS_l0_m hP hn hx p1 FU (w64 (p2 - (p1.length : Int))) 0 _ h)
noncomputable def body35 : Code := match Try.f35.body with | some c => c | none => .skip
noncomputable def laws_szProg (p1 : GProg) (p2 : Int) : Option Int :=
  Option.bind (laws_szOpSS p1.Routines p2) fun r3 =>
  if (decide (r3 < 0)) = true then
    some (-1)
  else
    some r3
theorem laws_szProg_m {p1 : GProg} {p2 : Int} {r : Int} (h : laws_szProg p1 p2 = some r) : Meets Try.prog 35 [(AV.agg ((r56 p1))), (I p2)] (I r) := by
  refine meets_ofC Θ_ok Try.func35 rfl (c := body35) (by kernel_rfl) (Nat.le_of_ble_eq_true rfl) ?_
  intro E hP hn hx
  replace hn : E.n = 12 := hn
  have hm : E.P.follows .mixedOrders = true := by rw [hP]; exact mixed
  have hΘ : TOK E.P Θ := by rw [hP]; exact Θ_ok
  unfold laws_szProg at h
  show WAt E body35 (FQ (RetE Θ Try.f35.results.toList [] [] (I r) E)) [] ⟨[(0, (AV.agg ((r56 p1)))), (1, (I p2))], [], [JJ]⟩
  obtain ⟨r3, hr3, h⟩ := bnS h
  rcases itS h with ⟨c4, h⟩ | ⟨c5, h⟩
  · have h := Option.some.inj h
    subst h
    exact go_ret hΘ hm hP hn (hs := [⟨0, .new 1001, none⟩, ⟨5, .callV [] (I r3), none⟩, ⟨9, .br true, none⟩]) (rh := []) (ph := .raw) (ps := [Meets Try.prog 63 [(AV.ro 1 (p1.Routines.map r122)), (I p2)] (I r3), litA (I r3) = true, (decide (r3 < 0)) = true, (I (-1)) = (I (-1)), litA (I (-1)) = true]) (by kernel_rfl) ⟨(laws_szOpSS_m hr3), rfl, c4, rfl, rfl, trivial⟩
  · have h := Option.some.inj h
    subst h
    exact go_ret hΘ hm hP hn (hs := [⟨0, .new 1001, none⟩, ⟨5, .callV [] (I r3), none⟩, ⟨9, .br false, none⟩]) (rh := []) (ph := .raw) (ps := [Meets Try.prog 63 [(AV.ro 1 (p1.Routines.map r122)), (I p2)] (I r3), litA (I r3) = true, (decide (r3 < 0)) = false, (I r3) = (I r3), litA (I r3) = true]) (by kernel_rfl) ⟨(laws_szOpSS_m hr3), rfl, c5, rfl, rfl, trivial⟩
noncomputable def body113 : Code := match Try.f113.body with | some c => c | none => .skip
noncomputable def laws_toOp (p1 : GOp) : Option GOp :=
  some (GOp.mk p1.Code p1.A p1.B p1.V)
theorem laws_toOp_m {p1 : GOp} {r : GOp} (h : laws_toOp p1 = some r) : Meets Try.prog 113 [(AV.agg ((o133 p1)))] (AV.agg (o93 r)) := by
  refine meets_ofC Θ_ok Try.func113 rfl (c := body113) (by kernel_rfl) (Nat.le_of_ble_eq_true rfl) ?_
  intro E hP hn hx
  replace hn : E.n = 17 := hn
  have hm : E.P.follows .mixedOrders = true := by rw [hP]; exact mixed
  have hΘ : TOK E.P Θ := by rw [hP]; exact Θ_ok
  unfold laws_toOp at h
  show WAt E body113 (FQ (RetE Θ Try.f113.results.toList [] [] (AV.agg (o93 r)) E)) [] ⟨[(0, (AV.agg ((o133 p1))))], [], [JJ]⟩
  have h := Option.some.inj h
  subst h
  exact go_ret hΘ hm hP hn (hs := [⟨0, .new 1001, none⟩, ⟨1, .new 1002, none⟩, ⟨2, .new 1003, none⟩]) (rh := []) (ph := .raw) (ps := [(AV.agg [(I p1.Code), (I p1.A), (I p1.B), (FK p1.V)]) = (AV.agg [(I p1.Code), (I p1.A), (I p1.B), (FK p1.V)]), litA (AV.agg [(I p1.Code), (I p1.A), (I p1.B), (FK p1.V)]) = true]) (by kernel_rfl) ⟨rfl, rfl, trivial⟩
noncomputable def body99 : Code := match Try.f99.body with | some c => c | none => .skip
noncomputable def laws_toOpS_l0  (p1 : (List GOp)) : Nat → (List GOp) → Int → Option (List GOp)
  | 0, _, _ => none
  | n + 1, a3, v4 =>
  if (decide (v4 < (p1.length : Int))) = true then
    Option.bind (rd p1 v4) fun x6 =>
    Option.bind (laws_toOp x6) fun r7 =>
    Option.bind (rd a3 v4) fun x8 =>
    laws_toOpS_l0 p1 n (a3.set (Int.toNat v4) r7) (w64 (v4 + 1))
  else
    some a3
theorem laws_toOpS_l0_m {E : Env} (hP : E.P = Try.prog) (hn : E.n = 23) (hx : ∀ p, p ∈ E.fx → p.1 ∈ ([] : List Nat)) (p1 : (List GOp))  : ∀ (n : Nat) (a3 : (List GOp)) (v4 : Int) (r : (List GOp)), laws_toOpS_l0 p1 n a3 v4 = some r → WAt E body99 (FQ (RetE Θ Try.f99.results.toList [] [] (AV.own 93 4 (r.map o93)) E)) [true, true, false, true, false] ⟨[(0, (AV.ro 4 (p1.map o133))), (3, (AV.sl 1 0 (List.length (a3.map o93)))), (4, (I v4))], [(1, some ⟨93, 4, (a3.map o93)⟩)], [1, JJ]⟩ := by
  have hm : E.P.follows .mixedOrders = true := by rw [hP]; exact mixed
  have hΘ : TOK E.P Θ := by rw [hP]; exact Θ_ok
  intro n
  induction n with
  | zero => intro a3 v4 r h; simp only [laws_toOpS_l0] at h; cases h
  | succ n ih =>
    intro a3 v4 r h
    simp only [laws_toOpS_l0] at h
    rcases itS h with ⟨c5, h⟩ | ⟨c9, h⟩
    · obtain ⟨x6, hx6, h⟩ := bnS h
      obtain ⟨r7, hr7, h⟩ := bnS h
      obtain ⟨x8, hx8, h⟩ := bnS h
      exact go_to hΘ hm hx hP hn (hs := [⟨2, .no, some (I (p1.length : Int))⟩, ⟨4, .br true, none⟩, ⟨9, .row (o133 x6), none⟩, ⟨11, .callV [[]] (AV.agg (o93 r7)), none⟩, ⟨13, .sto ((o93 x8)) ((a3.set (Int.toNat v4) r7).map o93), none⟩, ⟨17, .slen 3 (List.length ((a3.set (Int.toNat v4) r7).map o93)), none⟩]) (π := [(1, 1)]) (ts := [0, 3, 4]) (kp := []) (ps := [AV.lit (.int .i64 (((p1.map o133).length : Nat) : Int)) = (I (p1.length : Int)), (decide (v4 < (p1.length : Int))) = true, (0 : Int) ≤ v4, (p1.map o133)[(Int.toNat v4)]? = some (o133 x6), Meets Try.prog 113 [(AV.agg ((o133 x6)))] (AV.agg (o93 r7)), litA (AV.agg (o93 r7)) = true, (0 : Int) ≤ v4, v4 < (((List.length (a3.map o93)) : Nat) : Int), (a3.map o93)[(Int.toNat v4)]? = some ((o93 x8)), (a3.map o93).set (Int.toNat v4) (wr ((o93 x8)) 0 ((o93 r7))) = ((a3.set (Int.toNat v4) r7).map o93), ((o93 r7)).length = 4, 0 + ((o93 r7)).length ≤ ((o93 x8)).length, (List.length (a3.map o93)) = (List.length ((a3.set (Int.toNat v4) r7).map o93)), RenOK [(1, 1)] ((a3.set (Int.toNat v4) r7).map o93)]) (by kernel_rfl) ⟨(lenM o133), c5, (rd0 hx6), (rdM o133 hx6), (laws_toOp_m hr7), rfl, (rd0 hx8), (rdL o93 hx8), (rdM o93 hx8), (setMr o93 (by kernel_rfl)), rfl, (Nat.le_of_ble_eq_true rfl), (by first | exact lnSet _ | exact lnSet2 _ | simp only [List.length_map, List.length_set, List.length_cons, List.length_nil]), (rok (treeM t93)), trivial⟩ (ih (a3.set (Int.toNat v4) r7) (w64 (v4 + 1)) _ h)
    · have h := Option.some.inj h
      subst h
      exact go_ret hΘ hm hP hn (hs := [⟨2, .no, some (I (p1.length : Int))⟩, ⟨4, .br false, none⟩]) (rh := []) (ph := .own) (ps := [AV.lit (.int .i64 (((p1.map o133).length : Nat) : Int)) = (I (p1.length : Int)), (decide (v4 < (p1.length : Int))) = false, treeLL ((a3.map o93).take (List.length (a3.map o93))) = true, (a3.map o93).take (List.length (a3.map o93)) = (a3.map o93), noRoLL (a3.map o93) = true]) (by kernel_rfl) ⟨(lenM o133), c9, (treeT t93), takeM, (noRoM n93), trivial⟩
noncomputable def laws_toOpS (p1 : (List GOp)) : Option (List GOp) :=
  Option.bind (mk (GOp.mk 0 0 0 0) (p1.length : Int)) fun l2 =>
  laws_toOpS_l0 p1 FU l2 0
theorem laws_toOpS_m {p1 : (List GOp)} {r : (List GOp)} (h : laws_toOpS p1 = some r) : Meets Try.prog 99 [(AV.ro 4 (p1.map o133))] (AV.own 93 4 (r.map o93)) := by
  refine meets_ofC Θ_ok Try.func99 rfl (c := body99) (by kernel_rfl) (Nat.le_of_ble_eq_true rfl) ?_
  intro E hP hn hx
  replace hn : E.n = 23 := hn
  have hm : E.P.follows .mixedOrders = true := by rw [hP]; exact mixed
  have hΘ : TOK E.P Θ := by rw [hP]; exact Θ_ok
  unfold laws_toOpS at h
  show WAt E body99 (FQ (RetE Θ Try.f99.results.toList [] [] (AV.own 93 4 (r.map o93)) E)) [] ⟨[(0, (AV.ro 4 (p1.map o133)))], [], [JJ]⟩
  obtain ⟨l2, hl2, h⟩ := bnS h
  exact go_to hΘ hm hx hP hn (hs := [⟨2, .no, some (I (p1.length : Int))⟩, ⟨3, .nw 1001 (l2.map o93), some (AV.sl 1001 0 (List.length (l2.map o93)))⟩]) (π := [(1001, 1)]) (ts := [0, 3, 4]) (kp := []) (ps := [AV.lit (.int .i64 (((p1.map o133).length : Nat) : Int)) = (I (p1.length : Int)), List.replicate (Int.toNat (p1.length : Int)) [.lit (.int .i64 0), .lit (.int .i64 0), .lit (.int .i64 0), .lit (.float .f64 0)] = (l2.map o93), AV.sl 1001 0 (Int.toNat (p1.length : Int)) = (AV.sl 1001 0 (List.length (l2.map o93))), (p1.length : Int) = (p1.length : Int), (0 : Int) ≤ (p1.length : Int), (p1.length : Int) * ((32 : Nat) : Int) ≤ 140737488355328, (p1.length : Int) ≤ 140737488355328, RenOK [(1001, 1)] (l2.map o93)]) (by kernel_rfl) ⟨(lenM o133), (mkM o93 hl2), (mkS o93 hl2), rfl, (mk0 hl2), (mkB hl2 (by decide)), (mkC hl2), (rok (treeM t93)), trivial⟩ (laws_toOpS_l0_m hP hn hx p1 FU l2 0 _ h)
noncomputable def body65 : Code := match Try.f65.body with | some c => c | none => .skip
noncomputable def laws_toOpSS_l0  (p1 : (List (List GOp))) : Nat → (List (List GOp)) → Int → Option (List (List GOp))
  | 0, _, _ => none
  | n + 1, a3, v4 =>
  if (decide (v4 < (p1.length : Int))) = true then
    Option.bind (rd p1 v4) fun x6 =>
    Option.bind (laws_toOpS x6) fun r7 =>
    Option.bind (rd a3 v4) fun x8 =>
    laws_toOpSS_l0 p1 n (a3.set (Int.toNat v4) r7) (w64 (v4 + 1))
  else
    some a3
theorem laws_toOpSS_l0_m {E : Env} (hP : E.P = Try.prog) (hn : E.n = 23) (hx : ∀ p, p ∈ E.fx → p.1 ∈ ([] : List Nat)) (p1 : (List (List GOp)))  : ∀ (n : Nat) (a3 : (List (List GOp))) (v4 : Int) (r : (List (List GOp))), laws_toOpSS_l0 p1 n a3 v4 = some r → WAt E body65 (FQ (RetE Θ Try.f65.results.toList [] [] (AV.own 91 1 (r.map o91)) E)) [true, true, false, true, false] ⟨[(0, (AV.ro 1 (p1.map r122))), (3, (AV.sl 1 0 (List.length (a3.map o91)))), (4, (I v4))], [(1, some ⟨91, 1, (a3.map o91)⟩)], [1, JJ]⟩ := by
  have hm : E.P.follows .mixedOrders = true := by rw [hP]; exact mixed
  have hΘ : TOK E.P Θ := by rw [hP]; exact Θ_ok
  intro n
  induction n with
  | zero => intro a3 v4 r h; simp only [laws_toOpSS_l0] at h; cases h
  | succ n ih =>
    intro a3 v4 r h
    simp only [laws_toOpSS_l0] at h
    rcases itS h with ⟨c5, h⟩ | ⟨c9, h⟩
    · obtain ⟨x6, hx6, h⟩ := bnS h
      obtain ⟨r7, hr7, h⟩ := bnS h
      obtain ⟨x8, hx8, h⟩ := bnS h
      exact go_to hΘ hm hx hP hn (hs := [⟨2, .no, some (I (p1.length : Int))⟩, ⟨4, .br true, none⟩, ⟨9, .row (r122 x6), none⟩, ⟨11, .call [] (AV.own 93 4 (r7.map o93)) [1001], none⟩, ⟨13, .sto [(AV.own 93 4 (x8.map o93))] ((a3.map o91).set (Int.toNat v4) [(AV.sl 1001 0 (List.length (r7.map o93)))]), none⟩, ⟨14, .pack 1 1001 (Int.toNat v4) 0 [(AV.sl 1001 0 (List.length (r7.map o93)))] ((a3.set (Int.toNat v4) r7).map o91), none⟩, ⟨17, .slen 3 (List.length ((a3.set (Int.toNat v4) r7).map o91)), none⟩]) (π := [(1, 1)]) (ts := [0, 3, 4]) (kp := []) (ps := [AV.lit (.int .i64 (((p1.map r122).length : Nat) : Int)) = (I (p1.length : Int)), (decide (v4 < (p1.length : Int))) = true, (0 : Int) ≤ v4, (p1.map r122)[(Int.toNat v4)]? = some (r122 x6), Meets Try.prog 99 [(AV.ro 4 (x6.map o133))] (AV.own 93 4 (r7.map o93)), noRo (AV.own 93 4 (r7.map o93)) = true, (0 : Int) ≤ v4, v4 < (((List.length (a3.map o91)) : Nat) : Int), (a3.map o91)[(Int.toNat v4)]? = some [(AV.own 93 4 (x8.map o93))], (a3.map o91).set (Int.toNat v4) (wr [(AV.own 93 4 (x8.map o93))] 0 [(AV.sl 1001 0 (List.length (r7.map o93)))]) = ((a3.map o91).set (Int.toNat v4) [(AV.sl 1001 0 (List.length (r7.map o93)))]), [(AV.sl 1001 0 (List.length (r7.map o93)))].length = 1, 0 + [(AV.sl 1001 0 (List.length (r7.map o93)))].length ≤ [(AV.own 93 4 (x8.map o93))].length, ((a3.map o91).set (Int.toNat v4) [(AV.sl 1001 0 (List.length (r7.map o93)))])[(Int.toNat v4)]? = some [(AV.sl 1001 0 (List.length (r7.map o93)))], [(AV.sl 1001 0 (List.length (r7.map o93)))][0]? = some (AV.sl 1001 0 (List.length (r7.map o93))), treeLL (r7.map o93) = true, ((a3.map o91).set (Int.toNat v4) [(AV.sl 1001 0 (List.length (r7.map o93)))]).set (Int.toNat v4) ([(AV.sl 1001 0 (List.length (r7.map o93)))].set 0 (AV.own 93 4 (r7.map o93))) = ((a3.set (Int.toNat v4) r7).map o91), (List.length (a3.map o91)) = (List.length ((a3.set (Int.toNat v4) r7).map o91)), RenOK [(1, 1)] ((a3.set (Int.toNat v4) r7).map o91)]) (by kernel_rfl) ⟨(lenM r122), c5, (rd0 hx6), (rdM r122 hx6), (laws_toOpS_m hr7), (by simp only [noRo, noRoL, noRoM n93, Bool.and_self]), (rd0 hx8), (rdL o91 hx8), (rdM o91 hx8), rfl, rfl, (Nat.le_of_ble_eq_true rfl), (setE (rdM o91 hx8)), rfl, (treeM t93), (setP o91), (by first | exact lnSet _ | exact lnSet2 _ | simp only [List.length_map, List.length_set, List.length_cons, List.length_nil]), (rok (treeM t91)), trivial⟩ (ih (a3.set (Int.toNat v4) r7) (w64 (v4 + 1)) _ h)
    · have h := Option.some.inj h
      subst h
      exact go_ret hΘ hm hP hn (hs := [⟨2, .no, some (I (p1.length : Int))⟩, ⟨4, .br false, none⟩]) (rh := []) (ph := .own) (ps := [AV.lit (.int .i64 (((p1.map r122).length : Nat) : Int)) = (I (p1.length : Int)), (decide (v4 < (p1.length : Int))) = false, treeLL ((a3.map o91).take (List.length (a3.map o91))) = true, (a3.map o91).take (List.length (a3.map o91)) = (a3.map o91), noRoLL (a3.map o91) = true]) (by kernel_rfl) ⟨(lenM r122), c9, (treeT t91), takeM, (noRoM n91), trivial⟩
noncomputable def laws_toOpSS (p1 : (List (List GOp))) : Option (List (List GOp)) :=
  Option.bind (mk [] (p1.length : Int)) fun l2 =>
  laws_toOpSS_l0 p1 FU l2 0
theorem laws_toOpSS_m {p1 : (List (List GOp))} {r : (List (List GOp))} (h : laws_toOpSS p1 = some r) : Meets Try.prog 65 [(AV.ro 1 (p1.map r122))] (AV.own 91 1 (r.map o91)) := by
  refine meets_ofC Θ_ok Try.func65 rfl (c := body65) (by kernel_rfl) (Nat.le_of_ble_eq_true rfl) ?_
  intro E hP hn hx
  replace hn : E.n = 23 := hn
  have hm : E.P.follows .mixedOrders = true := by rw [hP]; exact mixed
  have hΘ : TOK E.P Θ := by rw [hP]; exact Θ_ok
  unfold laws_toOpSS at h
  show WAt E body65 (FQ (RetE Θ Try.f65.results.toList [] [] (AV.own 91 1 (r.map o91)) E)) [] ⟨[(0, (AV.ro 1 (p1.map r122)))], [], [JJ]⟩
  obtain ⟨l2, hl2, h⟩ := bnS h
  exact go_to hΘ hm hx hP hn (hs := [⟨2, .no, some (I (p1.length : Int))⟩, ⟨3, .nw 1001 (List.replicate (Int.toNat (p1.length : Int)) [AV.lit (.slice none 0 0)]), some (AV.sl 1001 0 (List.length (l2.map o91)))⟩, ⟨4, .own0 1001 (Int.toNat (p1.length : Int)) [] [] 93 4 (l2.map o91), none⟩]) (π := [(1001, 1)]) (ts := [0, 3, 4]) (kp := []) (ps := [AV.lit (.int .i64 (((p1.map r122).length : Nat) : Int)) = (I (p1.length : Int)), List.replicate (Int.toNat (p1.length : Int)) [.lit (.slice none 0 0)] = (List.replicate (Int.toNat (p1.length : Int)) [AV.lit (.slice none 0 0)]), AV.sl 1001 0 (Int.toNat (p1.length : Int)) = (AV.sl 1001 0 (List.length (l2.map o91))), (p1.length : Int) = (p1.length : Int), (0 : Int) ≤ (p1.length : Int), (p1.length : Int) * ((24 : Nat) : Int) ≤ 140737488355328, (p1.length : Int) ≤ 140737488355328, (List.replicate (Int.toNat (p1.length : Int)) [AV.lit (.slice none 0 0)]) = List.replicate (Int.toNat (p1.length : Int)) ([] ++ AV.lit (.slice none 0 0) :: []), List.replicate (Int.toNat (p1.length : Int)) ([] ++ AV.own 93 4 [] :: []) = (l2.map o91), RenOK [(1001, 1)] (l2.map o91)]) (by kernel_rfl) ⟨(lenM r122), rfl, (mkS o91 hl2), rfl, (mk0 hl2), (mkB hl2 (by decide)), (mkC hl2), rfl, (mkM o91 hl2), (rok (treeM t91)), trivial⟩ (laws_toOpSS_l0_m hP hn hx p1 FU l2 0 _ h)
noncomputable def body37 : Code := match Try.f37.body with | some c => c | none => .skip
noncomputable def laws_toProg (p1 : GProg) : Option GProg :=
  Option.bind (laws_toOpSS p1.Routines) fun r2 =>
  some (GProg.mk p1.Cells p1.Locks p1.Conds r2)
theorem laws_toProg_m {p1 : GProg} {r : GProg} (h : laws_toProg p1 = some r) : Meets Try.prog 37 [(AV.agg ((r56 p1)))] (AV.agg (o61 r)) := by
  refine meets_ofC Θ_ok Try.func37 rfl (c := body37) (by kernel_rfl) (Nat.le_of_ble_eq_true rfl) ?_
  intro E hP hn hx
  replace hn : E.n = 18 := hn
  have hm : E.P.follows .mixedOrders = true := by rw [hP]; exact mixed
  have hΘ : TOK E.P Θ := by rw [hP]; exact Θ_ok
  unfold laws_toProg at h
  show WAt E body37 (FQ (RetE Θ Try.f37.results.toList [] [] (AV.agg (o61 r)) E)) [] ⟨[(0, (AV.agg ((r56 p1))))], [], [JJ]⟩
  obtain ⟨r2, hr2, h⟩ := bnS h
  have h := Option.some.inj h
  subst h
  exact go_ret hΘ hm hP hn (hs := [⟨0, .new 1001, none⟩, ⟨1, .new 1002, none⟩, ⟨2, .new 1003, none⟩, ⟨17, .call [] (AV.own 91 1 (r2.map o91)) [1004], none⟩]) (rh := []) (ph := .agg [.raw, .raw, .raw, .own]) (ps := [Meets Try.prog 65 [(AV.ro 1 (p1.Routines.map r122))] (AV.own 91 1 (r2.map o91)), noRo (AV.own 91 1 (r2.map o91)) = true, (I p1.Cells) = (I p1.Cells), litA (I p1.Cells) = true, (I p1.Locks) = (I p1.Locks), litA (I p1.Locks) = true, (I p1.Conds) = (I p1.Conds), litA (I p1.Conds) = true, treeLL ((r2.map o91).take (List.length (r2.map o91))) = true, (r2.map o91).take (List.length (r2.map o91)) = (r2.map o91), noRoLL (r2.map o91) = true]) (by kernel_rfl) ⟨(laws_toOpSS_m hr2), (by simp only [noRo, noRoL, noRoM n91, Bool.and_self]), rfl, rfl, rfl, rfl, rfl, rfl, (treeT t91), takeM, (noRoM n91), trivial⟩
noncomputable def body50 : Code := match Try.f50.body with | some c => c | none => .skip
noncomputable def spec_l1In (p1 : Int) (p2 : Int) (p3 : Int) : Option Bool :=
  if (decide (p1 ≥ p2)) = true then
    some (decide (p1 ≤ p3))
  else
    some false
theorem spec_l1In_m {p1 : Int} {p2 : Int} {p3 : Int} {r : Bool} (h : spec_l1In p1 p2 p3 = some r) : Meets Try.prog 50 [(I p1), (I p2), (I p3)] (B r) := by
  refine meets_ofC Θ_ok Try.func50 rfl (c := body50) (by kernel_rfl) (Nat.le_of_ble_eq_true rfl) ?_
  intro E hP hn hx
  replace hn : E.n = 15 := hn
  have hm : E.P.follows .mixedOrders = true := by rw [hP]; exact mixed
  have hΘ : TOK E.P Θ := by rw [hP]; exact Θ_ok
  unfold spec_l1In at h
  show WAt E body50 (FQ (RetE Θ Try.f50.results.toList [] [] (B r) E)) [] ⟨[(0, (I p1)), (1, (I p2)), (2, (I p3))], [], [JJ]⟩
  rcases itS h with ⟨c4, h⟩ | ⟨c5, h⟩
  · have h := Option.some.inj h
    subst h
    exact go_ret hΘ hm hP hn (hs := [⟨4, .no, some (B true)⟩]) (rh := []) (ph := .raw) (ps := [(B (decide (p1 ≥ p2))) = (B true), (B (decide (p1 ≤ p3))) = (B (decide (p1 ≤ p3))), litA (B (decide (p1 ≤ p3))) = true]) (by kernel_rfl) ⟨(litB c4), rfl, rfl, trivial⟩
  · have h := Option.some.inj h
    subst h
    exact go_ret hΘ hm hP hn (hs := [⟨4, .no, some (B false)⟩]) (rh := []) (ph := .raw) (ps := [(B (decide (p1 ≥ p2))) = (B false), (B false) = (B false), litA (B false) = true]) (by kernel_rfl) ⟨(litB c5), rfl, rfl, trivial⟩
noncomputable def body117 : Code := match Try.f117.body with | some c => c | none => .skip
noncomputable def spec_IsMinus (p1 : Nat) : Option Bool :=
  if ((fcmp p1 0) == some .lt) = true then
    some true
  else
    if ((fcmp p1 0) == some .eq) = true then
      Option.bind (fdv 4607182418800017408 p1) fun x5 =>
      some ((fcmp x5 0) == some .lt)
    else
      some false
theorem spec_IsMinus_m {p1 : Nat} {r : Bool} (h : spec_IsMinus p1 = some r) : Meets Try.prog 117 [(FK p1)] (B r) := by
  refine meets_ofC Θ_ok Try.func117 rfl (c := body117) (by kernel_rfl) (Nat.le_of_ble_eq_true rfl) ?_
  intro E hP hn hx
  replace hn : E.n = 14 := hn
  have hm : E.P.follows .mixedOrders = true := by rw [hP]; exact mixed
  have hΘ : TOK E.P Θ := by rw [hP]; exact Θ_ok
  unfold spec_IsMinus at h
  show WAt E body117 (FQ (RetE Θ Try.f117.results.toList [] [] (B r) E)) [] ⟨[(0, (FK p1))], [], [JJ]⟩
  rcases itS h with ⟨c2, h⟩ | ⟨c3, h⟩
  · have h := Option.some.inj h
    subst h
    exact go_ret hΘ hm hP hn (hs := [⟨2, .bin (B ((fcmp p1 0) == some .lt)), none⟩, ⟨3, .no, some (B true)⟩]) (rh := []) (ph := .raw) (ps := [BinS Try.prog .lss 69 (FK p1) (FK 0) (B ((fcmp p1 0) == some .lt)), (B ((fcmp p1 0) == some .lt)) = (B true), (B true) = (B true), litA (B true) = true]) (by kernel_rfl) ⟨fLss, (litB c2), rfl, rfl, trivial⟩
  · rcases itS h with ⟨c4, h⟩ | ⟨c6, h⟩
    · obtain ⟨x5, hx5, h⟩ := bnS h
      have h := Option.some.inj h
      subst h
      exact go_ret hΘ hm hP hn (hs := [⟨2, .bin (B ((fcmp p1 0) == some .lt)), none⟩, ⟨3, .no, some (B false)⟩, ⟨5, .bin (B ((fcmp p1 0) == some .eq)), none⟩, ⟨6, .no, some (B true)⟩, ⟨8, .bin (FK x5), none⟩, ⟨9, .bin (B ((fcmp x5 0) == some .lt)), none⟩]) (rh := []) (ph := .raw) (ps := [BinS Try.prog .lss 69 (FK p1) (FK 0) (B ((fcmp p1 0) == some .lt)), (B ((fcmp p1 0) == some .lt)) = (B false), BinS Try.prog .eql 69 (FK p1) (FK 0) (B ((fcmp p1 0) == some .eq)), (B ((fcmp p1 0) == some .eq)) = (B true), BinS Try.prog .quo 69 (FK 4607182418800017408) (FK p1) (FK x5), BinS Try.prog .lss 69 (FK x5) (FK 0) (B ((fcmp x5 0) == some .lt)), (B ((fcmp x5 0) == some .lt)) = (B ((fcmp x5 0) == some .lt)), litA (B ((fcmp x5 0) == some .lt)) = true]) (by kernel_rfl) ⟨fLss, (litB c3), fEql, (litB c4), (fQuo hx5), fLss, rfl, rfl, trivial⟩
    · have h := Option.some.inj h
      subst h
      exact go_ret hΘ hm hP hn (hs := [⟨2, .bin (B ((fcmp p1 0) == some .lt)), none⟩, ⟨3, .no, some (B false)⟩, ⟨5, .bin (B ((fcmp p1 0) == some .eq)), none⟩, ⟨6, .no, some (B false)⟩]) (rh := []) (ph := .raw) (ps := [BinS Try.prog .lss 69 (FK p1) (FK 0) (B ((fcmp p1 0) == some .lt)), (B ((fcmp p1 0) == some .lt)) = (B false), BinS Try.prog .eql 69 (FK p1) (FK 0) (B ((fcmp p1 0) == some .eq)), (B ((fcmp p1 0) == some .eq)) = (B false), (B false) = (B false), litA (B false) = true]) (by kernel_rfl) ⟨fLss, (litB c3), fEql, (litB c6), rfl, rfl, trivial⟩
noncomputable def body116 : Code := match Try.f116.body with | some c => c | none => .skip
noncomputable def spec_l1Nan (p1 : Nat) : Option Bool :=
  some ((fcmp p1 p1) != some .eq)
theorem spec_l1Nan_m {p1 : Nat} {r : Bool} (h : spec_l1Nan p1 = some r) : Meets Try.prog 116 [(FK p1)] (B r) := by
  refine meets_ofC Θ_ok Try.func116 rfl (c := body116) (by kernel_rfl) (Nat.le_of_ble_eq_true rfl) ?_
  intro E hP hn hx
  replace hn : E.n = 6 := hn
  have hm : E.P.follows .mixedOrders = true := by rw [hP]; exact mixed
  have hΘ : TOK E.P Θ := by rw [hP]; exact Θ_ok
  unfold spec_l1Nan at h
  show WAt E body116 (FQ (RetE Θ Try.f116.results.toList [] [] (B r) E)) [] ⟨[(0, (FK p1))], [], [JJ]⟩
  have h := Option.some.inj h
  subst h
  exact go_ret hΘ hm hP hn (hs := [⟨3, .bin (B ((fcmp p1 p1) != some .eq)), none⟩]) (rh := []) (ph := .raw) (ps := [BinS Try.prog .neq 69 (FK p1) (FK p1) (B ((fcmp p1 p1) != some .eq)), (B ((fcmp p1 p1) != some .eq)) = (B ((fcmp p1 p1) != some .eq)), litA (B ((fcmp p1 p1) != some .eq)) = true]) (by kernel_rfl) ⟨fNeq, rfl, rfl, trivial⟩
noncomputable def body103 : Code := match Try.f103.body with | some c => c | none => .skip
noncomputable def spec_l1SameNum_j0  (p1 : Nat) (p2 : Nat)  : Option Bool :=
  if ((fcmp p1 p2) == some .eq) = true then
    Option.bind (spec_IsMinus p1) fun r18 =>
    Option.bind (spec_IsMinus p2) fun r19 =>
    some (r18 == r19)
  else
    some false
theorem spec_l1SameNum_j0_m {E : Env} (hP : E.P = Try.prog) (hn : E.n = 27) (hx : ∀ p, p ∈ E.fx → p.1 ∈ ([] : List Nat)) (p1 : Nat) (p2 : Nat)   (r : Bool) (h : spec_l1SameNum_j0 p1 p2  = some r) : WAt E body103 (FQ (RetE Θ Try.f103.results.toList [] [] (B r) E)) [true, false, true, true] ⟨[(0, (FK p1)), (1, (FK p2))], [], [JJ]⟩ := by
  have hm : E.P.follows .mixedOrders = true := by rw [hP]; exact mixed
  have hΘ : TOK E.P Θ := by rw [hP]; exact Θ_ok
  unfold spec_l1SameNum_j0 at h
  rcases itS h with ⟨c17, h⟩ | ⟨c20, h⟩
  · obtain ⟨r18, hr18, h⟩ := bnS h
    obtain ⟨r19, hr19, h⟩ := bnS h
    have h := Option.some.inj h
    subst h
    exact go_ret hΘ hm hP hn (hs := [⟨2, .bin (B ((fcmp p1 p2) == some .eq)), none⟩, ⟨3, .no, some (B true)⟩, ⟨5, .callV [] (B r18), none⟩, ⟨7, .callV [] (B r19), none⟩]) (rh := []) (ph := .raw) (ps := [BinS Try.prog .eql 69 (FK p1) (FK p2) (B ((fcmp p1 p2) == some .eq)), (B ((fcmp p1 p2) == some .eq)) = (B true), Meets Try.prog 117 [(FK p1)] (B r18), litA (B r18) = true, Meets Try.prog 117 [(FK p2)] (B r19), litA (B r19) = true, (B (r18 == r19)) = (B (r18 == r19)), litA (B (r18 == r19)) = true]) (by kernel_rfl) ⟨fEql, (litB c17), (spec_IsMinus_m hr18), rfl, (spec_IsMinus_m hr19), rfl, rfl, rfl, trivial⟩
  · have h := Option.some.inj h
    subst h
    exact go_ret hΘ hm hP hn (hs := [⟨2, .bin (B ((fcmp p1 p2) == some .eq)), none⟩, ⟨3, .no, some (B false)⟩]) (rh := []) (ph := .raw) (ps := [BinS Try.prog .eql 69 (FK p1) (FK p2) (B ((fcmp p1 p2) == some .eq)), (B ((fcmp p1 p2) == some .eq)) = (B false), (B false) = (B false), litA (B false) = true]) (by kernel_rfl) ⟨fEql, (litB c20), rfl, rfl, trivial⟩
noncomputable def spec_l1SameNum (p1 : Nat) (p2 : Nat) : Option Bool :=
  Option.bind (spec_l1Nan p1) fun r3 =>
  if r3 = true then
    Option.bind (spec_l1Nan p1) fun r5 =>
    if r5 = true then
      Option.bind (spec_l1Nan p2) fun r7 =>
      some r7
    else
      some false
  else
    Option.bind (spec_l1Nan p2) fun r10 =>
    if r10 = true then
      Option.bind (spec_l1Nan p1) fun r12 =>
      if r12 = true then
        Option.bind (spec_l1Nan p2) fun r14 =>
        some r14
      else
        some false
    else
      spec_l1SameNum_j0 p1 p2
theorem spec_l1SameNum_m {p1 : Nat} {p2 : Nat} {r : Bool} (h : spec_l1SameNum p1 p2 = some r) : Meets Try.prog 103 [(FK p1), (FK p2)] (B r) := by
  refine meets_ofC Θ_ok Try.func103 rfl (c := body103) (by kernel_rfl) (Nat.le_of_ble_eq_true rfl) ?_
  intro E hP hn hx
  replace hn : E.n = 27 := hn
  have hm : E.P.follows .mixedOrders = true := by rw [hP]; exact mixed
  have hΘ : TOK E.P Θ := by rw [hP]; exact Θ_ok
  unfold spec_l1SameNum at h
  show WAt E body103 (FQ (RetE Θ Try.f103.results.toList [] [] (B r) E)) [] ⟨[(0, (FK p1)), (1, (FK p2))], [], [JJ]⟩
  obtain ⟨r3, hr3, h⟩ := bnS h
  rcases itS h with ⟨c4, h⟩ | ⟨c9, h⟩
  · obtain ⟨r5, hr5, h⟩ := bnS h
    rcases itS h with ⟨c6, h⟩ | ⟨c8, h⟩
    · obtain ⟨r7, hr7, h⟩ := bnS h
      have h := Option.some.inj h
      subst h
      exact go_ret hΘ hm hP hn (hs := [⟨2, .callV [] (B r3), none⟩, ⟨3, .no, some (B true)⟩, ⟨9, .callV [] (B r5), none⟩, ⟨10, .no, some (B true)⟩, ⟨12, .callV [] (B r7), none⟩]) (rh := []) (ph := .raw) (ps := [Meets Try.prog 116 [(FK p1)] (B r3), litA (B r3) = true, (B r3) = (B true), Meets Try.prog 116 [(FK p1)] (B r5), litA (B r5) = true, (B r5) = (B true), Meets Try.prog 116 [(FK p2)] (B r7), litA (B r7) = true, (B r7) = (B r7), litA (B r7) = true]) (by kernel_rfl) ⟨(spec_l1Nan_m hr3), rfl, (litB c4), (spec_l1Nan_m hr5), rfl, (litB c6), (spec_l1Nan_m hr7), rfl, rfl, rfl, trivial⟩
    · have h := Option.some.inj h
      subst h
      exact go_ret hΘ hm hP hn (hs := [⟨2, .callV [] (B r3), none⟩, ⟨3, .no, some (B true)⟩, ⟨9, .callV [] (B r5), none⟩, ⟨10, .no, some (B false)⟩]) (rh := []) (ph := .raw) (ps := [Meets Try.prog 116 [(FK p1)] (B r3), litA (B r3) = true, (B r3) = (B true), Meets Try.prog 116 [(FK p1)] (B r5), litA (B r5) = true, (B r5) = (B false), (B false) = (B false), litA (B false) = true]) (by kernel_rfl) ⟨(spec_l1Nan_m hr3), rfl, (litB c4), (spec_l1Nan_m hr5), rfl, (litB c8), rfl, rfl, trivial⟩
  · obtain ⟨r10, hr10, h⟩ := bnS h
    rcases itS h with ⟨c11, h⟩ | ⟨c16, h⟩
    · obtain ⟨r12, hr12, h⟩ := bnS h
      rcases itS h with ⟨c13, h⟩ | ⟨c15, h⟩
      · obtain ⟨r14, hr14, h⟩ := bnS h
        have h := Option.some.inj h
        subst h
        exact go_ret hΘ hm hP hn (hs := [⟨2, .callV [] (B r3), none⟩, ⟨3, .no, some (B false)⟩, ⟨5, .callV [] (B r10), none⟩, ⟨7, .br true, none⟩, ⟨9, .callV [] (B r12), none⟩, ⟨10, .no, some (B true)⟩, ⟨12, .callV [] (B r14), none⟩]) (rh := []) (ph := .raw) (ps := [Meets Try.prog 116 [(FK p1)] (B r3), litA (B r3) = true, (B r3) = (B false), Meets Try.prog 116 [(FK p2)] (B r10), litA (B r10) = true, r10 = true, Meets Try.prog 116 [(FK p1)] (B r12), litA (B r12) = true, (B r12) = (B true), Meets Try.prog 116 [(FK p2)] (B r14), litA (B r14) = true, (B r14) = (B r14), litA (B r14) = true]) (by kernel_rfl) ⟨(spec_l1Nan_m hr3), rfl, (litB c9), (spec_l1Nan_m hr10), rfl, c11, (spec_l1Nan_m hr12), rfl, (litB c13), (spec_l1Nan_m hr14), rfl, rfl, rfl, trivial⟩
      · have h := Option.some.inj h
        subst h
        exact go_ret hΘ hm hP hn (hs := [⟨2, .callV [] (B r3), none⟩, ⟨3, .no, some (B false)⟩, ⟨5, .callV [] (B r10), none⟩, ⟨7, .br true, none⟩, ⟨9, .callV [] (B r12), none⟩, ⟨10, .no, some (B false)⟩]) (rh := []) (ph := .raw) (ps := [Meets Try.prog 116 [(FK p1)] (B r3), litA (B r3) = true, (B r3) = (B false), Meets Try.prog 116 [(FK p2)] (B r10), litA (B r10) = true, r10 = true, Meets Try.prog 116 [(FK p1)] (B r12), litA (B r12) = true, (B r12) = (B false), (B false) = (B false), litA (B false) = true]) (by kernel_rfl) ⟨(spec_l1Nan_m hr3), rfl, (litB c9), (spec_l1Nan_m hr10), rfl, c11, (spec_l1Nan_m hr12), rfl, (litB c15), rfl, rfl, trivial⟩
    · exact go_to hΘ hm hx hP hn (hs := [⟨2, .callV [] (B r3), none⟩, ⟨3, .no, some (B false)⟩, ⟨5, .callV [] (B r10), none⟩, ⟨7, .br false, none⟩]) (π := []) (ts := [0, 1]) (kp := []) (ps := [Meets Try.prog 116 [(FK p1)] (B r3), litA (B r3) = true, (B r3) = (B false), Meets Try.prog 116 [(FK p2)] (B r10), litA (B r10) = true, r10 = false]) (by kernel_rfl) ⟨(spec_l1Nan_m hr3), rfl, (litB c9), (spec_l1Nan_m hr10), rfl, c16, trivial⟩ (spec_l1SameNum_j0_m hP hn hx p1 p2  _ h)
noncomputable def body112 : Code := match Try.f112.body with | some c => c | none => .skip
noncomputable def spec_l2Uses_j0  (p1 : Int) (v5 : Bool) : Option Str :=
  if v5 = true then
    some [97]
  else
    if (p1 == 16) = true then
      some [97, 98]
    else
      some []
theorem spec_l2Uses_j0_m {E : Env} (hP : E.P = Try.prog) (hn : E.n = 17) (hx : ∀ p, p ∈ E.fx → p.1 ∈ ([] : List Nat)) (p1 : Int)  (v5 : Bool) (r : Str) (h : spec_l2Uses_j0 p1 v5 = some r) : WAt E body112 (FQ (RetE Θ Try.f112.results.toList [] [] (SK r) E)) [true, false, true, false, true, true, true] ⟨[(3, (I p1)), (6, (B v5))], [], [JJ]⟩ := by
  have hm : E.P.follows .mixedOrders = true := by rw [hP]; exact mixed
  have hΘ : TOK E.P Θ := by rw [hP]; exact Θ_ok
  unfold spec_l2Uses_j0 at h
  rcases itS h with ⟨c6, h⟩ | ⟨c7, h⟩
  · have h := Option.some.inj h
    subst h
    exact go_ret hΘ hm hP hn (hs := [⟨0, .br true, none⟩]) (rh := []) (ph := .raw) (ps := [v5 = true, (SK [97]) = (SK [97]), litA (SK [97]) = true]) (by kernel_rfl) ⟨c6, rfl, rfl, trivial⟩
  · rcases itS h with ⟨c8, h⟩ | ⟨c9, h⟩
    · have h := Option.some.inj h
      subst h
      exact go_ret hΘ hm hP hn (hs := [⟨0, .br false, none⟩, ⟨3, .br true, none⟩]) (rh := []) (ph := .raw) (ps := [v5 = false, (p1 == 16) = true, (SK [97, 98]) = (SK [97, 98]), litA (SK [97, 98]) = true]) (by kernel_rfl) ⟨c7, c8, rfl, rfl, trivial⟩
    · have h := Option.some.inj h
      subst h
      exact go_ret hΘ hm hP hn (hs := [⟨0, .br false, none⟩, ⟨3, .br false, none⟩]) (rh := []) (ph := .raw) (ps := [v5 = false, (p1 == 16) = false, (SK []) = (SK []), litA (SK []) = true]) (by kernel_rfl) ⟨c7, c9, rfl, rfl, trivial⟩
noncomputable def spec_l2Uses (p1 : Int) : Option Str :=
  if (p1 == 1) = true then
    some [118]
  else
    if (p1 == 2) = true then
      spec_l2Uses_j0 p1 (p1 == 2)
    else
      if (p1 == 3) = true then
        spec_l2Uses_j0 p1 (p1 == 3)
      else
        if (p1 == 10) = true then
          spec_l2Uses_j0 p1 (p1 == 10)
        else
          if (p1 == 11) = true then
            spec_l2Uses_j0 p1 (p1 == 11)
          else
            if (p1 == 12) = true then
              spec_l2Uses_j0 p1 (p1 == 12)
            else
              if (p1 == 13) = true then
                spec_l2Uses_j0 p1 (p1 == 13)
              else
                if (p1 == 14) = true then
                  spec_l2Uses_j0 p1 (p1 == 14)
                else
                  spec_l2Uses_j0 p1 (p1 == 17)
theorem spec_l2Uses_m {p1 : Int} {r : Str} (h : spec_l2Uses p1 = some r) : Meets Try.prog 112 [(I p1)] (SK r) := by
  refine meets_ofC Θ_ok Try.func112 rfl (c := body112) (by kernel_rfl) (Nat.le_of_ble_eq_true rfl) ?_
  intro E hP hn hx
  replace hn : E.n = 17 := hn
  have hm : E.P.follows .mixedOrders = true := by rw [hP]; exact mixed
  have hΘ : TOK E.P Θ := by rw [hP]; exact Θ_ok
  unfold spec_l2Uses at h
  show WAt E body112 (FQ (RetE Θ Try.f112.results.toList [] [] (SK r) E)) [] ⟨[(0, (I p1))], [], [JJ]⟩
  rcases itS h with ⟨c2, h⟩ | ⟨c3, h⟩
  · have h := Option.some.inj h
    subst h
    exact go_ret hΘ hm hP hn (hs := [⟨4, .br true, none⟩]) (rh := []) (ph := .raw) (ps := [(p1 == 1) = true, (SK [118]) = (SK [118]), litA (SK [118]) = true]) (by kernel_rfl) ⟨c2, rfl, rfl, trivial⟩
  · rcases itS h with ⟨c4, h⟩ | ⟨c10, h⟩
    · exact go_to hΘ hm hx hP hn (hs := [⟨4, .br false, none⟩, ⟨7, .br true, none⟩]) (π := []) (ts := [3, 6]) (kp := []) (ps := [(p1 == 1) = false, (p1 == 2) = true]) (by kernel_rfl) ⟨c3, c4, trivial⟩ (spec_l2Uses_j0_m hP hn hx p1 (p1 == 2) _ h)
    · rcases itS h with ⟨c11, h⟩ | ⟨c12, h⟩
      · exact go_to hΘ hm hx hP hn (hs := [⟨4, .br false, none⟩, ⟨7, .br false, none⟩, ⟨10, .br true, none⟩]) (π := []) (ts := [3, 6]) (kp := []) (ps := [(p1 == 1) = false, (p1 == 2) = false, (p1 == 3) = true]) (by kernel_rfl) ⟨c3, c10, c11, trivial⟩ (spec_l2Uses_j0_m hP hn hx p1 (p1 == 3) _ h)
      · rcases itS h with ⟨c13, h⟩ | ⟨c14, h⟩
        · exact go_to hΘ hm hx hP hn (hs := [⟨4, .br false, none⟩, ⟨7, .br false, none⟩, ⟨10, .br false, none⟩, ⟨13, .br true, none⟩]) (π := []) (ts := [3, 6]) (kp := []) (ps := [(p1 == 1) = false, (p1 == 2) = false, (p1 == 3) = false, (p1 == 10) = true]) (by kernel_rfl) ⟨c3, c10, c12, c13, trivial⟩ (spec_l2Uses_j0_m hP hn hx p1 (p1 == 10) _ h)
        · rcases itS h with ⟨c15, h⟩ | ⟨c16, h⟩
          · exact go_to hΘ hm hx hP hn (hs := [⟨4, .br false, none⟩, ⟨7, .br false, none⟩, ⟨10, .br false, none⟩, ⟨13, .br false, none⟩, ⟨16, .br true, none⟩]) (π := []) (ts := [3, 6]) (kp := []) (ps := [(p1 == 1) = false, (p1 == 2) = false, (p1 == 3) = false, (p1 == 10) = false, (p1 == 11) = true]) (by kernel_rfl) ⟨c3, c10, c12, c14, c15, trivial⟩ (spec_l2Uses_j0_m hP hn hx p1 (p1 == 11) _ h)
          · rcases itS h with ⟨c17, h⟩ | ⟨c18, h⟩
            · exact go_to hΘ hm hx hP hn (hs := [⟨4, .br false, none⟩, ⟨7, .br false, none⟩, ⟨10, .br false, none⟩, ⟨13, .br false, none⟩, ⟨16, .br false, none⟩, ⟨19, .br true, none⟩]) (π := []) (ts := [3, 6]) (kp := []) (ps := [(p1 == 1) = false, (p1 == 2) = false, (p1 == 3) = false, (p1 == 10) = false, (p1 == 11) = false, (p1 == 12) = true]) (by kernel_rfl) ⟨c3, c10, c12, c14, c16, c17, trivial⟩ (spec_l2Uses_j0_m hP hn hx p1 (p1 == 12) _ h)
            · rcases itS h with ⟨c19, h⟩ | ⟨c20, h⟩
              · exact go_to hΘ hm hx hP hn (hs := [⟨4, .br false, none⟩, ⟨7, .br false, none⟩, ⟨10, .br false, none⟩, ⟨13, .br false, none⟩, ⟨16, .br false, none⟩, ⟨19, .br false, none⟩, ⟨22, .br true, none⟩]) (π := []) (ts := [3, 6]) (kp := []) (ps := [(p1 == 1) = false, (p1 == 2) = false, (p1 == 3) = false, (p1 == 10) = false, (p1 == 11) = false, (p1 == 12) = false, (p1 == 13) = true]) (by kernel_rfl) ⟨c3, c10, c12, c14, c16, c18, c19, trivial⟩ (spec_l2Uses_j0_m hP hn hx p1 (p1 == 13) _ h)
              · rcases itS h with ⟨c21, h⟩ | ⟨c22, h⟩
                · exact go_to hΘ hm hx hP hn (hs := [⟨4, .br false, none⟩, ⟨7, .br false, none⟩, ⟨10, .br false, none⟩, ⟨13, .br false, none⟩, ⟨16, .br false, none⟩, ⟨19, .br false, none⟩, ⟨22, .br false, none⟩, ⟨25, .br true, none⟩]) (π := []) (ts := [3, 6]) (kp := []) (ps := [(p1 == 1) = false, (p1 == 2) = false, (p1 == 3) = false, (p1 == 10) = false, (p1 == 11) = false, (p1 == 12) = false, (p1 == 13) = false, (p1 == 14) = true]) (by kernel_rfl) ⟨c3, c10, c12, c14, c16, c18, c20, c21, trivial⟩ (spec_l2Uses_j0_m hP hn hx p1 (p1 == 14) _ h)
                · exact go_to hΘ hm hx hP hn (hs := [⟨4, .br false, none⟩, ⟨7, .br false, none⟩, ⟨10, .br false, none⟩, ⟨13, .br false, none⟩, ⟨16, .br false, none⟩, ⟨19, .br false, none⟩, ⟨22, .br false, none⟩, ⟨25, .br false, none⟩]) (π := []) (ts := [3, 6]) (kp := []) (ps := [(p1 == 1) = false, (p1 == 2) = false, (p1 == 3) = false, (p1 == 10) = false, (p1 == 11) = false, (p1 == 12) = false, (p1 == 13) = false, (p1 == 14) = false]) (by kernel_rfl) ⟨c3, c10, c12, c14, c16, c18, c20, c22, trivial⟩ (spec_l2Uses_j0_m hP hn hx p1 (p1 == 17) _ h)
noncomputable def body98 : Code := match Try.f98.body with | some c => c | none => .skip
noncomputable def spec_l2Plain_j0  (p1 : GOp) (r2 : Str)  : Option Bool :=
  if (r2 == [118]) = true then
    if (r2 == [97]) = true then
      if (r2 == [97, 98]) = true then
        some true
      else
        some (p1.B == 0)
    else
      if (r2 == [97, 98]) = true then
        if (r2 == [97, 98]) = true then
          some true
        else
          some (p1.B == 0)
      else
        if (p1.A == 0) = true then
          if (r2 == [97, 98]) = true then
            some true
          else
            some (p1.B == 0)
        else
          some false
  else
    Option.bind (spec_l1SameNum p1.V 0) fun r26 =>
    if r26 = true then
      if (r2 == [97]) = true then
        if (r2 == [97, 98]) = true then
          some true
        else
          some (p1.B == 0)
      else
        if (r2 == [97, 98]) = true then
          if (r2 == [97, 98]) = true then
            some true
          else
            some (p1.B == 0)
        else
          if (p1.A == 0) = true then
            if (r2 == [97, 98]) = true then
              some true
            else
              some (p1.B == 0)
          else
            some false
    else
      some false
theorem spec_l2Plain_j0_m {E : Env} (hP : E.P = Try.prog) (hn : E.n = 52) (hx : ∀ p, p ∈ E.fx → p.1 ∈ ([] : List Nat)) (p1 : GOp) (r2 : Str)   (r : Bool) (h : spec_l2Plain_j0 p1 r2  = some r) : WAt E body98 (FQ (RetE Θ Try.f98.results.toList [] [] (B r) E)) [true, true, false, true, true] ⟨[(1, (AV.ptr 1 0 0)), (3, (SK r2))], [(1, some ⟨93, 4, [((o93 p1))]⟩)], [1, JJ]⟩ := by
  have hm : E.P.follows .mixedOrders = true := by rw [hP]; exact mixed
  have hΘ : TOK E.P Θ := by rw [hP]; exact Θ_ok
  unfold spec_l2Plain_j0 at h
  rcases itS h with ⟨c12, h⟩ | ⟨c25, h⟩
  · rcases itS h with ⟨c13, h⟩ | ⟨c16, h⟩
    · rcases itS h with ⟨c14, h⟩ | ⟨c15, h⟩
      · have h := Option.some.inj h
        subst h
        exact go_ret hΘ hm hP hn (hs := [⟨1, .bin (B (r2 == [118])), none⟩, ⟨2, .no, some (B true)⟩, ⟨9, .bin (B (r2 == [97])), none⟩, ⟨10, .no, some (B true)⟩, ⟨22, .bin (B (r2 == [97, 98])), none⟩, ⟨23, .no, some (B true)⟩]) (rh := []) (ph := .raw) (ps := [BinS Try.prog .eql 9 (SK r2) (SK [118]) (B (r2 == [118])), (B (r2 == [118])) = (B true), BinS Try.prog .eql 9 (SK r2) (SK [97]) (B (r2 == [97])), (B (r2 == [97])) = (B true), BinS Try.prog .eql 9 (SK r2) (SK [97, 98]) (B (r2 == [97, 98])), (B (r2 == [97, 98])) = (B true), (B true) = (B true), litA (B true) = true]) (by kernel_rfl) ⟨sEql, (litB c12), sEql, (litB c13), sEql, (litB c14), rfl, rfl, trivial⟩
      · have h := Option.some.inj h
        subst h
        exact go_ret hΘ hm hP hn (hs := [⟨1, .bin (B (r2 == [118])), none⟩, ⟨2, .no, some (B true)⟩, ⟨9, .bin (B (r2 == [97])), none⟩, ⟨10, .no, some (B true)⟩, ⟨22, .bin (B (r2 == [97, 98])), none⟩, ⟨23, .no, some (B false)⟩]) (rh := []) (ph := .raw) (ps := [BinS Try.prog .eql 9 (SK r2) (SK [118]) (B (r2 == [118])), (B (r2 == [118])) = (B true), BinS Try.prog .eql 9 (SK r2) (SK [97]) (B (r2 == [97])), (B (r2 == [97])) = (B true), BinS Try.prog .eql 9 (SK r2) (SK [97, 98]) (B (r2 == [97, 98])), (B (r2 == [97, 98])) = (B false), (B (p1.B == 0)) = (B (p1.B == 0)), litA (B (p1.B == 0)) = true]) (by kernel_rfl) ⟨sEql, (litB c12), sEql, (litB c13), sEql, (litB c15), rfl, rfl, trivial⟩
    · rcases itS h with ⟨c17, h⟩ | ⟨c20, h⟩
      · rcases itS h with ⟨c18, h⟩ | ⟨c19, h⟩
        · have h := Option.some.inj h
          subst h
          exact go_ret hΘ hm hP hn (hs := [⟨1, .bin (B (r2 == [118])), none⟩, ⟨2, .no, some (B true)⟩, ⟨9, .bin (B (r2 == [97])), none⟩, ⟨10, .no, some (B false)⟩, ⟨12, .bin (B (r2 == [97, 98])), none⟩, ⟨14, .no, some (B true)⟩, ⟨22, .bin (B (r2 == [97, 98])), none⟩, ⟨23, .no, some (B true)⟩]) (rh := []) (ph := .raw) (ps := [BinS Try.prog .eql 9 (SK r2) (SK [118]) (B (r2 == [118])), (B (r2 == [118])) = (B true), BinS Try.prog .eql 9 (SK r2) (SK [97]) (B (r2 == [97])), (B (r2 == [97])) = (B false), BinS Try.prog .eql 9 (SK r2) (SK [97, 98]) (B (r2 == [97, 98])), (B (r2 == [97, 98])) = (B true), BinS Try.prog .eql 9 (SK r2) (SK [97, 98]) (B (r2 == [97, 98])), (B (r2 == [97, 98])) = (B true), (B true) = (B true), litA (B true) = true]) (by kernel_rfl) ⟨sEql, (litB c12), sEql, (litB c16), sEql, (litB c17), sEql, (litB c18), rfl, rfl, trivial⟩
        · have h := Option.some.inj h
          subst h
          exact go_ret hΘ hm hP hn (hs := [⟨1, .bin (B (r2 == [118])), none⟩, ⟨2, .no, some (B true)⟩, ⟨9, .bin (B (r2 == [97])), none⟩, ⟨10, .no, some (B false)⟩, ⟨12, .bin (B (r2 == [97, 98])), none⟩, ⟨14, .no, some (B true)⟩, ⟨22, .bin (B (r2 == [97, 98])), none⟩, ⟨23, .no, some (B false)⟩]) (rh := []) (ph := .raw) (ps := [BinS Try.prog .eql 9 (SK r2) (SK [118]) (B (r2 == [118])), (B (r2 == [118])) = (B true), BinS Try.prog .eql 9 (SK r2) (SK [97]) (B (r2 == [97])), (B (r2 == [97])) = (B false), BinS Try.prog .eql 9 (SK r2) (SK [97, 98]) (B (r2 == [97, 98])), (B (r2 == [97, 98])) = (B true), BinS Try.prog .eql 9 (SK r2) (SK [97, 98]) (B (r2 == [97, 98])), (B (r2 == [97, 98])) = (B false), (B (p1.B == 0)) = (B (p1.B == 0)), litA (B (p1.B == 0)) = true]) (by kernel_rfl) ⟨sEql, (litB c12), sEql, (litB c16), sEql, (litB c17), sEql, (litB c19), rfl, rfl, trivial⟩
      · rcases itS h with ⟨c21, h⟩ | ⟨c24, h⟩
        · rcases itS h with ⟨c22, h⟩ | ⟨c23, h⟩
          · have h := Option.some.inj h
            subst h
            exact go_ret hΘ hm hP hn (hs := [⟨1, .bin (B (r2 == [118])), none⟩, ⟨2, .no, some (B true)⟩, ⟨9, .bin (B (r2 == [97])), none⟩, ⟨10, .no, some (B false)⟩, ⟨12, .bin (B (r2 == [97, 98])), none⟩, ⟨14, .no, some (B false)⟩, ⟨20, .no, some (B true)⟩, ⟨22, .bin (B (r2 == [97, 98])), none⟩, ⟨23, .no, some (B true)⟩]) (rh := []) (ph := .raw) (ps := [BinS Try.prog .eql 9 (SK r2) (SK [118]) (B (r2 == [118])), (B (r2 == [118])) = (B true), BinS Try.prog .eql 9 (SK r2) (SK [97]) (B (r2 == [97])), (B (r2 == [97])) = (B false), BinS Try.prog .eql 9 (SK r2) (SK [97, 98]) (B (r2 == [97, 98])), (B (r2 == [97, 98])) = (B false), (B (p1.A == 0)) = (B true), BinS Try.prog .eql 9 (SK r2) (SK [97, 98]) (B (r2 == [97, 98])), (B (r2 == [97, 98])) = (B true), (B true) = (B true), litA (B true) = true]) (by kernel_rfl) ⟨sEql, (litB c12), sEql, (litB c16), sEql, (litB c20), (litB c21), sEql, (litB c22), rfl, rfl, trivial⟩
          · have h := Option.some.inj h
            subst h
            exact go_ret hΘ hm hP hn (hs := [⟨1, .bin (B (r2 == [118])), none⟩, ⟨2, .no, some (B true)⟩, ⟨9, .bin (B (r2 == [97])), none⟩, ⟨10, .no, some (B false)⟩, ⟨12, .bin (B (r2 == [97, 98])), none⟩, ⟨14, .no, some (B false)⟩, ⟨20, .no, some (B true)⟩, ⟨22, .bin (B (r2 == [97, 98])), none⟩, ⟨23, .no, some (B false)⟩]) (rh := []) (ph := .raw) (ps := [BinS Try.prog .eql 9 (SK r2) (SK [118]) (B (r2 == [118])), (B (r2 == [118])) = (B true), BinS Try.prog .eql 9 (SK r2) (SK [97]) (B (r2 == [97])), (B (r2 == [97])) = (B false), BinS Try.prog .eql 9 (SK r2) (SK [97, 98]) (B (r2 == [97, 98])), (B (r2 == [97, 98])) = (B false), (B (p1.A == 0)) = (B true), BinS Try.prog .eql 9 (SK r2) (SK [97, 98]) (B (r2 == [97, 98])), (B (r2 == [97, 98])) = (B false), (B (p1.B == 0)) = (B (p1.B == 0)), litA (B (p1.B == 0)) = true]) (by kernel_rfl) ⟨sEql, (litB c12), sEql, (litB c16), sEql, (litB c20), (litB c21), sEql, (litB c23), rfl, rfl, trivial⟩
        · have h := Option.some.inj h
          subst h
          exact go_ret hΘ hm hP hn (hs := [⟨1, .bin (B (r2 == [118])), none⟩, ⟨2, .no, some (B true)⟩, ⟨9, .bin (B (r2 == [97])), none⟩, ⟨10, .no, some (B false)⟩, ⟨12, .bin (B (r2 == [97, 98])), none⟩, ⟨14, .no, some (B false)⟩, ⟨20, .no, some (B false)⟩]) (rh := []) (ph := .raw) (ps := [BinS Try.prog .eql 9 (SK r2) (SK [118]) (B (r2 == [118])), (B (r2 == [118])) = (B true), BinS Try.prog .eql 9 (SK r2) (SK [97]) (B (r2 == [97])), (B (r2 == [97])) = (B false), BinS Try.prog .eql 9 (SK r2) (SK [97, 98]) (B (r2 == [97, 98])), (B (r2 == [97, 98])) = (B false), (B (p1.A == 0)) = (B false), (B false) = (B false), litA (B false) = true]) (by kernel_rfl) ⟨sEql, (litB c12), sEql, (litB c16), sEql, (litB c20), (litB c24), rfl, rfl, trivial⟩
  · obtain ⟨r26, hr26, h⟩ := bnS h
    rcases itS h with ⟨c27, h⟩ | ⟨c40, h⟩
    · rcases itS h with ⟨c28, h⟩ | ⟨c31, h⟩
      · rcases itS h with ⟨c29, h⟩ | ⟨c30, h⟩
        · have h := Option.some.inj h
          subst h
          exact go_ret hΘ hm hP hn (hs := [⟨1, .bin (B (r2 == [118])), none⟩, ⟨2, .no, some (B false)⟩, ⟨5, .callV [] (B r26), none⟩, ⟨7, .no, some (B true)⟩, ⟨9, .bin (B (r2 == [97])), none⟩, ⟨10, .no, some (B true)⟩, ⟨22, .bin (B (r2 == [97, 98])), none⟩, ⟨23, .no, some (B true)⟩]) (rh := []) (ph := .raw) (ps := [BinS Try.prog .eql 9 (SK r2) (SK [118]) (B (r2 == [118])), (B (r2 == [118])) = (B false), Meets Try.prog 103 [(FK p1.V), (FK 0)] (B r26), litA (B r26) = true, (B r26) = (B true), BinS Try.prog .eql 9 (SK r2) (SK [97]) (B (r2 == [97])), (B (r2 == [97])) = (B true), BinS Try.prog .eql 9 (SK r2) (SK [97, 98]) (B (r2 == [97, 98])), (B (r2 == [97, 98])) = (B true), (B true) = (B true), litA (B true) = true]) (by kernel_rfl) ⟨sEql, (litB c25), (spec_l1SameNum_m hr26), rfl, (litB c27), sEql, (litB c28), sEql, (litB c29), rfl, rfl, trivial⟩
        · have h := Option.some.inj h
          subst h
          exact go_ret hΘ hm hP hn (hs := [⟨1, .bin (B (r2 == [118])), none⟩, ⟨2, .no, some (B false)⟩, ⟨5, .callV [] (B r26), none⟩, ⟨7, .no, some (B true)⟩, ⟨9, .bin (B (r2 == [97])), none⟩, ⟨10, .no, some (B true)⟩, ⟨22, .bin (B (r2 == [97, 98])), none⟩, ⟨23, .no, some (B false)⟩]) (rh := []) (ph := .raw) (ps := [BinS Try.prog .eql 9 (SK r2) (SK [118]) (B (r2 == [118])), (B (r2 == [118])) = (B false), Meets Try.prog 103 [(FK p1.V), (FK 0)] (B r26), litA (B r26) = true, (B r26) = (B true), BinS Try.prog .eql 9 (SK r2) (SK [97]) (B (r2 == [97])), (B (r2 == [97])) = (B true), BinS Try.prog .eql 9 (SK r2) (SK [97, 98]) (B (r2 == [97, 98])), (B (r2 == [97, 98])) = (B false), (B (p1.B == 0)) = (B (p1.B == 0)), litA (B (p1.B == 0)) = true]) (by kernel_rfl) ⟨sEql, (litB c25), (spec_l1SameNum_m hr26), rfl, (litB c27), sEql, (litB c28), sEql, (litB c30), rfl, rfl, trivial⟩
      · rcases itS h with ⟨c32, h⟩ | ⟨c35, h⟩
        · rcases itS h with ⟨c33, h⟩ | ⟨c34, h⟩
          · have h := Option.some.inj h
            subst h
            exact go_ret hΘ hm hP hn (hs := [⟨1, .bin (B (r2 == [118])), none⟩, ⟨2, .no, some (B false)⟩, ⟨5, .callV [] (B r26), none⟩, ⟨7, .no, some (B true)⟩, ⟨9, .bin (B (r2 == [97])), none⟩, ⟨10, .no, some (B false)⟩, ⟨12, .bin (B (r2 == [97, 98])), none⟩, ⟨14, .no, some (B true)⟩, ⟨22, .bin (B (r2 == [97, 98])), none⟩, ⟨23, .no, some (B true)⟩]) (rh := []) (ph := .raw) (ps := [BinS Try.prog .eql 9 (SK r2) (SK [118]) (B (r2 == [118])), (B (r2 == [118])) = (B false), Meets Try.prog 103 [(FK p1.V), (FK 0)] (B r26), litA (B r26) = true, (B r26) = (B true), BinS Try.prog .eql 9 (SK r2) (SK [97]) (B (r2 == [97])), (B (r2 == [97])) = (B false), BinS Try.prog .eql 9 (SK r2) (SK [97, 98]) (B (r2 == [97, 98])), (B (r2 == [97, 98])) = (B true), BinS Try.prog .eql 9 (SK r2) (SK [97, 98]) (B (r2 == [97, 98])), (B (r2 == [97, 98])) = (B true), (B true) = (B true), litA (B true) = true]) (by kernel_rfl) ⟨sEql, (litB c25), (spec_l1SameNum_m hr26), rfl, (litB c27), sEql, (litB c31), sEql, (litB c32), sEql, (litB c33), rfl, rfl, trivial⟩
          · have h := Option.some.inj h
            subst h
            exact go_ret hΘ hm hP hn (hs := [⟨1, .bin (B (r2 == [118])), none⟩, ⟨2, .no, some (B false)⟩, ⟨5, .callV [] (B r26), none⟩, ⟨7, .no, some (B true)⟩, ⟨9, .bin (B (r2 == [97])), none⟩, ⟨10, .no, some (B false)⟩, ⟨12, .bin (B (r2 == [97, 98])), none⟩, ⟨14, .no, some (B true)⟩, ⟨22, .bin (B (r2 == [97, 98])), none⟩, ⟨23, .no, some (B false)⟩]) (rh := []) (ph := .raw) (ps := [BinS Try.prog .eql 9 (SK r2) (SK [118]) (B (r2 == [118])), (B (r2 == [118])) = (B false), Meets Try.prog 103 [(FK p1.V), (FK 0)] (B r26), litA (B r26) = true, (B r26) = (B true), BinS Try.prog .eql 9 (SK r2) (SK [97]) (B (r2 == [97])), (B (r2 == [97])) = (B false), BinS Try.prog .eql 9 (SK r2) (SK [97, 98]) (B (r2 == [97, 98])), (B (r2 == [97, 98])) = (B true), BinS Try.prog .eql 9 (SK r2) (SK [97, 98]) (B (r2 == [97, 98])), (B (r2 == [97, 98])) = (B false), (B (p1.B == 0)) = (B (p1.B == 0)), litA (B (p1.B == 0)) = true]) (by kernel_rfl) ⟨sEql, (litB c25), (spec_l1SameNum_m hr26), rfl, (litB c27), sEql, (litB c31), sEql, (litB c32), sEql, (litB c34), rfl, rfl, trivial⟩
        · rcases itS h with ⟨c36, h⟩ | ⟨c39, h⟩
          · rcases itS h with ⟨c37, h⟩ | ⟨c38, h⟩
            · have h := Option.some.inj h
              subst h
              exact go_ret hΘ hm hP hn (hs := [⟨1, .bin (B (r2 == [118])), none⟩, ⟨2, .no, some (B false)⟩, ⟨5, .callV [] (B r26), none⟩, ⟨7, .no, some (B true)⟩, ⟨9, .bin (B (r2 == [97])), none⟩, ⟨10, .no, some (B false)⟩, ⟨12, .bin (B (r2 == [97, 98])), none⟩, ⟨14, .no, some (B false)⟩, ⟨20, .no, some (B true)⟩, ⟨22, .bin (B (r2 == [97, 98])), none⟩, ⟨23, .no, some (B true)⟩]) (rh := []) (ph := .raw) (ps := [BinS Try.prog .eql 9 (SK r2) (SK [118]) (B (r2 == [118])), (B (r2 == [118])) = (B false), Meets Try.prog 103 [(FK p1.V), (FK 0)] (B r26), litA (B r26) = true, (B r26) = (B true), BinS Try.prog .eql 9 (SK r2) (SK [97]) (B (r2 == [97])), (B (r2 == [97])) = (B false), BinS Try.prog .eql 9 (SK r2) (SK [97, 98]) (B (r2 == [97, 98])), (B (r2 == [97, 98])) = (B false), (B (p1.A == 0)) = (B true), BinS Try.prog .eql 9 (SK r2) (SK [97, 98]) (B (r2 == [97, 98])), (B (r2 == [97, 98])) = (B true), (B true) = (B true), litA (B true) = true]) (by kernel_rfl) ⟨sEql, (litB c25), (spec_l1SameNum_m hr26), rfl, (litB c27), sEql, (litB c31), sEql, (litB c35), (litB c36), sEql, (litB c37), rfl, rfl, trivial⟩
            · have h := Option.some.inj h
              subst h
              exact go_ret hΘ hm hP hn (hs := [⟨1, .bin (B (r2 == [118])), none⟩, ⟨2, .no, some (B false)⟩, ⟨5, .callV [] (B r26), none⟩, ⟨7, .no, some (B true)⟩, ⟨9, .bin (B (r2 == [97])), none⟩, ⟨10, .no, some (B false)⟩, ⟨12, .bin (B (r2 == [97, 98])), none⟩, ⟨14, .no, some (B false)⟩, ⟨20, .no, some (B true)⟩, ⟨22, .bin (B (r2 == [97, 98])), none⟩, ⟨23, .no, some (B false)⟩]) (rh := []) (ph := .raw) (ps := [BinS Try.prog .eql 9 (SK r2) (SK [118]) (B (r2 == [118])), (B (r2 == [118])) = (B false), Meets Try.prog 103 [(FK p1.V), (FK 0)] (B r26), litA (B r26) = true, (B r26) = (B true), BinS Try.prog .eql 9 (SK r2) (SK [97]) (B (r2 == [97])), (B (r2 == [97])) = (B false), BinS Try.prog .eql 9 (SK r2) (SK [97, 98]) (B (r2 == [97, 98])), (B (r2 == [97, 98])) = (B false), (B (p1.A == 0)) = (B true), BinS Try.prog .eql 9 (SK r2) (SK [97, 98]) (B (r2 == [97, 98])), (B (r2 == [97, 98])) = (B false), (B (p1.B == 0)) = (B (p1.B == 0)), litA (B (p1.B == 0)) = true]) (by kernel_rfl) ⟨sEql, (litB c25), (spec_l1SameNum_m hr26), rfl, (litB c27), sEql, (litB c31), sEql, (litB c35), (litB c36), sEql, (litB c38), rfl, rfl, trivial⟩
          · have h := Option.some.inj h
            subst h
            exact go_ret hΘ hm hP hn (hs := [⟨1, .bin (B (r2 == [118])), none⟩, ⟨2, .no, some (B false)⟩, ⟨5, .callV [] (B r26), none⟩, ⟨7, .no, some (B true)⟩, ⟨9, .bin (B (r2 == [97])), none⟩, ⟨10, .no, some (B false)⟩, ⟨12, .bin (B (r2 == [97, 98])), none⟩, ⟨14, .no, some (B false)⟩, ⟨20, .no, some (B false)⟩]) (rh := []) (ph := .raw) (ps := [BinS Try.prog .eql 9 (SK r2) (SK [118]) (B (r2 == [118])), (B (r2 == [118])) = (B false), Meets Try.prog 103 [(FK p1.V), (FK 0)] (B r26), litA (B r26) = true, (B r26) = (B true), BinS Try.prog .eql 9 (SK r2) (SK [97]) (B (r2 == [97])), (B (r2 == [97])) = (B false), BinS Try.prog .eql 9 (SK r2) (SK [97, 98]) (B (r2 == [97, 98])), (B (r2 == [97, 98])) = (B false), (B (p1.A == 0)) = (B false), (B false) = (B false), litA (B false) = true]) (by kernel_rfl) ⟨sEql, (litB c25), (spec_l1SameNum_m hr26), rfl, (litB c27), sEql, (litB c31), sEql, (litB c35), (litB c39), rfl, rfl, trivial⟩
    · have h := Option.some.inj h
      subst h
      exact go_ret hΘ hm hP hn (hs := [⟨1, .bin (B (r2 == [118])), none⟩, ⟨2, .no, some (B false)⟩, ⟨5, .callV [] (B r26), none⟩, ⟨7, .no, some (B false)⟩]) (rh := []) (ph := .raw) (ps := [BinS Try.prog .eql 9 (SK r2) (SK [118]) (B (r2 == [118])), (B (r2 == [118])) = (B false), Meets Try.prog 103 [(FK p1.V), (FK 0)] (B r26), litA (B r26) = true, (B r26) = (B false), (B false) = (B false), litA (B false) = true]) (by kernel_rfl) ⟨sEql, (litB c25), (spec_l1SameNum_m hr26), rfl, (litB c40), rfl, rfl, trivial⟩
noncomputable def spec_l2Plain (p1 : GOp) : Option Bool :=
  Option.bind (spec_l2Uses p1.Code) fun r2 =>
  Option.bind (spec_l1In p1.Code 1 17) fun r3 =>
  if (!r3) = true then
    some false
  else
    Option.bind (spec_l1In p1.A 0 999) fun r6 =>
    if (!r6) = true then
      some false
    else
      Option.bind (spec_l1In p1.B 0 999) fun r9 =>
      if (!r9) = true then
        some false
      else
        spec_l2Plain_j0 p1 r2
theorem spec_l2Plain_m {p1 : GOp} {r : Bool} (h : spec_l2Plain p1 = some r) : Meets Try.prog 98 [(AV.agg ((o93 p1)))] (B r) := by
  refine meets_ofC Θ_ok Try.func98 rfl (c := body98) (by kernel_rfl) (Nat.le_of_ble_eq_true rfl) ?_
  intro E hP hn hx
  replace hn : E.n = 52 := hn
  have hm : E.P.follows .mixedOrders = true := by rw [hP]; exact mixed
  have hΘ : TOK E.P Θ := by rw [hP]; exact Θ_ok
  unfold spec_l2Plain at h
  show WAt E body98 (FQ (RetE Θ Try.f98.results.toList [] [] (B r) E)) [] ⟨[(0, (AV.agg ((o93 p1))))], [], [JJ]⟩
  obtain ⟨r2, hr2, h⟩ := bnS h
  obtain ⟨r3, hr3, h⟩ := bnS h
  rcases itS h with ⟨c4, h⟩ | ⟨c5, h⟩
  · have h := Option.some.inj h
    subst h
    exact go_ret hΘ hm hP hn (hs := [⟨0, .new 1001, none⟩, ⟨4, .callV [] (SK r2), none⟩, ⟨8, .callV [] (B r3), none⟩, ⟨10, .no, some (B true)⟩]) (rh := []) (ph := .raw) (ps := [Meets Try.prog 112 [(I p1.Code)] (SK r2), litA (SK r2) = true, Meets Try.prog 50 [(I p1.Code), (I 1), (I 17)] (B r3), litA (B r3) = true, (B (!r3)) = (B true), (B false) = (B false), litA (B false) = true]) (by kernel_rfl) ⟨(spec_l2Uses_m hr2), rfl, (spec_l1In_m hr3), rfl, (litB c4), rfl, rfl, trivial⟩
  · obtain ⟨r6, hr6, h⟩ := bnS h
    rcases itS h with ⟨c7, h⟩ | ⟨c8, h⟩
    · have h := Option.some.inj h
      subst h
      exact go_ret hΘ hm hP hn (hs := [⟨0, .new 1001, none⟩, ⟨4, .callV [] (SK r2), none⟩, ⟨8, .callV [] (B r3), none⟩, ⟨10, .no, some (B false)⟩, ⟨13, .callV [] (B r6), none⟩, ⟨16, .no, some (B true)⟩]) (rh := []) (ph := .raw) (ps := [Meets Try.prog 112 [(I p1.Code)] (SK r2), litA (SK r2) = true, Meets Try.prog 50 [(I p1.Code), (I 1), (I 17)] (B r3), litA (B r3) = true, (B (!r3)) = (B false), Meets Try.prog 50 [(I p1.A), (I 0), (I 999)] (B r6), litA (B r6) = true, (B (!r6)) = (B true), (B false) = (B false), litA (B false) = true]) (by kernel_rfl) ⟨(spec_l2Uses_m hr2), rfl, (spec_l1In_m hr3), rfl, (litB c5), (spec_l1In_m hr6), rfl, (litB c7), rfl, rfl, trivial⟩
    · obtain ⟨r9, hr9, h⟩ := bnS h
      rcases itS h with ⟨c10, h⟩ | ⟨c11, h⟩
      · have h := Option.some.inj h
        subst h
        exact go_ret hΘ hm hP hn (hs := [⟨0, .new 1001, none⟩, ⟨4, .callV [] (SK r2), none⟩, ⟨8, .callV [] (B r3), none⟩, ⟨10, .no, some (B false)⟩, ⟨13, .callV [] (B r6), none⟩, ⟨16, .no, some (B false)⟩, ⟨19, .callV [] (B r9), none⟩, ⟨22, .br true, none⟩]) (rh := []) (ph := .raw) (ps := [Meets Try.prog 112 [(I p1.Code)] (SK r2), litA (SK r2) = true, Meets Try.prog 50 [(I p1.Code), (I 1), (I 17)] (B r3), litA (B r3) = true, (B (!r3)) = (B false), Meets Try.prog 50 [(I p1.A), (I 0), (I 999)] (B r6), litA (B r6) = true, (B (!r6)) = (B false), Meets Try.prog 50 [(I p1.B), (I 0), (I 999)] (B r9), litA (B r9) = true, (!r9) = true, (B false) = (B false), litA (B false) = true]) (by kernel_rfl) ⟨(spec_l2Uses_m hr2), rfl, (spec_l1In_m hr3), rfl, (litB c5), (spec_l1In_m hr6), rfl, (litB c8), (spec_l1In_m hr9), rfl, c10, rfl, rfl, trivial⟩
      · exact go_to hΘ hm hx hP hn (hs := [⟨0, .new 1001, none⟩, ⟨4, .callV [] (SK r2), none⟩, ⟨8, .callV [] (B r3), none⟩, ⟨10, .no, some (B false)⟩, ⟨13, .callV [] (B r6), none⟩, ⟨16, .no, some (B false)⟩, ⟨19, .callV [] (B r9), none⟩, ⟨22, .br false, none⟩]) (π := [(1001, 1)]) (ts := [1, 3]) (kp := []) (ps := [Meets Try.prog 112 [(I p1.Code)] (SK r2), litA (SK r2) = true, Meets Try.prog 50 [(I p1.Code), (I 1), (I 17)] (B r3), litA (B r3) = true, (B (!r3)) = (B false), Meets Try.prog 50 [(I p1.A), (I 0), (I 999)] (B r6), litA (B r6) = true, (B (!r6)) = (B false), Meets Try.prog 50 [(I p1.B), (I 0), (I 999)] (B r9), litA (B r9) = true, (!r9) = false, RenOK [(1001, 1)] [((o93 p1))]]) (by kernel_rfl) ⟨(spec_l2Uses_m hr2), rfl, (spec_l1In_m hr3), rfl, (litB c5), (spec_l1In_m hr6), rfl, (litB c8), (spec_l1In_m hr9), rfl, c11, (rok rfl), trivial⟩ (spec_l2Plain_j0_m hP hn hx p1 r2  _ h)
noncomputable def body64 : Code := match Try.f64.body with | some c => c | none => .skip
noncomputable def spec_l2Op_j2  (p1 : GProg) (p3 : GOp) (v16 : Bool) : Option Bool :=
  if v16 = true then
    some (decide (p3.A < p1.Locks))
  else
    if (p3.Code == 14) = true then
      some (decide (p3.A < (p1.Routines.length : Int)))
    else
      if (p3.Code == 16) = true then
        if (decide (p3.A < p1.Conds)) = true then
          some (decide (p3.B < p1.Locks))
        else
          some false
      else
        if (p3.Code == 17) = true then
          some (decide (p3.A < p1.Conds))
        else
          some true
theorem spec_l2Op_j2_m {E : Env} (hP : E.P = Try.prog) (hn : E.n = 64) (hx : ∀ p, p ∈ E.fx → p.1 ∈ ([] : List Nat)) (p1 : GProg) (p3 : GOp)  (v16 : Bool) (r : Bool) (h : spec_l2Op_j2 p1 p3 v16 = some r) : WAt E body64 (FQ (RetE Θ Try.f64.results.toList [] [] (B r) E)) [true, true, false, true, false, true, true, true, true, true] ⟨[(3, (AV.ptr 1 0 0)), (5, (AV.ptr 2 0 0)), (11, (I p3.Code)), (27, (B v16))], [(1, some ⟨61, 4, [((r61 p1))]⟩), (2, some ⟨93, 4, [((o93 p3))]⟩)], [1, 2, JJ]⟩ := by
  have hm : E.P.follows .mixedOrders = true := by rw [hP]; exact mixed
  have hΘ : TOK E.P Θ := by rw [hP]; exact Θ_ok
  unfold spec_l2Op_j2 at h
  rcases itS h with ⟨c17, h⟩ | ⟨c18, h⟩
  · have h := Option.some.inj h
    subst h
    exact go_ret hΘ hm hP hn (hs := [⟨0, .br true, none⟩]) (rh := []) (ph := .raw) (ps := [v16 = true, (B (decide (p3.A < p1.Locks))) = (B (decide (p3.A < p1.Locks))), litA (B (decide (p3.A < p1.Locks))) = true]) (by kernel_rfl) ⟨c17, rfl, rfl, trivial⟩
  · rcases itS h with ⟨c19, h⟩ | ⟨c20, h⟩
    · have h := Option.some.inj h
      subst h
      exact go_ret hΘ hm hP hn (hs := [⟨0, .br false, none⟩, ⟨3, .br true, none⟩, ⟨8, .no, some (I (p1.Routines.length : Int))⟩]) (rh := []) (ph := .raw) (ps := [v16 = false, (p3.Code == 14) = true, AV.lit (.int .i64 (((p1.Routines.map r91).length : Nat) : Int)) = (I (p1.Routines.length : Int)), (B (decide (p3.A < (p1.Routines.length : Int)))) = (B (decide (p3.A < (p1.Routines.length : Int)))), litA (B (decide (p3.A < (p1.Routines.length : Int)))) = true]) (by kernel_rfl) ⟨c18, c19, (lenM r91), rfl, rfl, trivial⟩
    · rcases itS h with ⟨c21, h⟩ | ⟨c24, h⟩
      · rcases itS h with ⟨c22, h⟩ | ⟨c23, h⟩
        · have h := Option.some.inj h
          subst h
          exact go_ret hΘ hm hP hn (hs := [⟨0, .br false, none⟩, ⟨3, .br false, none⟩, ⟨6, .br true, none⟩, ⟨12, .no, some (B true)⟩]) (rh := []) (ph := .raw) (ps := [v16 = false, (p3.Code == 14) = false, (p3.Code == 16) = true, (B (decide (p3.A < p1.Conds))) = (B true), (B (decide (p3.B < p1.Locks))) = (B (decide (p3.B < p1.Locks))), litA (B (decide (p3.B < p1.Locks))) = true]) (by kernel_rfl) ⟨c18, c20, c21, (litB c22), rfl, rfl, trivial⟩
        · have h := Option.some.inj h
          subst h
          exact go_ret hΘ hm hP hn (hs := [⟨0, .br false, none⟩, ⟨3, .br false, none⟩, ⟨6, .br true, none⟩, ⟨12, .no, some (B false)⟩]) (rh := []) (ph := .raw) (ps := [v16 = false, (p3.Code == 14) = false, (p3.Code == 16) = true, (B (decide (p3.A < p1.Conds))) = (B false), (B false) = (B false), litA (B false) = true]) (by kernel_rfl) ⟨c18, c20, c21, (litB c23), rfl, rfl, trivial⟩
      · rcases itS h with ⟨c25, h⟩ | ⟨c26, h⟩
        · have h := Option.some.inj h
          subst h
          exact go_ret hΘ hm hP hn (hs := [⟨0, .br false, none⟩, ⟨3, .br false, none⟩, ⟨6, .br false, none⟩, ⟨9, .br true, none⟩]) (rh := []) (ph := .raw) (ps := [v16 = false, (p3.Code == 14) = false, (p3.Code == 16) = false, (p3.Code == 17) = true, (B (decide (p3.A < p1.Conds))) = (B (decide (p3.A < p1.Conds))), litA (B (decide (p3.A < p1.Conds))) = true]) (by kernel_rfl) ⟨c18, c20, c24, c25, rfl, rfl, trivial⟩
        · have h := Option.some.inj h
          subst h
          exact go_ret hΘ hm hP hn (hs := [⟨0, .br false, none⟩, ⟨3, .br false, none⟩, ⟨6, .br false, none⟩, ⟨9, .br false, none⟩]) (rh := []) (ph := .raw) (ps := [v16 = false, (p3.Code == 14) = false, (p3.Code == 16) = false, (p3.Code == 17) = false, (B true) = (B true), litA (B true) = true]) (by kernel_rfl) ⟨c18, c20, c24, c26, rfl, rfl, trivial⟩
noncomputable def spec_l2Op_j1  (p1 : GProg) (p2 : Int) (p3 : GOp) (v12 : Bool) : Option Bool :=
  if v12 = true then
    some (decide (p3.A ≤ p2))
  else
    if (p3.Code == 12) = true then
      spec_l2Op_j2 p1 p3 (p3.Code == 12)
    else
      spec_l2Op_j2 p1 p3 (p3.Code == 13)
theorem spec_l2Op_j1_m {E : Env} (hP : E.P = Try.prog) (hn : E.n = 64) (hx : ∀ p, p ∈ E.fx → p.1 ∈ ([] : List Nat)) (p1 : GProg) (p2 : Int) (p3 : GOp)  (v12 : Bool) (r : Bool) (h : spec_l2Op_j1 p1 p2 p3 v12 = some r) : WAt E body64 (FQ (RetE Θ Try.f64.results.toList [] [] (B r) E)) [true, true, false, true, false, true, true, true] ⟨[(1, (I p2)), (3, (AV.ptr 1 0 0)), (5, (AV.ptr 2 0 0)), (11, (I p3.Code)), (20, (B v12))], [(1, some ⟨61, 4, [((r61 p1))]⟩), (2, some ⟨93, 4, [((o93 p3))]⟩)], [1, 2, JJ]⟩ := by
  have hm : E.P.follows .mixedOrders = true := by rw [hP]; exact mixed
  have hΘ : TOK E.P Θ := by rw [hP]; exact Θ_ok
  unfold spec_l2Op_j1 at h
  rcases itS h with ⟨c13, h⟩ | ⟨c14, h⟩
  · have h := Option.some.inj h
    subst h
    exact go_ret hΘ hm hP hn (hs := [⟨0, .br true, none⟩]) (rh := []) (ph := .raw) (ps := [v12 = true, (B (decide (p3.A ≤ p2))) = (B (decide (p3.A ≤ p2))), litA (B (decide (p3.A ≤ p2))) = true]) (by kernel_rfl) ⟨c13, rfl, rfl, trivial⟩
  · rcases itS h with ⟨c15, h⟩ | ⟨c27, h⟩
    · exact go_to hΘ hm hx hP hn (hs := [⟨0, .br false, none⟩, ⟨3, .br true, none⟩]) (π := [(1, 1), (2, 2)]) (ts := [3, 5, 11, 27]) (kp := []) (ps := [v12 = false, (p3.Code == 12) = true, RenOK [(1, 1), (2, 2)] [((r61 p1))], RenOK [(1, 1), (2, 2)] [((o93 p3))]]) (by kernel_rfl) ⟨c14, c15, (rok (treeB t61 p1)), (rok rfl), trivial⟩ (spec_l2Op_j2_m hP hn hx p1 p3 (p3.Code == 12) _ h)
    · exact go_to hΘ hm hx hP hn (hs := [⟨0, .br false, none⟩, ⟨3, .br false, none⟩]) (π := [(1, 1), (2, 2)]) (ts := [3, 5, 11, 27]) (kp := []) (ps := [v12 = false, (p3.Code == 12) = false, RenOK [(1, 1), (2, 2)] [((r61 p1))], RenOK [(1, 1), (2, 2)] [((o93 p3))]]) (by kernel_rfl) ⟨c14, c27, (rok (treeB t61 p1)), (rok rfl), trivial⟩ (spec_l2Op_j2_m hP hn hx p1 p3 (p3.Code == 13) _ h)
noncomputable def spec_l2Op_j0  (p1 : GProg) (p2 : Int) (p3 : GOp) (v8 : Bool) : Option Bool :=
  if v8 = true then
    some (decide (p3.A < p1.Cells))
  else
    if (p3.Code == 10) = true then
      spec_l2Op_j1 p1 p2 p3 (p3.Code == 10)
    else
      spec_l2Op_j1 p1 p2 p3 (p3.Code == 11)
theorem spec_l2Op_j0_m {E : Env} (hP : E.P = Try.prog) (hn : E.n = 64) (hx : ∀ p, p ∈ E.fx → p.1 ∈ ([] : List Nat)) (p1 : GProg) (p2 : Int) (p3 : GOp)  (v8 : Bool) (r : Bool) (h : spec_l2Op_j0 p1 p2 p3 v8 = some r) : WAt E body64 (FQ (RetE Θ Try.f64.results.toList [] [] (B r) E)) [true, true, false, true, false, true] ⟨[(1, (I p2)), (3, (AV.ptr 1 0 0)), (5, (AV.ptr 2 0 0)), (11, (I p3.Code)), (12, (B v8))], [(1, some ⟨61, 4, [((r61 p1))]⟩), (2, some ⟨93, 4, [((o93 p3))]⟩)], [1, 2, JJ]⟩ := by
  have hm : E.P.follows .mixedOrders = true := by rw [hP]; exact mixed
  have hΘ : TOK E.P Θ := by rw [hP]; exact Θ_ok
  unfold spec_l2Op_j0 at h
  rcases itS h with ⟨c9, h⟩ | ⟨c10, h⟩
  · have h := Option.some.inj h
    subst h
    exact go_ret hΘ hm hP hn (hs := [⟨0, .br true, none⟩]) (rh := []) (ph := .raw) (ps := [v8 = true, (B (decide (p3.A < p1.Cells))) = (B (decide (p3.A < p1.Cells))), litA (B (decide (p3.A < p1.Cells))) = true]) (by kernel_rfl) ⟨c9, rfl, rfl, trivial⟩
  · rcases itS h with ⟨c11, h⟩ | ⟨c28, h⟩
    · exact go_to hΘ hm hx hP hn (hs := [⟨0, .br false, none⟩, ⟨3, .br true, none⟩]) (π := [(1, 1), (2, 2)]) (ts := [1, 3, 5, 11, 20]) (kp := []) (ps := [v8 = false, (p3.Code == 10) = true, RenOK [(1, 1), (2, 2)] [((r61 p1))], RenOK [(1, 1), (2, 2)] [((o93 p3))]]) (by kernel_rfl) ⟨c10, c11, (rok (treeB t61 p1)), (rok rfl), trivial⟩ (spec_l2Op_j1_m hP hn hx p1 p2 p3 (p3.Code == 10) _ h)
    · exact go_to hΘ hm hx hP hn (hs := [⟨0, .br false, none⟩, ⟨3, .br false, none⟩]) (π := [(1, 1), (2, 2)]) (ts := [1, 3, 5, 11, 20]) (kp := []) (ps := [v8 = false, (p3.Code == 10) = false, RenOK [(1, 1), (2, 2)] [((r61 p1))], RenOK [(1, 1), (2, 2)] [((o93 p3))]]) (by kernel_rfl) ⟨c10, c28, (rok (treeB t61 p1)), (rok rfl), trivial⟩ (spec_l2Op_j1_m hP hn hx p1 p2 p3 (p3.Code == 11) _ h)
noncomputable def spec_l2Op (p1 : GProg) (p2 : Int) (p3 : GOp) : Option Bool :=
  Option.bind (spec_l2Plain p3) fun r4 =>
  if (!r4) = true then
    some false
  else
    if (p3.Code == 2) = true then
      spec_l2Op_j0 p1 p2 p3 (p3.Code == 2)
    else
      spec_l2Op_j0 p1 p2 p3 (p3.Code == 3)
theorem spec_l2Op_m {p1 : GProg} {p2 : Int} {p3 : GOp} {r : Bool} (h : spec_l2Op p1 p2 p3 = some r) : Meets Try.prog 64 [(AV.agg ((r61 p1))), (I p2), (AV.agg ((o93 p3)))] (B r) := by
  refine meets_ofC Θ_ok Try.func64 rfl (c := body64) (by kernel_rfl) (Nat.le_of_ble_eq_true rfl) ?_
  intro E hP hn hx
  replace hn : E.n = 64 := hn
  have hm : E.P.follows .mixedOrders = true := by rw [hP]; exact mixed
  have hΘ : TOK E.P Θ := by rw [hP]; exact Θ_ok
  unfold spec_l2Op at h
  show WAt E body64 (FQ (RetE Θ Try.f64.results.toList [] [] (B r) E)) [] ⟨[(0, (AV.agg ((r61 p1)))), (1, (I p2)), (2, (AV.agg ((o93 p3))))], [], [JJ]⟩
  obtain ⟨r4, hr4, h⟩ := bnS h
  rcases itS h with ⟨c5, h⟩ | ⟨c6, h⟩
  · have h := Option.some.inj h
    subst h
    exact go_ret hΘ hm hP hn (hs := [⟨0, .new 1001, none⟩, ⟨1, .new 1002, none⟩, ⟨4, .callV [[]] (B r4), none⟩, ⟨6, .br true, none⟩]) (rh := []) (ph := .raw) (ps := [Meets Try.prog 98 [(AV.agg ((o93 p3)))] (B r4), litA (B r4) = true, (!r4) = true, (B false) = (B false), litA (B false) = true]) (by kernel_rfl) ⟨(spec_l2Plain_m hr4), rfl, c5, rfl, rfl, trivial⟩
  · rcases itS h with ⟨c7, h⟩ | ⟨c29, h⟩
    · exact go_to hΘ hm hx hP hn (hs := [⟨0, .new 1001, none⟩, ⟨1, .new 1002, none⟩, ⟨4, .callV [[]] (B r4), none⟩, ⟨6, .br false, none⟩, ⟨11, .br true, none⟩]) (π := [(1001, 1), (1002, 2)]) (ts := [1, 3, 5, 11, 12]) (kp := []) (ps := [Meets Try.prog 98 [(AV.agg ((o93 p3)))] (B r4), litA (B r4) = true, (!r4) = false, (p3.Code == 2) = true, RenOK [(1001, 1), (1002, 2)] [((r61 p1))], RenOK [(1001, 1), (1002, 2)] [((o93 p3))]]) (by kernel_rfl) ⟨(spec_l2Plain_m hr4), rfl, c6, c7, (rok (treeB t61 p1)), (rok rfl), trivial⟩ (spec_l2Op_j0_m hP hn hx p1 p2 p3 (p3.Code == 2) _ h)
    · exact go_to hΘ hm hx hP hn (hs := [⟨0, .new 1001, none⟩, ⟨1, .new 1002, none⟩, ⟨4, .callV [[]] (B r4), none⟩, ⟨6, .br false, none⟩, ⟨11, .br false, none⟩]) (π := [(1001, 1), (1002, 2)]) (ts := [1, 3, 5, 11, 12]) (kp := []) (ps := [Meets Try.prog 98 [(AV.agg ((o93 p3)))] (B r4), litA (B r4) = true, (!r4) = false, (p3.Code == 2) = false, RenOK [(1001, 1), (1002, 2)] [((r61 p1))], RenOK [(1001, 1), (1002, 2)] [((o93 p3))]]) (by kernel_rfl) ⟨(spec_l2Plain_m hr4), rfl, c6, c29, (rok (treeB t61 p1)), (rok rfl), trivial⟩ (spec_l2Op_j0_m hP hn hx p1 p2 p3 (p3.Code == 3) _ h)
noncomputable def body36 : Code := match Try.f36.body with | some c => c | none => .skip
noncomputable def spec_GoodProg_l1 (K0 : GProg → Int → Option Bool) (p1 : GProg) (v15 : Int) (x17 : (List GOp)) : Nat → GProg → Int → Option Bool
  | 0, _, _ => none
  | n + 1, a18, v19 =>
  if (decide (v19 < (x17.length : Int))) = true then
    Option.bind (rd x17 v19) fun x21 =>
    Option.bind (spec_l2Op a18 (x17.length : Int) x21) fun r22 =>
    if (!r22) = true then
      some false
    else
      spec_GoodProg_l1 K0 p1 v15 x17 n a18 (w64 (v19 + 1))
  else
    if (decide ((x17.length : Int) > 24)) = true then
      some false
    else
      K0 a18 (w64 (v15 + 1))
theorem spec_GoodProg_l1_m {E : Env} (hP : E.P = Try.prog) (hn : E.n = 54) (hx : ∀ p, p ∈ E.fx → p.1 ∈ ([] : List Nat)) (p1 : GProg) (v15 : Int) (x17 : (List GOp)) {K0 : GProg → Int → Option Bool} (hK0 : ∀ (a14 : GProg) (v15 : Int) (r : Bool), K0 a14 v15 = some r → WAt E body36 (FQ (RetE Θ Try.f36.results.toList [] [] (B r) E)) [true, true, false, true, false] ⟨[(1, (AV.ptr 1 0 0)), (31, (AV.ro 1 (p1.Routines.map r91))), (32, (I (p1.Routines.length : Int))), (33, (I v15))], [(1, some ⟨61, 4, [((r61 a14))]⟩)], [1, JJ]⟩) : ∀ (n : Nat) (a18 : GProg) (v19 : Int) (r : Bool), spec_GoodProg_l1 K0 p1 v15 x17 n a18 v19 = some r → WAt E body36 (FQ (RetE Θ Try.f36.results.toList [] [] (B r) E)) [true, true, false, true, false, false, true, true, false, false, true, false, true, false] ⟨[(1, (AV.ptr 1 0 0)), (4, (AV.ro 4 (x17.map o93))), (31, (AV.ro 1 (p1.Routines.map r91))), (32, (I (p1.Routines.length : Int))), (33, (I v15)), (37, (AV.ro 4 (x17.map o93))), (38, (I (x17.length : Int))), (39, (I v19))], [(1, some ⟨61, 4, [((r61 a18))]⟩)], [1, JJ]⟩ := by
  have hm : E.P.follows .mixedOrders = true := by rw [hP]; exact mixed
  have hΘ : TOK E.P Θ := by rw [hP]; exact Θ_ok
  intro n
  induction n with
  | zero => intro a18 v19 r h; simp only [spec_GoodProg_l1] at h; cases h
  | succ n ih =>
    intro a18 v19 r h
    simp only [spec_GoodProg_l1] at h
    rcases itS h with ⟨c20, h⟩ | ⟨c25, h⟩
    · obtain ⟨x21, hx21, h⟩ := bnS h
      obtain ⟨r22, hr22, h⟩ := bnS h
      rcases itS h with ⟨c23, h⟩ | ⟨c24, h⟩
      · have h := Option.some.inj h
        subst h
        exact go_ret hΘ hm hP hn (hs := [⟨1, .br true, none⟩, ⟨2, .row (o93 x21), none⟩, ⟨4, .new 1001, none⟩, ⟨8, .no, some (I (x17.length : Int))⟩, ⟨10, .callV [[], []] (B r22), none⟩, ⟨12, .br true, none⟩]) (rh := []) (ph := .raw) (ps := [(decide (v19 < (x17.length : Int))) = true, (0 : Int) ≤ v19, (x17.map o93)[(Int.toNat v19)]? = some (o93 x21), AV.lit (.int .i64 (((x17.map o93).length : Nat) : Int)) = (I (x17.length : Int)), Meets Try.prog 64 [(AV.agg ((r61 a18))), (I (x17.length : Int)), (AV.agg ((o93 x21)))] (B r22), litA (B r22) = true, (!r22) = true, (B false) = (B false), litA (B false) = true]) (by kernel_rfl) ⟨c20, (rd0 hx21), (rdM o93 hx21), (lenM o93), (spec_l2Op_m hr22), rfl, c23, rfl, rfl, trivial⟩
      · exact go_to hΘ hm hx hP hn (hs := [⟨1, .br true, none⟩, ⟨2, .row (o93 x21), none⟩, ⟨4, .new 1001, none⟩, ⟨8, .no, some (I (x17.length : Int))⟩, ⟨10, .callV [[], []] (B r22), none⟩, ⟨12, .br false, none⟩]) (π := [(1, 1)]) (ts := [1, 4, 31, 32, 33, 37, 38, 39]) (kp := []) (ps := [(decide (v19 < (x17.length : Int))) = true, (0 : Int) ≤ v19, (x17.map o93)[(Int.toNat v19)]? = some (o93 x21), AV.lit (.int .i64 (((x17.map o93).length : Nat) : Int)) = (I (x17.length : Int)), Meets Try.prog 64 [(AV.agg ((r61 a18))), (I (x17.length : Int)), (AV.agg ((o93 x21)))] (B r22), litA (B r22) = true, (!r22) = false, RenOK [(1, 1)] [((r61 a18))]]) (by kernel_rfl) ⟨c20, (rd0 hx21), (rdM o93 hx21), (lenM o93), (spec_l2Op_m hr22), rfl, c24, (rok (treeB t61 a18)), trivial⟩ (ih a18 (w64 (v19 + 1)) _ h)
    · rcases itS h with ⟨c26, h⟩ | ⟨c27, h⟩
      · have h := Option.some.inj h
        subst h
        exact go_ret hΘ hm hP hn (hs := [⟨1, .br false, none⟩, ⟨3, .no, some (I (x17.length : Int))⟩, ⟨5, .br true, none⟩]) (rh := []) (ph := .raw) (ps := [(decide (v19 < (x17.length : Int))) = false, AV.lit (.int .i64 (((x17.map o93).length : Nat) : Int)) = (I (x17.length : Int)), (decide ((x17.length : Int) > 24)) = true, (B false) = (B false), litA (B false) = true]) (by kernel_rfl) ⟨c25, (lenM o93), c26, rfl, rfl, trivial⟩
      · exact go_to hΘ hm hx hP hn (hs := [⟨1, .br false, none⟩, ⟨3, .no, some (I (x17.length : Int))⟩, ⟨5, .br false, none⟩]) (π := [(1, 1)]) (ts := [1, 31, 32, 33]) (kp := []) (ps := [(decide (v19 < (x17.length : Int))) = false, AV.lit (.int .i64 (((x17.map o93).length : Nat) : Int)) = (I (x17.length : Int)), (decide ((x17.length : Int) > 24)) = false, RenOK [(1, 1)] [((r61 a18))]]) (by kernel_rfl) ⟨c25, (lenM o93), c27, (rok (treeB t61 a18)), trivial⟩ (hK0 a18 (w64 (v15 + 1)) _ h)
noncomputable def spec_GoodProg_l0  (p1 : GProg) : Nat → GProg → Int → Option Bool
  | 0, _, _ => none
  | n + 1, a14, v15 =>
  if (decide (v15 < (p1.Routines.length : Int))) = true then
    Option.bind (rd p1.Routines v15) fun x17 =>
    spec_GoodProg_l1 (spec_GoodProg_l0 p1 n) p1 v15 x17 FU a14 0
  else
    some true
theorem spec_GoodProg_l0_m {E : Env} (hP : E.P = Try.prog) (hn : E.n = 54) (hx : ∀ p, p ∈ E.fx → p.1 ∈ ([] : List Nat)) (p1 : GProg)  : ∀ (n : Nat) (a14 : GProg) (v15 : Int) (r : Bool), spec_GoodProg_l0 p1 n a14 v15 = some r → WAt E body36 (FQ (RetE Θ Try.f36.results.toList [] [] (B r) E)) [true, true, false, true, false] ⟨[(1, (AV.ptr 1 0 0)), (31, (AV.ro 1 (p1.Routines.map r91))), (32, (I (p1.Routines.length : Int))), (33, (I v15))], [(1, some ⟨61, 4, [((r61 a14))]⟩)], [1, JJ]⟩ := by
  have hm : E.P.follows .mixedOrders = true := by rw [hP]; exact mixed
  have hΘ : TOK E.P Θ := by rw [hP]; exact Θ_ok
  intro n
  induction n with
  | zero => intro a14 v15 r h; simp only [spec_GoodProg_l0] at h; cases h
  | succ n ih =>
    intro a14 v15 r h
    simp only [spec_GoodProg_l0] at h
    rcases itS h with ⟨c16, h⟩ | ⟨c28, h⟩
    · obtain ⟨x17, hx17, h⟩ := bnS h
      exact go_to hΘ hm hx hP hn (hs := [⟨1, .br true, none⟩, ⟨2, .row (r91 x17), none⟩, ⟨6, .no, some (I (x17.length : Int))⟩]) (π := [(1, 1)]) (ts := [1, 4, 31, 32, 33, 37, 38, 39]) (kp := []) (ps := [(decide (v15 < (p1.Routines.length : Int))) = true, (0 : Int) ≤ v15, (p1.Routines.map r91)[(Int.toNat v15)]? = some (r91 x17), AV.lit (.int .i64 (((x17.map o93).length : Nat) : Int)) = (I (x17.length : Int)), RenOK [(1, 1)] [((r61 a14))]]) (by kernel_rfl) ⟨c16, (rd0 hx17), (rdM r91 hx17), (lenM o93), (rok (treeB t61 a14)), trivial⟩ (spec_GoodProg_l1_m hP hn hx p1 v15 x17 ih FU a14 0 _ h)
    · have h := Option.some.inj h
      subst h
      exact go_ret hΘ hm hP hn (hs := [⟨1, .br false, none⟩]) (rh := []) (ph := .raw) (ps := [(decide (v15 < (p1.Routines.length : Int))) = false, (B true) = (B true), litA (B true) = true]) (by kernel_rfl) ⟨c28, rfl, rfl, trivial⟩
noncomputable def spec_GoodProg (p1 : GProg) : Option Bool :=
  Option.bind (spec_l1In p1.Cells 0 4) fun r2 =>
  if (!r2) = true then
    some false
  else
    Option.bind (spec_l1In p1.Locks 0 4) fun r5 =>
    if (!r5) = true then
      some false
    else
      Option.bind (spec_l1In p1.Conds 0 2) fun r8 =>
      if (!r8) = true then
        some false
      else
        Option.bind (spec_l1In (p1.Routines.length : Int) 1 4) fun r11 =>
        if (!r11) = true then
          some false
        else
          spec_GoodProg_l0 p1 FU p1 0
theorem spec_GoodProg_m {p1 : GProg} {r : Bool} (h : spec_GoodProg p1 = some r) : Meets Try.prog 36 [(AV.agg ((r61 p1)))] (B r) := by
  refine meets_ofC Θ_ok Try.func36 rfl (c := body36) (by kernel_rfl) (Nat.le_of_ble_eq_true rfl) ?_
  intro E hP hn hx
  replace hn : E.n = 54 := hn
  have hm : E.P.follows .mixedOrders = true := by rw [hP]; exact mixed
  have hΘ : TOK E.P Θ := by rw [hP]; exact Θ_ok
  unfold spec_GoodProg at h
  show WAt E body36 (FQ (RetE Θ Try.f36.results.toList [] [] (B r) E)) [] ⟨[(0, (AV.agg ((r61 p1))))], [], [JJ]⟩
  obtain ⟨r2, hr2, h⟩ := bnS h
  rcases itS h with ⟨c3, h⟩ | ⟨c4, h⟩
  · have h := Option.some.inj h
    subst h
    exact go_ret hΘ hm hP hn (hs := [⟨0, .new 1001, none⟩, ⟨4, .callV [] (B r2), none⟩, ⟨6, .no, some (B true)⟩]) (rh := []) (ph := .raw) (ps := [Meets Try.prog 50 [(I p1.Cells), (I 0), (I 4)] (B r2), litA (B r2) = true, (B (!r2)) = (B true), (B false) = (B false), litA (B false) = true]) (by kernel_rfl) ⟨(spec_l1In_m hr2), rfl, (litB c3), rfl, rfl, trivial⟩
  · obtain ⟨r5, hr5, h⟩ := bnS h
    rcases itS h with ⟨c6, h⟩ | ⟨c7, h⟩
    · have h := Option.some.inj h
      subst h
      exact go_ret hΘ hm hP hn (hs := [⟨0, .new 1001, none⟩, ⟨4, .callV [] (B r2), none⟩, ⟨6, .no, some (B false)⟩, ⟨9, .callV [] (B r5), none⟩, ⟨12, .no, some (B true)⟩]) (rh := []) (ph := .raw) (ps := [Meets Try.prog 50 [(I p1.Cells), (I 0), (I 4)] (B r2), litA (B r2) = true, (B (!r2)) = (B false), Meets Try.prog 50 [(I p1.Locks), (I 0), (I 4)] (B r5), litA (B r5) = true, (B (!r5)) = (B true), (B false) = (B false), litA (B false) = true]) (by kernel_rfl) ⟨(spec_l1In_m hr2), rfl, (litB c4), (spec_l1In_m hr5), rfl, (litB c6), rfl, rfl, trivial⟩
    · obtain ⟨r8, hr8, h⟩ := bnS h
      rcases itS h with ⟨c9, h⟩ | ⟨c10, h⟩
      · have h := Option.some.inj h
        subst h
        exact go_ret hΘ hm hP hn (hs := [⟨0, .new 1001, none⟩, ⟨4, .callV [] (B r2), none⟩, ⟨6, .no, some (B false)⟩, ⟨9, .callV [] (B r5), none⟩, ⟨12, .no, some (B false)⟩, ⟨15, .callV [] (B r8), none⟩, ⟨18, .no, some (B true)⟩]) (rh := []) (ph := .raw) (ps := [Meets Try.prog 50 [(I p1.Cells), (I 0), (I 4)] (B r2), litA (B r2) = true, (B (!r2)) = (B false), Meets Try.prog 50 [(I p1.Locks), (I 0), (I 4)] (B r5), litA (B r5) = true, (B (!r5)) = (B false), Meets Try.prog 50 [(I p1.Conds), (I 0), (I 2)] (B r8), litA (B r8) = true, (B (!r8)) = (B true), (B false) = (B false), litA (B false) = true]) (by kernel_rfl) ⟨(spec_l1In_m hr2), rfl, (litB c4), (spec_l1In_m hr5), rfl, (litB c7), (spec_l1In_m hr8), rfl, (litB c9), rfl, rfl, trivial⟩
      · obtain ⟨r11, hr11, h⟩ := bnS h
        rcases itS h with ⟨c12, h⟩ | ⟨c13, h⟩
        · have h := Option.some.inj h
          subst h
          exact go_ret hΘ hm hP hn (hs := [⟨0, .new 1001, none⟩, ⟨4, .callV [] (B r2), none⟩, ⟨6, .no, some (B false)⟩, ⟨9, .callV [] (B r5), none⟩, ⟨12, .no, some (B false)⟩, ⟨15, .callV [] (B r8), none⟩, ⟨18, .no, some (B false)⟩, ⟨21, .no, some (I (p1.Routines.length : Int))⟩, ⟨22, .callV [] (B r11), none⟩, ⟨25, .br true, none⟩]) (rh := []) (ph := .raw) (ps := [Meets Try.prog 50 [(I p1.Cells), (I 0), (I 4)] (B r2), litA (B r2) = true, (B (!r2)) = (B false), Meets Try.prog 50 [(I p1.Locks), (I 0), (I 4)] (B r5), litA (B r5) = true, (B (!r5)) = (B false), Meets Try.prog 50 [(I p1.Conds), (I 0), (I 2)] (B r8), litA (B r8) = true, (B (!r8)) = (B false), AV.lit (.int .i64 (((p1.Routines.map r91).length : Nat) : Int)) = (I (p1.Routines.length : Int)), Meets Try.prog 50 [(I (p1.Routines.length : Int)), (I 1), (I 4)] (B r11), litA (B r11) = true, (!r11) = true, (B false) = (B false), litA (B false) = true]) (by kernel_rfl) ⟨(spec_l1In_m hr2), rfl, (litB c4), (spec_l1In_m hr5), rfl, (litB c7), (spec_l1In_m hr8), rfl, (litB c10), (lenM r91), (spec_l1In_m hr11), rfl, c12, rfl, rfl, trivial⟩
        · exact go_to hΘ hm hx hP hn (hs := [⟨0, .new 1001, none⟩, ⟨4, .callV [] (B r2), none⟩, ⟨6, .no, some (B false)⟩, ⟨9, .callV [] (B r5), none⟩, ⟨12, .no, some (B false)⟩, ⟨15, .callV [] (B r8), none⟩, ⟨18, .no, some (B false)⟩, ⟨21, .no, some (I (p1.Routines.length : Int))⟩, ⟨22, .callV [] (B r11), none⟩, ⟨25, .br false, none⟩, ⟨28, .no, some (I (p1.Routines.length : Int))⟩]) (π := [(1001, 1)]) (ts := [1, 31, 32, 33]) (kp := []) (ps := [Meets Try.prog 50 [(I p1.Cells), (I 0), (I 4)] (B r2), litA (B r2) = true, (B (!r2)) = (B false), Meets Try.prog 50 [(I p1.Locks), (I 0), (I 4)] (B r5), litA (B r5) = true, (B (!r5)) = (B false), Meets Try.prog 50 [(I p1.Conds), (I 0), (I 2)] (B r8), litA (B r8) = true, (B (!r8)) = (B false), AV.lit (.int .i64 (((p1.Routines.map r91).length : Nat) : Int)) = (I (p1.Routines.length : Int)), Meets Try.prog 50 [(I (p1.Routines.length : Int)), (I 1), (I 4)] (B r11), litA (B r11) = true, (!r11) = false, AV.lit (.int .i64 (((p1.Routines.map r91).length : Nat) : Int)) = (I (p1.Routines.length : Int)), RenOK [(1001, 1)] [((r61 p1))]]) (by kernel_rfl) ⟨(spec_l1In_m hr2), rfl, (litB c4), (spec_l1In_m hr5), rfl, (litB c7), (spec_l1In_m hr8), rfl, (litB c10), (lenM r91), (spec_l1In_m hr11), rfl, c13, (lenM r91), (rok (treeB t61 p1)), trivial⟩ (spec_GoodProg_l0_m hP hn hx p1 FU p1 0 _ h)
noncomputable def body8 : Code := match Try.f8.body with | some c => c | none => .skip
noncomputable def laws_FnExactGoodProg (p1 : GProg) : Option Bool :=
  Option.bind (laws_szProg p1 1048576) fun r2 =>
  if (decide (r2 < 0)) = true then
    some true
  else
    Option.bind (laws_toProg p1) fun r5 =>
    Option.bind (spec_GoodProg (GProg.mk r5.Cells r5.Locks r5.Conds r5.Routines)) fun r6 =>
    Option.bind (laws_toProg p1) fun r7 =>
    Option.bind (impl_GoodProg (GProg.mk r7.Cells r7.Locks r7.Conds r7.Routines)) fun r8 =>
    if (!(r8 == r6)) = true then
      some false
    else
      Option.bind (laws_toProg p1) fun r11 =>
      Option.bind (laws_eqProg (GProg.mk r7.Cells r7.Locks r7.Conds r7.Routines) (GProg.mk r11.Cells r11.Locks r11.Conds r11.Routines)) fun r12 =>
      if (!r12) = true then
        some false
      else
        some true
theorem laws_FnExactGoodProg_m {p1 : GProg} {r : Bool} (h : laws_FnExactGoodProg p1 = some r) : Meets Try.prog 8 [(AV.agg ((r56 p1)))] (B r) := by
  refine meets_ofC Θ_ok Try.func8 rfl (c := body8) (by kernel_rfl) (Nat.le_of_ble_eq_true rfl) ?_
  intro E hP hn hx
  replace hn : E.n = 27 := hn
  have hm : E.P.follows .mixedOrders = true := by rw [hP]; exact mixed
  have hΘ : TOK E.P Θ := by rw [hP]; exact Θ_ok
  unfold laws_FnExactGoodProg at h
  show WAt E body8 (FQ (RetE Θ Try.f8.results.toList [] [] (B r) E)) [] ⟨[(0, (AV.agg ((r56 p1))))], [], [JJ]⟩
  obtain ⟨r2, hr2, h⟩ := bnS h
  rcases itS h with ⟨c3, h⟩ | ⟨c4, h⟩
  · have h := Option.some.inj h
    subst h
    exact go_ret hΘ hm hP hn (hs := [⟨0, .new 1001, none⟩, ⟨5, .callV [[]] (I r2), none⟩, ⟨9, .br true, none⟩]) (rh := []) (ph := .raw) (ps := [Meets Try.prog 35 [(AV.agg ((r56 p1))), (I 1048576)] (I r2), litA (I r2) = true, (decide (r2 < 0)) = true, (B true) = (B true), litA (B true) = true]) (by kernel_rfl) ⟨(laws_szProg_m hr2), rfl, c3, rfl, rfl, trivial⟩
  · obtain ⟨r5, hr5, h⟩ := bnS h
    obtain ⟨r6, hr6, h⟩ := bnS h
    obtain ⟨r7, hr7, h⟩ := bnS h
    obtain ⟨r8, hr8, h⟩ := bnS h
    rcases itS h with ⟨c9, h⟩ | ⟨c10, h⟩
    · have h := Option.some.inj h
      subst h
      exact go_ret hΘ hm hP hn (hs := [⟨0, .new 1001, none⟩, ⟨5, .callV [[]] (I r2), none⟩, ⟨9, .br false, none⟩, ⟨11, .call [[]] (AV.agg (o61 r5)) [1002], none⟩, ⟨12, .callV [[], (r5.Routines.map r91)] (B r6), none⟩, ⟨15, .call [[]] (AV.agg (o61 r7)) [1003], none⟩, ⟨16, .new 1004, none⟩, ⟨19, .callV [[], (r7.Routines.map r91)] (B r8), none⟩, ⟨24, .br true, none⟩]) (rh := []) (ph := .raw) (ps := [Meets Try.prog 35 [(AV.agg ((r56 p1))), (I 1048576)] (I r2), litA (I r2) = true, (decide (r2 < 0)) = false, Meets Try.prog 37 [(AV.agg ((r56 p1)))] (AV.agg (o61 r5)), noRo (AV.agg (o61 r5)) = true, Meets Try.prog 36 [(AV.agg [(I r5.Cells), (I r5.Locks), (I r5.Conds), (AV.ro 1 (r5.Routines.map r91))])] (B r6), litA (B r6) = true, Frz (((r5.Routines.map o91).drop 0).take (List.length (r5.Routines.map o91))) (r5.Routines.map r91), Meets Try.prog 37 [(AV.agg ((r56 p1)))] (AV.agg (o61 r7)), noRo (AV.agg (o61 r7)) = true, Meets Try.prog 38 [(AV.agg [(I r7.Cells), (I r7.Locks), (I r7.Conds), (AV.ro 1 (r7.Routines.map r91))])] (B r8), litA (B r8) = true, Frz (((r7.Routines.map o91).drop 0).take (List.length (r7.Routines.map o91))) (r7.Routines.map r91), (!(r8 == r6)) = true, (B false) = (B false), litA (B false) = true]) (by kernel_rfl) ⟨(laws_szProg_m hr2), rfl, c4, (laws_toProg_m hr5), (by simp only [noRo, noRoL, noRoM n91, o61, Bool.and_self]), (spec_GoodProg_m hr6), rfl, (frzF t91 z91), (laws_toProg_m hr7), (by simp only [noRo, noRoL, noRoM n91, o61, Bool.and_self]), (impl_GoodProg_m hr8), rfl, (frzF t91 z91), c9, rfl, rfl, trivial⟩
    · obtain ⟨r11, hr11, h⟩ := bnS h
      obtain ⟨r12, hr12, h⟩ := bnS h
      rcases itS h with ⟨c13, h⟩ | ⟨c14, h⟩
      · have h := Option.some.inj h
        subst h
        exact go_ret hΘ hm hP hn (hs := [⟨0, .new 1001, none⟩, ⟨5, .callV [[]] (I r2), none⟩, ⟨9, .br false, none⟩, ⟨11, .call [[]] (AV.agg (o61 r5)) [1002], none⟩, ⟨12, .callV [[], (r5.Routines.map r91)] (B r6), none⟩, ⟨15, .call [[]] (AV.agg (o61 r7)) [1003], none⟩, ⟨16, .new 1004, none⟩, ⟨19, .callV [[], (r7.Routines.map r91)] (B r8), none⟩, ⟨24, .br false, none⟩, ⟨27, .call [[]] (AV.agg (o61 r11)) [1005], none⟩, ⟨29, .callV [[], (r7.Routines.map r91), [], (r11.Routines.map r91)] (B r12), none⟩, ⟨31, .br true, none⟩]) (rh := []) (ph := .raw) (ps := [Meets Try.prog 35 [(AV.agg ((r56 p1))), (I 1048576)] (I r2), litA (I r2) = true, (decide (r2 < 0)) = false, Meets Try.prog 37 [(AV.agg ((r56 p1)))] (AV.agg (o61 r5)), noRo (AV.agg (o61 r5)) = true, Meets Try.prog 36 [(AV.agg [(I r5.Cells), (I r5.Locks), (I r5.Conds), (AV.ro 1 (r5.Routines.map r91))])] (B r6), litA (B r6) = true, Frz (((r5.Routines.map o91).drop 0).take (List.length (r5.Routines.map o91))) (r5.Routines.map r91), Meets Try.prog 37 [(AV.agg ((r56 p1)))] (AV.agg (o61 r7)), noRo (AV.agg (o61 r7)) = true, Meets Try.prog 38 [(AV.agg [(I r7.Cells), (I r7.Locks), (I r7.Conds), (AV.ro 1 (r7.Routines.map r91))])] (B r8), litA (B r8) = true, Frz (((r7.Routines.map o91).drop 0).take (List.length (r7.Routines.map o91))) (r7.Routines.map r91), (!(r8 == r6)) = false, Meets Try.prog 37 [(AV.agg ((r56 p1)))] (AV.agg (o61 r11)), noRo (AV.agg (o61 r11)) = true, (AV.agg [(I r7.Cells), (I r7.Locks), (I r7.Conds), (AV.sl 1003 0 (List.length (r7.Routines.map o91)))]) = (AV.agg [(I r7.Cells), (I r7.Locks), (I r7.Conds), (AV.sl 1003 0 (List.length (r7.Routines.map o91)))]), Meets Try.prog 39 [(AV.agg [(I r7.Cells), (I r7.Locks), (I r7.Conds), (AV.ro 1 (r7.Routines.map r91))]), (AV.agg [(I r11.Cells), (I r11.Locks), (I r11.Conds), (AV.ro 1 (r11.Routines.map r91))])] (B r12), litA (B r12) = true, Frz (((r7.Routines.map o91).drop 0).take (List.length (r7.Routines.map o91))) (r7.Routines.map r91), Frz (((r11.Routines.map o91).drop 0).take (List.length (r11.Routines.map o91))) (r11.Routines.map r91), (!r12) = true, (B false) = (B false), litA (B false) = true]) (by kernel_rfl) ⟨(laws_szProg_m hr2), rfl, c4, (laws_toProg_m hr5), (by simp only [noRo, noRoL, noRoM n91, o61, Bool.and_self]), (spec_GoodProg_m hr6), rfl, (frzF t91 z91), (laws_toProg_m hr7), (by simp only [noRo, noRoL, noRoM n91, o61, Bool.and_self]), (impl_GoodProg_m hr8), rfl, (frzF t91 z91), c10, (laws_toProg_m hr11), (by simp only [noRo, noRoL, noRoM n91, o61, Bool.and_self]), rfl, (laws_eqProg_m hr12), rfl, (frzF t91 z91), (frzF t91 z91), c13, rfl, rfl, trivial⟩
      · have h := Option.some.inj h
        subst h
        exact go_ret hΘ hm hP hn (hs := [⟨0, .new 1001, none⟩, ⟨5, .callV [[]] (I r2), none⟩, ⟨9, .br false, none⟩, ⟨11, .call [[]] (AV.agg (o61 r5)) [1002], none⟩, ⟨12, .callV [[], (r5.Routines.map r91)] (B r6), none⟩, ⟨15, .call [[]] (AV.agg (o61 r7)) [1003], none⟩, ⟨16, .new 1004, none⟩, ⟨19, .callV [[], (r7.Routines.map r91)] (B r8), none⟩, ⟨24, .br false, none⟩, ⟨27, .call [[]] (AV.agg (o61 r11)) [1005], none⟩, ⟨29, .callV [[], (r7.Routines.map r91), [], (r11.Routines.map r91)] (B r12), none⟩, ⟨31, .br false, none⟩]) (rh := []) (ph := .raw) (ps := [Meets Try.prog 35 [(AV.agg ((r56 p1))), (I 1048576)] (I r2), litA (I r2) = true, (decide (r2 < 0)) = false, Meets Try.prog 37 [(AV.agg ((r56 p1)))] (AV.agg (o61 r5)), noRo (AV.agg (o61 r5)) = true, Meets Try.prog 36 [(AV.agg [(I r5.Cells), (I r5.Locks), (I r5.Conds), (AV.ro 1 (r5.Routines.map r91))])] (B r6), litA (B r6) = true, Frz (((r5.Routines.map o91).drop 0).take (List.length (r5.Routines.map o91))) (r5.Routines.map r91), Meets Try.prog 37 [(AV.agg ((r56 p1)))] (AV.agg (o61 r7)), noRo (AV.agg (o61 r7)) = true, Meets Try.prog 38 [(AV.agg [(I r7.Cells), (I r7.Locks), (I r7.Conds), (AV.ro 1 (r7.Routines.map r91))])] (B r8), litA (B r8) = true, Frz (((r7.Routines.map o91).drop 0).take (List.length (r7.Routines.map o91))) (r7.Routines.map r91), (!(r8 == r6)) = false, Meets Try.prog 37 [(AV.agg ((r56 p1)))] (AV.agg (o61 r11)), noRo (AV.agg (o61 r11)) = true, (AV.agg [(I r7.Cells), (I r7.Locks), (I r7.Conds), (AV.sl 1003 0 (List.length (r7.Routines.map o91)))]) = (AV.agg [(I r7.Cells), (I r7.Locks), (I r7.Conds), (AV.sl 1003 0 (List.length (r7.Routines.map o91)))]), Meets Try.prog 39 [(AV.agg [(I r7.Cells), (I r7.Locks), (I r7.Conds), (AV.ro 1 (r7.Routines.map r91))]), (AV.agg [(I r11.Cells), (I r11.Locks), (I r11.Conds), (AV.ro 1 (r11.Routines.map r91))])] (B r12), litA (B r12) = true, Frz (((r7.Routines.map o91).drop 0).take (List.length (r7.Routines.map o91))) (r7.Routines.map r91), Frz (((r11.Routines.map o91).drop 0).take (List.length (r11.Routines.map o91))) (r11.Routines.map r91), (!r12) = false, (B true) = (B true), litA (B true) = true]) (by kernel_rfl) ⟨(laws_szProg_m hr2), rfl, c4, (laws_toProg_m hr5), (by simp only [noRo, noRoL, noRoM n91, o61, Bool.and_self]), (spec_GoodProg_m hr6), rfl, (frzF t91 z91), (laws_toProg_m hr7), (by simp only [noRo, noRoL, noRoM n91, o61, Bool.and_self]), (impl_GoodProg_m hr8), rfl, (frzF t91 z91), c10, (laws_toProg_m hr11), (by simp only [noRo, noRoL, noRoM n91, o61, Bool.and_self]), rfl, (laws_eqProg_m hr12), rfl, (frzF t91 z91), (frzF t91 z91), c14, rfl, rfl, trivial⟩
end Go.Proofs.Ytefcdjocfjpjgaa
