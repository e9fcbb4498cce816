/- Functions as plain data, and that the code comes to them; no condition. -/

import Derived.Test.YtgofeoobgpadiaaGT
set_option linter.unusedVariables false
set_option maxRecDepth 100000
namespace Go.Proofs.Ytgofeoobgpadiaa
open Go Go.T
noncomputable def body44 : Code := match Try.f44.body with | some c => c | none => .skip
noncomputable def impl_in (p1 : Int) (p2 : Int) (p3 : Int) : Option Bool :=
  if (decide (p2 ≤ p1)) = true then
    some (decide (p1 ≤ p3))
  else
    some false
theorem impl_in_m {p1 : Int} {p2 : Int} {p3 : Int} {r : Bool} (h : impl_in p1 p2 p3 = some r) : Meets Try.prog 44 [(I p1), (I p2), (I p3)] (B r) := by
  refine meets_ofC Θ_ok Try.func44 rfl (c := body44) (by kernel_rfl) (Nat.le_of_ble_eq_true rfl) ?_
  intro E hP hn hx
  replace hn : E.n = 15 := hn
  have hm : E.P.follows .mixedOrders = true := by rw [hP]; exact mixed
  have hΘ : TOK E.P Θ := by rw [hP]; exact Θ_ok
  unfold impl_in at h
  show WAt E body44 (FQ (RetE Θ Try.f44.results.toList [] [] (B r) E)) [] ⟨[(0, (I p1)), (1, (I p2)), (2, (I p3))], [], [JJ]⟩
  rcases itS h with ⟨c4, h⟩ | ⟨c5, h⟩
  · have h := Option.some.inj h
    subst h
    exact go_ret hΘ hm hP hn (hs := [⟨4, .no, some (B true)⟩]) (rh := []) (ph := .raw) (ps := [(B (decide (p2 ≤ p1))) = (B true), (B (decide (p1 ≤ p3))) = (B (decide (p1 ≤ p3))), litA (B (decide (p1 ≤ p3))) = true]) (by kernel_rfl) ⟨(litB c4), rfl, rfl, trivial⟩
  · have h := Option.some.inj h
    subst h
    exact go_ret hΘ hm hP hn (hs := [⟨4, .no, some (B false)⟩]) (rh := []) (ph := .raw) (ps := [(B (decide (p2 ≤ p1))) = (B false), (B false) = (B false), litA (B false) = true]) (by kernel_rfl) ⟨(litB c5), rfl, rfl, trivial⟩
noncomputable def body102 : Code := match Try.f102.body with | some c => c | none => .skip
noncomputable def impl_Op_names_j0  (p1 : GOp) (v3 : Bool) : Option Int :=
  if v3 = true then
    some 1
  else
    if (p1.Code == 16) = true then
      some 2
    else
      some 0
theorem impl_Op_names_j0_m {E : Env} (hP : E.P = Try.prog) (hn : E.n = 16) (hx : ∀ p, p ∈ E.fx → p.1 ∈ ([] : List Nat)) (p1 : GOp)  (v3 : Bool) (r : Int) (h : impl_Op_names_j0 p1 v3 = some r) : WAt E body102 (FQ (RetE Θ Try.f102.results.toList [] [] (I r) E)) [true, false, true, false, true] ⟨[(4, (I p1.Code)), (5, (B v3))], [], [JJ]⟩ := by
  have hm : E.P.follows .mixedOrders = true := by rw [hP]; exact mixed
  have hΘ : TOK E.P Θ := by rw [hP]; exact Θ_ok
  unfold impl_Op_names_j0 at h
  rcases itS h with ⟨c4, h⟩ | ⟨c5, h⟩
  · have h := Option.some.inj h
    subst h
    exact go_ret hΘ hm hP hn (hs := [⟨0, .br true, none⟩]) (rh := []) (ph := .raw) (ps := [v3 = true, (I 1) = (I 1), litA (I 1) = true]) (by kernel_rfl) ⟨c4, rfl, rfl, trivial⟩
  · rcases itS h with ⟨c6, h⟩ | ⟨c7, h⟩
    · have h := Option.some.inj h
      subst h
      exact go_ret hΘ hm hP hn (hs := [⟨0, .br false, none⟩, ⟨3, .br true, none⟩]) (rh := []) (ph := .raw) (ps := [v3 = false, (p1.Code == 16) = true, (I 2) = (I 2), litA (I 2) = true]) (by kernel_rfl) ⟨c5, c6, rfl, rfl, trivial⟩
    · have h := Option.some.inj h
      subst h
      exact go_ret hΘ hm hP hn (hs := [⟨0, .br false, none⟩, ⟨3, .br false, none⟩]) (rh := []) (ph := .raw) (ps := [v3 = false, (p1.Code == 16) = false, (I 0) = (I 0), litA (I 0) = true]) (by kernel_rfl) ⟨c5, c7, rfl, rfl, trivial⟩
noncomputable def impl_Op_names (p1 : GOp) : Option Int :=
  if (p1.Code == 2) = true then
    impl_Op_names_j0 p1 (p1.Code == 2)
  else
    if (p1.Code == 3) = true then
      impl_Op_names_j0 p1 (p1.Code == 3)
    else
      if (p1.Code == 10) = true then
        impl_Op_names_j0 p1 (p1.Code == 10)
      else
        if (p1.Code == 11) = true then
          impl_Op_names_j0 p1 (p1.Code == 11)
        else
          if (p1.Code == 12) = true then
            impl_Op_names_j0 p1 (p1.Code == 12)
          else
            if (p1.Code == 13) = true then
              impl_Op_names_j0 p1 (p1.Code == 13)
            else
              if (p1.Code == 14) = true then
                impl_Op_names_j0 p1 (p1.Code == 14)
              else
                impl_Op_names_j0 p1 (p1.Code == 17)
theorem impl_Op_names_m {p1 : GOp} {r : Int} (h : impl_Op_names p1 = some r) : Meets Try.prog 102 [(AV.agg ((o85 p1)))] (I r) := by
  refine meets_ofC Θ_ok Try.func102 rfl (c := body102) (by kernel_rfl) (Nat.le_of_ble_eq_true rfl) ?_
  intro E hP hn hx
  replace hn : E.n = 16 := hn
  have hm : E.P.follows .mixedOrders = true := by rw [hP]; exact mixed
  have hΘ : TOK E.P Θ := by rw [hP]; exact Θ_ok
  unfold impl_Op_names at h
  show WAt E body102 (FQ (RetE Θ Try.f102.results.toList [] [] (I r) E)) [] ⟨[(0, (AV.agg ((o85 p1))))], [], [JJ]⟩
  rcases itS h with ⟨c2, h⟩ | ⟨c8, h⟩
  · exact go_to hΘ hm hx hP hn (hs := [⟨0, .new 1001, none⟩, ⟨6, .br true, none⟩]) (π := []) (ts := [4, 5]) (kp := []) (ps := [(p1.Code == 2) = true]) (by kernel_rfl) ⟨c2, trivial⟩ (impl_Op_names_j0_m hP hn hx p1 (p1.Code == 2) _ h)
  · rcases itS h with ⟨c9, h⟩ | ⟨c10, h⟩
    · exact go_to hΘ hm hx hP hn (hs := [⟨0, .new 1001, none⟩, ⟨6, .br false, none⟩, ⟨9, .br true, none⟩]) (π := []) (ts := [4, 5]) (kp := []) (ps := [(p1.Code == 2) = false, (p1.Code == 3) = true]) (by kernel_rfl) ⟨c8, c9, trivial⟩ (impl_Op_names_j0_m hP hn hx p1 (p1.Code == 3) _ h)
    · rcases itS h with ⟨c11, h⟩ | ⟨c12, h⟩
      · exact go_to hΘ hm hx hP hn (hs := [⟨0, .new 1001, none⟩, ⟨6, .br false, none⟩, ⟨9, .br false, none⟩, ⟨12, .br true, none⟩]) (π := []) (ts := [4, 5]) (kp := []) (ps := [(p1.Code == 2) = false, (p1.Code == 3) = false, (p1.Code == 10) = true]) (by kernel_rfl) ⟨c8, c10, c11, trivial⟩ (impl_Op_names_j0_m hP hn hx p1 (p1.Code == 10) _ h)
      · rcases itS h with ⟨c13, h⟩ | ⟨c14, h⟩
        · exact go_to hΘ hm hx hP hn (hs := [⟨0, .new 1001, none⟩, ⟨6, .br false, none⟩, ⟨9, .br false, none⟩, ⟨12, .br false, none⟩, ⟨15, .br true, none⟩]) (π := []) (ts := [4, 5]) (kp := []) (ps := [(p1.Code == 2) = false, (p1.Code == 3) = false, (p1.Code == 10) = false, (p1.Code == 11) = true]) (by kernel_rfl) ⟨c8, c10, c12, c13, trivial⟩ (impl_Op_names_j0_m hP hn hx p1 (p1.Code == 11) _ h)
        · rcases itS h with ⟨c15, h⟩ | ⟨c16, h⟩
          · exact go_to hΘ hm hx hP hn (hs := [⟨0, .new 1001, none⟩, ⟨6, .br false, none⟩, ⟨9, .br false, none⟩, ⟨12, .br false, none⟩, ⟨15, .br false, none⟩, ⟨18, .br true, none⟩]) (π := []) (ts := [4, 5]) (kp := []) (ps := [(p1.Code == 2) = false, (p1.Code == 3) = false, (p1.Code == 10) = false, (p1.Code == 11) = false, (p1.Code == 12) = true]) (by kernel_rfl) ⟨c8, c10, c12, c14, c15, trivial⟩ (impl_Op_names_j0_m hP hn hx p1 (p1.Code == 12) _ h)
          · rcases itS h with ⟨c17, h⟩ | ⟨c18, h⟩
            · exact go_to hΘ hm hx hP hn (hs := [⟨0, .new 1001, none⟩, ⟨6, .br false, none⟩, ⟨9, .br false, none⟩, ⟨12, .br false, none⟩, ⟨15, .br false, none⟩, ⟨18, .br false, none⟩, ⟨21, .br true, none⟩]) (π := []) (ts := [4, 5]) (kp := []) (ps := [(p1.Code == 2) = false, (p1.Code == 3) = false, (p1.Code == 10) = false, (p1.Code == 11) = false, (p1.Code == 12) = false, (p1.Code == 13) = true]) (by kernel_rfl) ⟨c8, c10, c12, c14, c16, c17, trivial⟩ (impl_Op_names_j0_m hP hn hx p1 (p1.Code == 13) _ h)
            · rcases itS h with ⟨c19, h⟩ | ⟨c20, h⟩
              · exact go_to hΘ hm hx hP hn (hs := [⟨0, .new 1001, none⟩, ⟨6, .br false, none⟩, ⟨9, .br false, none⟩, ⟨12, .br false, none⟩, ⟨15, .br false, none⟩, ⟨18, .br false, none⟩, ⟨21, .br false, none⟩, ⟨24, .br true, none⟩]) (π := []) (ts := [4, 5]) (kp := []) (ps := [(p1.Code == 2) = false, (p1.Code == 3) = false, (p1.Code == 10) = false, (p1.Code == 11) = false, (p1.Code == 12) = false, (p1.Code == 13) = false, (p1.Code == 14) = true]) (by kernel_rfl) ⟨c8, c10, c12, c14, c16, c18, c19, trivial⟩ (impl_Op_names_j0_m hP hn hx p1 (p1.Code == 14) _ h)
              · exact go_to hΘ hm hx hP hn (hs := [⟨0, .new 1001, none⟩, ⟨6, .br false, none⟩, ⟨9, .br false, none⟩, ⟨12, .br false, none⟩, ⟨15, .br false, none⟩, ⟨18, .br false, none⟩, ⟨21, .br false, none⟩, ⟨24, .br false, none⟩]) (π := []) (ts := [4, 5]) (kp := []) (ps := [(p1.Code == 2) = false, (p1.Code == 3) = false, (p1.Code == 10) = false, (p1.Code == 11) = false, (p1.Code == 12) = false, (p1.Code == 13) = false, (p1.Code == 14) = false]) (by kernel_rfl) ⟨c8, c10, c12, c14, c16, c18, c20, trivial⟩ (impl_Op_names_j0_m hP hn hx p1 (p1.Code == 17) _ h)
noncomputable def body118 : Code := match Try.f118.body with | some c => c | none => .skip
noncomputable def math_IsNaN (p1 : Nat) : Option Bool :=
  some ((fcmp p1 p1) != some .eq)
theorem math_IsNaN_m {p1 : Nat} {r : Bool} (h : math_IsNaN p1 = some r) : Meets Try.prog 118 [(FK p1)] (B r) := by
  refine meets_ofC Θ_ok Try.func118 rfl (c := body118) (by kernel_rfl) (Nat.le_of_ble_eq_true rfl) ?_
  intro E hP hn hx
  replace hn : E.n = 6 := hn
  have hm : E.P.follows .mixedOrders = true := by rw [hP]; exact mixed
  have hΘ : TOK E.P Θ := by rw [hP]; exact Θ_ok
  unfold math_IsNaN at h
  show WAt E body118 (FQ (RetE Θ Try.f118.results.toList [] [] (B r) E)) [] ⟨[(0, (FK p1))], [], [JJ]⟩
  have h := Option.some.inj h
  subst h
  exact go_ret hΘ hm hP hn (hs := [⟨3, .bin (B ((fcmp p1 p1) != some .eq)), none⟩]) (rh := []) (ph := .raw) (ps := [BinS Try.prog .neq 83 (FK p1) (FK p1) (B ((fcmp p1 p1) != some .eq)), (B ((fcmp p1 p1) != some .eq)) = (B ((fcmp p1 p1) != some .eq)), litA (B ((fcmp p1 p1) != some .eq)) = true]) (by kernel_rfl) ⟨fNeq, rfl, rfl, trivial⟩
noncomputable def body103 : Code := match Try.f103.body with | some c => c | none => .skip
noncomputable def impl_SameNum (p1 : Nat) (p2 : Nat) : Option Bool :=
  Option.bind (math_IsNaN p1) fun r3 =>
  if r3 = true then
    Option.bind (math_IsNaN p2) fun r5 =>
    if r5 = true then
      some true
    else
      some (((p1 : Nat) : Int) == ((p2 : Nat) : Int))
  else
    some (((p1 : Nat) : Int) == ((p2 : Nat) : Int))
theorem impl_SameNum_m {p1 : Nat} {p2 : Nat} {r : Bool} (h : impl_SameNum p1 p2 = some r) : Meets Try.prog 103 [(FK p1), (FK p2)] (B r) := by
  refine meets_ofC Θ_ok Try.func103 rfl (c := body103) (by kernel_rfl) (Nat.le_of_ble_eq_true rfl) ?_
  intro E hP hn hx
  replace hn : E.n = 18 := hn
  have hm : E.P.follows .mixedOrders = true := by rw [hP]; exact mixed
  have hΘ : TOK E.P Θ := by rw [hP]; exact Θ_ok
  unfold impl_SameNum at h
  show WAt E body103 (FQ (RetE Θ Try.f103.results.toList [] [] (B r) E)) [] ⟨[(0, (FK p1)), (1, (FK p2))], [], [JJ]⟩
  obtain ⟨r3, hr3, h⟩ := bnS h
  rcases itS h with ⟨c4, h⟩ | ⟨c8, h⟩
  · obtain ⟨r5, hr5, h⟩ := bnS h
    rcases itS h with ⟨c6, h⟩ | ⟨c7, h⟩
    · have h := Option.some.inj h
      subst h
      exact go_ret hΘ hm hP hn (hs := [⟨2, .callV [] (B r3), none⟩, ⟨3, .no, some (B true)⟩, ⟨5, .callV [] (B r5), none⟩, ⟨7, .no, some (B true)⟩]) (rh := []) (ph := .raw) (ps := [Meets Try.prog 118 [(FK p1)] (B r3), litA (B r3) = true, (B r3) = (B true), Meets Try.prog 118 [(FK p2)] (B r5), litA (B r5) = true, (B r5) = (B true), (B true) = (B true), litA (B true) = true]) (by kernel_rfl) ⟨(math_IsNaN_m hr3), rfl, (litB c4), (math_IsNaN_m hr5), rfl, (litB c6), rfl, rfl, trivial⟩
    · have h := Option.some.inj h
      subst h
      exact go_ret hΘ hm hP hn (hs := [⟨2, .callV [] (B r3), none⟩, ⟨3, .no, some (B true)⟩, ⟨5, .callV [] (B r5), none⟩, ⟨7, .no, some (B false)⟩, ⟨9, .xt (IK .u64 ((p1 : Nat) : Int)), none⟩, ⟨11, .xt (IK .u64 ((p2 : Nat) : Int)), none⟩]) (rh := []) (ph := .raw) (ps := [Meets Try.prog 118 [(FK p1)] (B r3), litA (B r3) = true, (B r3) = (B true), Meets Try.prog 118 [(FK p2)] (B r5), litA (B r5) = true, (B r5) = (B false), ExtS Try.prog 119 (FK p1) (IK .u64 ((p1 : Nat) : Int)), ExtS Try.prog 119 (FK p2) (IK .u64 ((p2 : Nat) : Int)), (B (((p1 : Nat) : Int) == ((p2 : Nat) : Int))) = (B (((p1 : Nat) : Int) == ((p2 : Nat) : Int))), litA (B (((p1 : Nat) : Int) == ((p2 : Nat) : Int))) = true]) (by kernel_rfl) ⟨(math_IsNaN_m hr3), rfl, (litB c4), (math_IsNaN_m hr5), rfl, (litB c7), (xBits Try.func119 (by kernel_rfl) (by kernel_rfl) (by kernel_rfl) (by kernel_rfl)), (xBits Try.func119 (by kernel_rfl) (by kernel_rfl) (by kernel_rfl) (by kernel_rfl)), rfl, rfl, trivial⟩
  · have h := Option.some.inj h
    subst h
    exact go_ret hΘ hm hP hn (hs := [⟨2, .callV [] (B r3), none⟩, ⟨3, .no, some (B false)⟩, ⟨9, .xt (IK .u64 ((p1 : Nat) : Int)), none⟩, ⟨11, .xt (IK .u64 ((p2 : Nat) : Int)), none⟩]) (rh := []) (ph := .raw) (ps := [Meets Try.prog 118 [(FK p1)] (B r3), litA (B r3) = true, (B r3) = (B false), ExtS Try.prog 119 (FK p1) (IK .u64 ((p1 : Nat) : Int)), ExtS Try.prog 119 (FK p2) (IK .u64 ((p2 : Nat) : Int)), (B (((p1 : Nat) : Int) == ((p2 : Nat) : Int))) = (B (((p1 : Nat) : Int) == ((p2 : Nat) : Int))), litA (B (((p1 : Nat) : Int) == ((p2 : Nat) : Int))) = true]) (by kernel_rfl) ⟨(math_IsNaN_m hr3), rfl, (litB c8), (xBits Try.func119 (by kernel_rfl) (by kernel_rfl) (by kernel_rfl) (by kernel_rfl)), (xBits Try.func119 (by kernel_rfl) (by kernel_rfl) (by kernel_rfl) (by kernel_rfl)), rfl, rfl, trivial⟩
noncomputable def body93 : Code := match Try.f93.body with | some c => c | none => .skip
noncomputable def impl_Op_fits (p1 : GOp) : Option Bool :=
  Option.bind (impl_Op_names p1) fun r2 =>
  Option.bind (impl_in p1.Code 1 17) fun r3 =>
  if r3 = true then
    if (decide (r2 > 0)) = true then
      if (decide (r2 > 1)) = true then
        if (p1.Code == 1) = true then
          some true
        else
          Option.bind (impl_SameNum p1.V 0) fun r9 =>
          some r9
      else
        if (p1.B == 0) = true then
          if (p1.Code == 1) = true then
            some true
          else
            Option.bind (impl_SameNum p1.V 0) fun r14 =>
            some r14
        else
          some false
    else
      if (p1.A == 0) = true then
        if (decide (r2 > 1)) = true then
          if (p1.Code == 1) = true then
            some true
          else
            Option.bind (impl_SameNum p1.V 0) fun r21 =>
            some r21
        else
          if (p1.B == 0) = true then
            if (p1.Code == 1) = true then
              some true
            else
              Option.bind (impl_SameNum p1.V 0) fun r26 =>
              some r26
          else
            some false
      else
        some false
  else
    some false
theorem impl_Op_fits_m {p1 : GOp} {r : Bool} (h : impl_Op_fits p1 = some r) : Meets Try.prog 93 [(AV.agg ((o85 p1)))] (B r) := by
  refine meets_ofC Θ_ok Try.func93 rfl (c := body93) (by kernel_rfl) (Nat.le_of_ble_eq_true rfl) ?_
  intro E hP hn hx
  replace hn : E.n = 37 := hn
  have hm : E.P.follows .mixedOrders = true := by rw [hP]; exact mixed
  have hΘ : TOK E.P Θ := by rw [hP]; exact Θ_ok
  unfold impl_Op_fits at h
  show WAt E body93 (FQ (RetE Θ Try.f93.results.toList [] [] (B r) E)) [] ⟨[(0, (AV.agg ((o85 p1))))], [], [JJ]⟩
  obtain ⟨r2, hr2, h⟩ := bnS h
  obtain ⟨r3, hr3, h⟩ := bnS h
  rcases itS h with ⟨c4, h⟩ | ⟨c29, h⟩
  · rcases itS h with ⟨c5, h⟩ | ⟨c16, h⟩
    · rcases itS h with ⟨c6, h⟩ | ⟨c10, h⟩
      · rcases itS h with ⟨c7, h⟩ | ⟨c8, h⟩
        · have h := Option.some.inj h
          subst h
          exact go_ret hΘ hm hP hn (hs := [⟨0, .new 1001, none⟩, ⟨3, .callV [[]] (I r2), none⟩, ⟨7, .callV [] (B r3), none⟩, ⟨8, .no, some (B true)⟩, ⟨11, .no, some (B true)⟩, ⟨20, .no, some (B true)⟩, ⟨30, .no, some (B true)⟩]) (rh := []) (ph := .raw) (ps := [Meets Try.prog 102 [(AV.agg ((o85 p1)))] (I r2), litA (I r2) = true, Meets Try.prog 44 [(I p1.Code), (I 1), (I 17)] (B r3), litA (B r3) = true, (B r3) = (B true), (B (decide (r2 > 0))) = (B true), (B (decide (r2 > 1))) = (B true), (B (p1.Code == 1)) = (B true), (B true) = (B true), litA (B true) = true]) (by kernel_rfl) ⟨(impl_Op_names_m hr2), rfl, (impl_in_m hr3), rfl, (litB c4), (litB c5), (litB c6), (litB c7), rfl, rfl, trivial⟩
        · obtain ⟨r9, hr9, h⟩ := bnS h
          have h := Option.some.inj h
          subst h
          exact go_ret hΘ hm hP hn (hs := [⟨0, .new 1001, none⟩, ⟨3, .callV [[]] (I r2), none⟩, ⟨7, .callV [] (B r3), none⟩, ⟨8, .no, some (B true)⟩, ⟨11, .no, some (B true)⟩, ⟨20, .no, some (B true)⟩, ⟨30, .no, some (B false)⟩, ⟨33, .callV [] (B r9), none⟩]) (rh := []) (ph := .raw) (ps := [Meets Try.prog 102 [(AV.agg ((o85 p1)))] (I r2), litA (I r2) = true, Meets Try.prog 44 [(I p1.Code), (I 1), (I 17)] (B r3), litA (B r3) = true, (B r3) = (B true), (B (decide (r2 > 0))) = (B true), (B (decide (r2 > 1))) = (B true), (B (p1.Code == 1)) = (B false), Meets Try.prog 103 [(FK p1.V), (FK 0)] (B r9), litA (B r9) = true, (B r9) = (B r9), litA (B r9) = true]) (by kernel_rfl) ⟨(impl_Op_names_m hr2), rfl, (impl_in_m hr3), rfl, (litB c4), (litB c5), (litB c6), (litB c8), (impl_SameNum_m hr9), rfl, rfl, rfl, trivial⟩
      · rcases itS h with ⟨c11, h⟩ | ⟨c15, h⟩
        · rcases itS h with ⟨c12, h⟩ | ⟨c13, h⟩
          · have h := Option.some.inj h
            subst h
            exact go_ret hΘ hm hP hn (hs := [⟨0, .new 1001, none⟩, ⟨3, .callV [[]] (I r2), none⟩, ⟨7, .callV [] (B r3), none⟩, ⟨8, .no, some (B true)⟩, ⟨11, .no, some (B true)⟩, ⟨20, .no, some (B false)⟩, ⟨26, .no, some (B true)⟩, ⟨30, .no, some (B true)⟩]) (rh := []) (ph := .raw) (ps := [Meets Try.prog 102 [(AV.agg ((o85 p1)))] (I r2), litA (I r2) = true, Meets Try.prog 44 [(I p1.Code), (I 1), (I 17)] (B r3), litA (B r3) = true, (B r3) = (B true), (B (decide (r2 > 0))) = (B true), (B (decide (r2 > 1))) = (B false), (B (p1.B == 0)) = (B true), (B (p1.Code == 1)) = (B true), (B true) = (B true), litA (B true) = true]) (by kernel_rfl) ⟨(impl_Op_names_m hr2), rfl, (impl_in_m hr3), rfl, (litB c4), (litB c5), (litB c10), (litB c11), (litB c12), rfl, rfl, trivial⟩
          · obtain ⟨r14, hr14, h⟩ := bnS h
            have h := Option.some.inj h
            subst h
            exact go_ret hΘ hm hP hn (hs := [⟨0, .new 1001, none⟩, ⟨3, .callV [[]] (I r2), none⟩, ⟨7, .callV [] (B r3), none⟩, ⟨8, .no, some (B true)⟩, ⟨11, .no, some (B true)⟩, ⟨20, .no, some (B false)⟩, ⟨26, .no, some (B true)⟩, ⟨30, .no, some (B false)⟩, ⟨33, .callV [] (B r14), none⟩]) (rh := []) (ph := .raw) (ps := [Meets Try.prog 102 [(AV.agg ((o85 p1)))] (I r2), litA (I r2) = true, Meets Try.prog 44 [(I p1.Code), (I 1), (I 17)] (B r3), litA (B r3) = true, (B r3) = (B true), (B (decide (r2 > 0))) = (B true), (B (decide (r2 > 1))) = (B false), (B (p1.B == 0)) = (B true), (B (p1.Code == 1)) = (B false), Meets Try.prog 103 [(FK p1.V), (FK 0)] (B r14), litA (B r14) = true, (B r14) = (B r14), litA (B r14) = true]) (by kernel_rfl) ⟨(impl_Op_names_m hr2), rfl, (impl_in_m hr3), rfl, (litB c4), (litB c5), (litB c10), (litB c11), (litB c13), (impl_SameNum_m hr14), rfl, rfl, rfl, trivial⟩
        · have h := Option.some.inj h
          subst h
          exact go_ret hΘ hm hP hn (hs := [⟨0, .new 1001, none⟩, ⟨3, .callV [[]] (I r2), none⟩, ⟨7, .callV [] (B r3), none⟩, ⟨8, .no, some (B true)⟩, ⟨11, .no, some (B true)⟩, ⟨20, .no, some (B false)⟩, ⟨26, .no, some (B false)⟩]) (rh := []) (ph := .raw) (ps := [Meets Try.prog 102 [(AV.agg ((o85 p1)))] (I r2), litA (I r2) = true, Meets Try.prog 44 [(I p1.Code), (I 1), (I 17)] (B r3), litA (B r3) = true, (B r3) = (B true), (B (decide (r2 > 0))) = (B true), (B (decide (r2 > 1))) = (B false), (B (p1.B == 0)) = (B false), (B false) = (B false), litA (B false) = true]) (by kernel_rfl) ⟨(impl_Op_names_m hr2), rfl, (impl_in_m hr3), rfl, (litB c4), (litB c5), (litB c10), (litB c15), rfl, rfl, trivial⟩
    · rcases itS h with ⟨c17, h⟩ | ⟨c28, h⟩
      · rcases itS h with ⟨c18, h⟩ | ⟨c22, h⟩
        · rcases itS h with ⟨c19, h⟩ | ⟨c20, h⟩
          · have h := Option.some.inj h
            subst h
            exact go_ret hΘ hm hP hn (hs := [⟨0, .new 1001, none⟩, ⟨3, .callV [[]] (I r2), none⟩, ⟨7, .callV [] (B r3), none⟩, ⟨8, .no, some (B true)⟩, ⟨11, .no, some (B false)⟩, ⟨17, .no, some (B true)⟩, ⟨20, .no, some (B true)⟩, ⟨30, .no, some (B true)⟩]) (rh := []) (ph := .raw) (ps := [Meets Try.prog 102 [(AV.agg ((o85 p1)))] (I r2), litA (I r2) = true, Meets Try.prog 44 [(I p1.Code), (I 1), (I 17)] (B r3), litA (B r3) = true, (B r3) = (B true), (B (decide (r2 > 0))) = (B false), (B (p1.A == 0)) = (B true), (B (decide (r2 > 1))) = (B true), (B (p1.Code == 1)) = (B true), (B true) = (B true), litA (B true) = true]) (by kernel_rfl) ⟨(impl_Op_names_m hr2), rfl, (impl_in_m hr3), rfl, (litB c4), (litB c16), (litB c17), (litB c18), (litB c19), rfl, rfl, trivial⟩
          · obtain ⟨r21, hr21, h⟩ := bnS h
            have h := Option.some.inj h
            subst h
            exact go_ret hΘ hm hP hn (hs := [⟨0, .new 1001, none⟩, ⟨3, .callV [[]] (I r2), none⟩, ⟨7, .callV [] (B r3), none⟩, ⟨8, .no, some (B true)⟩, ⟨11, .no, some (B false)⟩, ⟨17, .no, some (B true)⟩, ⟨20, .no, some (B true)⟩, ⟨30, .no, some (B false)⟩, ⟨33, .callV [] (B r21), none⟩]) (rh := []) (ph := .raw) (ps := [Meets Try.prog 102 [(AV.agg ((o85 p1)))] (I r2), litA (I r2) = true, Meets Try.prog 44 [(I p1.Code), (I 1), (I 17)] (B r3), litA (B r3) = true, (B r3) = (B true), (B (decide (r2 > 0))) = (B false), (B (p1.A == 0)) = (B true), (B (decide (r2 > 1))) = (B true), (B (p1.Code == 1)) = (B false), Meets Try.prog 103 [(FK p1.V), (FK 0)] (B r21), litA (B r21) = true, (B r21) = (B r21), litA (B r21) = true]) (by kernel_rfl) ⟨(impl_Op_names_m hr2), rfl, (impl_in_m hr3), rfl, (litB c4), (litB c16), (litB c17), (litB c18), (litB c20), (impl_SameNum_m hr21), rfl, rfl, rfl, trivial⟩
        · rcases itS h with ⟨c23, h⟩ | ⟨c27, h⟩
          · rcases itS h with ⟨c24, h⟩ | ⟨c25, h⟩
            · have h := Option.some.inj h
              subst h
              exact go_ret hΘ hm hP hn (hs := [⟨0, .new 1001, none⟩, ⟨3, .callV [[]] (I r2), none⟩, ⟨7, .callV [] (B r3), none⟩, ⟨8, .no, some (B true)⟩, ⟨11, .no, some (B false)⟩, ⟨17, .no, some (B true)⟩, ⟨20, .no, some (B false)⟩, ⟨26, .no, some (B true)⟩, ⟨30, .no, some (B true)⟩]) (rh := []) (ph := .raw) (ps := [Meets Try.prog 102 [(AV.agg ((o85 p1)))] (I r2), litA (I r2) = true, Meets Try.prog 44 [(I p1.Code), (I 1), (I 17)] (B r3), litA (B r3) = true, (B r3) = (B true), (B (decide (r2 > 0))) = (B false), (B (p1.A == 0)) = (B true), (B (decide (r2 > 1))) = (B false), (B (p1.B == 0)) = (B true), (B (p1.Code == 1)) = (B true), (B true) = (B true), litA (B true) = true]) (by kernel_rfl) ⟨(impl_Op_names_m hr2), rfl, (impl_in_m hr3), rfl, (litB c4), (litB c16), (litB c17), (litB c22), (litB c23), (litB c24), rfl, rfl, trivial⟩
            · obtain ⟨r26, hr26, h⟩ := bnS h
              have h := Option.some.inj h
              subst h
              exact go_ret hΘ hm hP hn (hs := [⟨0, .new 1001, none⟩, ⟨3, .callV [[]] (I r2), none⟩, ⟨7, .callV [] (B r3), none⟩, ⟨8, .no, some (B true)⟩, ⟨11, .no, some (B false)⟩, ⟨17, .no, some (B true)⟩, ⟨20, .no, some (B false)⟩, ⟨26, .no, some (B true)⟩, ⟨30, .no, some (B false)⟩, ⟨33, .callV [] (B r26), none⟩]) (rh := []) (ph := .raw) (ps := [Meets Try.prog 102 [(AV.agg ((o85 p1)))] (I r2), litA (I r2) = true, Meets Try.prog 44 [(I p1.Code), (I 1), (I 17)] (B r3), litA (B r3) = true, (B r3) = (B true), (B (decide (r2 > 0))) = (B false), (B (p1.A == 0)) = (B true), (B (decide (r2 > 1))) = (B false), (B (p1.B == 0)) = (B true), (B (p1.Code == 1)) = (B false), Meets Try.prog 103 [(FK p1.V), (FK 0)] (B r26), litA (B r26) = true, (B r26) = (B r26), litA (B r26) = true]) (by kernel_rfl) ⟨(impl_Op_names_m hr2), rfl, (impl_in_m hr3), rfl, (litB c4), (litB c16), (litB c17), (litB c22), (litB c23), (litB c25), (impl_SameNum_m hr26), rfl, rfl, rfl, trivial⟩
          · have h := Option.some.inj h
            subst h
            exact go_ret hΘ hm hP hn (hs := [⟨0, .new 1001, none⟩, ⟨3, .callV [[]] (I r2), none⟩, ⟨7, .callV [] (B r3), none⟩, ⟨8, .no, some (B true)⟩, ⟨11, .no, some (B false)⟩, ⟨17, .no, some (B true)⟩, ⟨20, .no, some (B false)⟩, ⟨26, .no, some (B false)⟩]) (rh := []) (ph := .raw) (ps := [Meets Try.prog 102 [(AV.agg ((o85 p1)))] (I r2), litA (I r2) = true, Meets Try.prog 44 [(I p1.Code), (I 1), (I 17)] (B r3), litA (B r3) = true, (B r3) = (B true), (B (decide (r2 > 0))) = (B false), (B (p1.A == 0)) = (B true), (B (decide (r2 > 1))) = (B false), (B (p1.B == 0)) = (B false), (B false) = (B false), litA (B false) = true]) (by kernel_rfl) ⟨(impl_Op_names_m hr2), rfl, (impl_in_m hr3), rfl, (litB c4), (litB c16), (litB c17), (litB c22), (litB c27), rfl, rfl, trivial⟩
      · have h := Option.some.inj h
        subst h
        exact go_ret hΘ hm hP hn (hs := [⟨0, .new 1001, none⟩, ⟨3, .callV [[]] (I r2), none⟩, ⟨7, .callV [] (B r3), none⟩, ⟨8, .no, some (B true)⟩, ⟨11, .no, some (B false)⟩, ⟨17, .no, some (B false)⟩]) (rh := []) (ph := .raw) (ps := [Meets Try.prog 102 [(AV.agg ((o85 p1)))] (I r2), litA (I r2) = true, Meets Try.prog 44 [(I p1.Code), (I 1), (I 17)] (B r3), litA (B r3) = true, (B r3) = (B true), (B (decide (r2 > 0))) = (B false), (B (p1.A == 0)) = (B false), (B false) = (B false), litA (B false) = true]) (by kernel_rfl) ⟨(impl_Op_names_m hr2), rfl, (impl_in_m hr3), rfl, (litB c4), (litB c16), (litB c28), rfl, rfl, trivial⟩
  · have h := Option.some.inj h
    subst h
    exact go_ret hΘ hm hP hn (hs := [⟨0, .new 1001, none⟩, ⟨3, .callV [[]] (I r2), none⟩, ⟨7, .callV [] (B r3), none⟩, ⟨8, .no, some (B false)⟩]) (rh := []) (ph := .raw) (ps := [Meets Try.prog 102 [(AV.agg ((o85 p1)))] (I r2), litA (I r2) = true, Meets Try.prog 44 [(I p1.Code), (I 1), (I 17)] (B r3), litA (B r3) = true, (B r3) = (B false), (B false) = (B false), litA (B false) = true]) (by kernel_rfl) ⟨(impl_Op_names_m hr2), rfl, (impl_in_m hr3), rfl, (litB c29), rfl, rfl, trivial⟩
noncomputable def body76 : Code := match Try.f76.body with | some c => c | none => .skip
noncomputable def impl_Prog_isGood_j2  (p1 : GProg) (p2 : GOp) (v18 : Bool) : Option Bool :=
  if v18 = true then
    Option.bind (impl_in p2.A 0 (w64 (p1.Locks - 1))) fun r20 =>
    some r20
  else
    if (p2.Code == 14) = true then
      Option.bind (impl_in p2.A 0 (w64 ((p1.Routines.length : Int) - 1))) fun r23 =>
      some r23
    else
      if (p2.Code == 16) = true then
        Option.bind (impl_in p2.A 0 (w64 (p1.Conds - 1))) fun r26 =>
        if r26 = true then
          Option.bind (impl_in p2.B 0 (w64 (p1.Locks - 1))) fun r28 =>
          some r28
        else
          some false
      else
        if (p2.Code == 17) = true then
          Option.bind (impl_in p2.A 0 (w64 (p1.Conds - 1))) fun r32 =>
          some r32
        else
          some true
theorem impl_Prog_isGood_j2_m {E : Env} (hP : E.P = Try.prog) (hn : E.n = 70) (hx : ∀ p, p ∈ E.fx → p.1 ∈ ([] : List Nat)) (p1 : GProg) (p2 : GOp)  (v18 : Bool) (r : Bool) (h : impl_Prog_isGood_j2 p1 p2 v18 = some r) : WAt E body76 (FQ (RetE Θ Try.f76.results.toList [] [] (B r) E)) [true, true, false, true, false, true, true, true, true, true] ⟨[(3, (AV.ptr 1 0 0)), (4, (AV.ptr 2 0 0)), (11, (I p2.Code)), (28, (B v18))], [(1, some ⟨35, 4, [((r35 p1))]⟩), (2, some ⟨85, 4, [((o85 p2))]⟩)], [1, 2, JJ]⟩ := by
  have hm : E.P.follows .mixedOrders = true := by rw [hP]; exact mixed
  have hΘ : TOK E.P Θ := by rw [hP]; exact Θ_ok
  unfold impl_Prog_isGood_j2 at h
  rcases itS h with ⟨c19, h⟩ | ⟨c21, h⟩
  · obtain ⟨r20, hr20, h⟩ := bnS h
    have h := Option.some.inj h
    subst h
    exact go_ret hΘ hm hP hn (hs := [⟨0, .br true, none⟩, ⟨6, .callV [] (B r20), none⟩]) (rh := []) (ph := .raw) (ps := [v18 = true, Meets Try.prog 44 [(I p2.A), (I 0), (I (w64 (p1.Locks - 1)))] (B r20), litA (B r20) = true, (B r20) = (B r20), litA (B r20) = true]) (by kernel_rfl) ⟨c19, (impl_in_m hr20), rfl, rfl, rfl, trivial⟩
  · rcases itS h with ⟨c22, h⟩ | ⟨c24, h⟩
    · obtain ⟨r23, hr23, h⟩ := bnS h
      have h := Option.some.inj h
      subst h
      exact go_ret hΘ hm hP hn (hs := [⟨0, .br false, none⟩, ⟨3, .br true, none⟩, ⟨8, .no, some (I (p1.Routines.length : Int))⟩, ⟨10, .callV [] (B r23), none⟩]) (rh := []) (ph := .raw) (ps := [v18 = false, (p2.Code == 14) = true, AV.lit (.int .i64 (((p1.Routines.map r82).length : Nat) : Int)) = (I (p1.Routines.length : Int)), Meets Try.prog 44 [(I p2.A), (I 0), (I (w64 ((p1.Routines.length : Int) - 1)))] (B r23), litA (B r23) = true, (B r23) = (B r23), litA (B r23) = true]) (by kernel_rfl) ⟨c21, c22, (lenM r82), (impl_in_m hr23), rfl, rfl, rfl, trivial⟩
    · rcases itS h with ⟨c25, h⟩ | ⟨c30, h⟩
      · obtain ⟨r26, hr26, h⟩ := bnS h
        rcases itS h with ⟨c27, h⟩ | ⟨c29, h⟩
        · obtain ⟨r28, hr28, h⟩ := bnS h
          have h := Option.some.inj h
          subst h
          exact go_ret hΘ hm hP hn (hs := [⟨0, .br false, none⟩, ⟨3, .br false, none⟩, ⟨6, .br true, none⟩, ⟨12, .callV [] (B r26), none⟩, ⟨13, .no, some (B true)⟩, ⟨19, .callV [] (B r28), none⟩]) (rh := []) (ph := .raw) (ps := [v18 = false, (p2.Code == 14) = false, (p2.Code == 16) = true, Meets Try.prog 44 [(I p2.A), (I 0), (I (w64 (p1.Conds - 1)))] (B r26), litA (B r26) = true, (B r26) = (B true), Meets Try.prog 44 [(I p2.B), (I 0), (I (w64 (p1.Locks - 1)))] (B r28), litA (B r28) = true, (B r28) = (B r28), litA (B r28) = true]) (by kernel_rfl) ⟨c21, c24, c25, (impl_in_m hr26), rfl, (litB c27), (impl_in_m hr28), rfl, rfl, rfl, trivial⟩
        · have h := Option.some.inj h
          subst h
          exact go_ret hΘ hm hP hn (hs := [⟨0, .br false, none⟩, ⟨3, .br false, none⟩, ⟨6, .br true, none⟩, ⟨12, .callV [] (B r26), none⟩, ⟨13, .no, some (B false)⟩]) (rh := []) (ph := .raw) (ps := [v18 = false, (p2.Code == 14) = false, (p2.Code == 16) = true, Meets Try.prog 44 [(I p2.A), (I 0), (I (w64 (p1.Conds - 1)))] (B r26), litA (B r26) = true, (B r26) = (B false), (B false) = (B false), litA (B false) = true]) (by kernel_rfl) ⟨c21, c24, c25, (impl_in_m hr26), rfl, (litB c29), rfl, rfl, trivial⟩
      · rcases itS h with ⟨c31, h⟩ | ⟨c33, h⟩
        · obtain ⟨r32, hr32, h⟩ := bnS h
          have h := Option.some.inj h
          subst h
          exact go_ret hΘ hm hP hn (hs := [⟨0, .br false, none⟩, ⟨3, .br false, none⟩, ⟨6, .br false, none⟩, ⟨9, .br true, none⟩, ⟨15, .callV [] (B r32), none⟩]) (rh := []) (ph := .raw) (ps := [v18 = false, (p2.Code == 14) = false, (p2.Code == 16) = false, (p2.Code == 17) = true, Meets Try.prog 44 [(I p2.A), (I 0), (I (w64 (p1.Conds - 1)))] (B r32), litA (B r32) = true, (B r32) = (B r32), litA (B r32) = true]) (by kernel_rfl) ⟨c21, c24, c30, c31, (impl_in_m hr32), rfl, rfl, rfl, trivial⟩
        · have h := Option.some.inj h
          subst h
          exact go_ret hΘ hm hP hn (hs := [⟨0, .br false, none⟩, ⟨3, .br false, none⟩, ⟨6, .br false, none⟩, ⟨9, .br false, none⟩]) (rh := []) (ph := .raw) (ps := [v18 = false, (p2.Code == 14) = false, (p2.Code == 16) = false, (p2.Code == 17) = false, (B true) = (B true), litA (B true) = true]) (by kernel_rfl) ⟨c21, c24, c30, c33, rfl, rfl, trivial⟩
noncomputable def impl_Prog_isGood_j1  (p1 : GProg) (p2 : GOp) (p3 : Int) (v13 : Bool) : Option Bool :=
  if v13 = true then
    Option.bind (impl_in p2.A 0 p3) fun r15 =>
    some r15
  else
    if (p2.Code == 12) = true then
      impl_Prog_isGood_j2 p1 p2 (p2.Code == 12)
    else
      impl_Prog_isGood_j2 p1 p2 (p2.Code == 13)
theorem impl_Prog_isGood_j1_m {E : Env} (hP : E.P = Try.prog) (hn : E.n = 70) (hx : ∀ p, p ∈ E.fx → p.1 ∈ ([] : List Nat)) (p1 : GProg) (p2 : GOp) (p3 : Int)  (v13 : Bool) (r : Bool) (h : impl_Prog_isGood_j1 p1 p2 p3 v13 = some r) : WAt E body76 (FQ (RetE Θ Try.f76.results.toList [] [] (B r) E)) [true, true, false, true, false, true, true, true] ⟨[(2, (I p3)), (3, (AV.ptr 1 0 0)), (4, (AV.ptr 2 0 0)), (11, (I p2.Code)), (21, (B v13))], [(1, some ⟨35, 4, [((r35 p1))]⟩), (2, some ⟨85, 4, [((o85 p2))]⟩)], [1, 2, JJ]⟩ := by
  have hm : E.P.follows .mixedOrders = true := by rw [hP]; exact mixed
  have hΘ : TOK E.P Θ := by rw [hP]; exact Θ_ok
  unfold impl_Prog_isGood_j1 at h
  rcases itS h with ⟨c14, h⟩ | ⟨c16, h⟩
  · obtain ⟨r15, hr15, h⟩ := bnS h
    have h := Option.some.inj h
    subst h
    exact go_ret hΘ hm hP hn (hs := [⟨0, .br true, none⟩, ⟨4, .callV [] (B r15), none⟩]) (rh := []) (ph := .raw) (ps := [v13 = true, Meets Try.prog 44 [(I p2.A), (I 0), (I p3)] (B r15), litA (B r15) = true, (B r15) = (B r15), litA (B r15) = true]) (by kernel_rfl) ⟨c14, (impl_in_m hr15), rfl, rfl, rfl, trivial⟩
  · rcases itS h with ⟨c17, h⟩ | ⟨c34, h⟩
    · exact go_to hΘ hm hx hP hn (hs := [⟨0, .br false, none⟩, ⟨3, .br true, none⟩]) (π := [(1, 1), (2, 2)]) (ts := [3, 4, 11, 28]) (kp := []) (ps := [v13 = false, (p2.Code == 12) = true, RenOK [(1, 1), (2, 2)] [((r35 p1))], RenOK [(1, 1), (2, 2)] [((o85 p2))]]) (by kernel_rfl) ⟨c16, c17, (rok (treeB t35 p1)), (rok rfl), trivial⟩ (impl_Prog_isGood_j2_m hP hn hx p1 p2 (p2.Code == 12) _ h)
    · exact go_to hΘ hm hx hP hn (hs := [⟨0, .br false, none⟩, ⟨3, .br false, none⟩]) (π := [(1, 1), (2, 2)]) (ts := [3, 4, 11, 28]) (kp := []) (ps := [v13 = false, (p2.Code == 12) = false, RenOK [(1, 1), (2, 2)] [((r35 p1))], RenOK [(1, 1), (2, 2)] [((o85 p2))]]) (by kernel_rfl) ⟨c16, c34, (rok (treeB t35 p1)), (rok rfl), trivial⟩ (impl_Prog_isGood_j2_m hP hn hx p1 p2 (p2.Code == 13) _ h)
noncomputable def impl_Prog_isGood_j0  (p1 : GProg) (p2 : GOp) (p3 : Int) (v8 : Bool) : Option Bool :=
  if v8 = true then
    Option.bind (impl_in p2.A 0 (w64 (p1.Cells - 1))) fun r10 =>
    some r10
  else
    if (p2.Code == 10) = true then
      impl_Prog_isGood_j1 p1 p2 p3 (p2.Code == 10)
    else
      impl_Prog_isGood_j1 p1 p2 p3 (p2.Code == 11)
theorem impl_Prog_isGood_j0_m {E : Env} (hP : E.P = Try.prog) (hn : E.n = 70) (hx : ∀ p, p ∈ E.fx → p.1 ∈ ([] : List Nat)) (p1 : GProg) (p2 : GOp) (p3 : Int)  (v8 : Bool) (r : Bool) (h : impl_Prog_isGood_j0 p1 p2 p3 v8 = some r) : WAt E body76 (FQ (RetE Θ Try.f76.results.toList [] [] (B r) E)) [true, true, false, true, false, true] ⟨[(2, (I p3)), (3, (AV.ptr 1 0 0)), (4, (AV.ptr 2 0 0)), (11, (I p2.Code)), (12, (B v8))], [(1, some ⟨35, 4, [((r35 p1))]⟩), (2, some ⟨85, 4, [((o85 p2))]⟩)], [1, 2, JJ]⟩ := by
  have hm : E.P.follows .mixedOrders = true := by rw [hP]; exact mixed
  have hΘ : TOK E.P Θ := by rw [hP]; exact Θ_ok
  unfold impl_Prog_isGood_j0 at h
  rcases itS h with ⟨c9, h⟩ | ⟨c11, h⟩
  · obtain ⟨r10, hr10, h⟩ := bnS h
    have h := Option.some.inj h
    subst h
    exact go_ret hΘ hm hP hn (hs := [⟨0, .br true, none⟩, ⟨6, .callV [] (B r10), none⟩]) (rh := []) (ph := .raw) (ps := [v8 = true, Meets Try.prog 44 [(I p2.A), (I 0), (I (w64 (p1.Cells - 1)))] (B r10), litA (B r10) = true, (B r10) = (B r10), litA (B r10) = true]) (by kernel_rfl) ⟨c9, (impl_in_m hr10), rfl, rfl, rfl, trivial⟩
  · rcases itS h with ⟨c12, h⟩ | ⟨c35, h⟩
    · exact go_to hΘ hm hx hP hn (hs := [⟨0, .br false, none⟩, ⟨3, .br true, none⟩]) (π := [(1, 1), (2, 2)]) (ts := [2, 3, 4, 11, 21]) (kp := []) (ps := [v8 = false, (p2.Code == 10) = true, RenOK [(1, 1), (2, 2)] [((r35 p1))], RenOK [(1, 1), (2, 2)] [((o85 p2))]]) (by kernel_rfl) ⟨c11, c12, (rok (treeB t35 p1)), (rok rfl), trivial⟩ (impl_Prog_isGood_j1_m hP hn hx p1 p2 p3 (p2.Code == 10) _ h)
    · exact go_to hΘ hm hx hP hn (hs := [⟨0, .br false, none⟩, ⟨3, .br false, none⟩]) (π := [(1, 1), (2, 2)]) (ts := [2, 3, 4, 11, 21]) (kp := []) (ps := [v8 = false, (p2.Code == 10) = false, RenOK [(1, 1), (2, 2)] [((r35 p1))], RenOK [(1, 1), (2, 2)] [((o85 p2))]]) (by kernel_rfl) ⟨c11, c35, (rok (treeB t35 p1)), (rok rfl), trivial⟩ (impl_Prog_isGood_j1_m hP hn hx p1 p2 p3 (p2.Code == 11) _ h)
noncomputable def impl_Prog_isGood (p1 : GProg) (p2 : GOp) (p3 : Int) : Option Bool :=
  Option.bind (impl_Op_fits p2) fun r4 =>
  if (!r4) = true then
    some false
  else
    if (p2.Code == 2) = true then
      impl_Prog_isGood_j0 p1 p2 p3 (p2.Code == 2)
    else
      impl_Prog_isGood_j0 p1 p2 p3 (p2.Code == 3)
theorem impl_Prog_isGood_m {p1 : GProg} {p2 : GOp} {p3 : Int} {r : Bool} (h : impl_Prog_isGood p1 p2 p3 = some r) : Meets Try.prog 76 [(AV.agg ((r35 p1))), (AV.agg ((o85 p2))), (I p3)] (B r) := by
  refine meets_ofC Θ_ok Try.func76 rfl (c := body76) (by kernel_rfl) (Nat.le_of_ble_eq_true rfl) ?_
  intro E hP hn hx
  replace hn : E.n = 70 := hn
  have hm : E.P.follows .mixedOrders = true := by rw [hP]; exact mixed
  have hΘ : TOK E.P Θ := by rw [hP]; exact Θ_ok
  unfold impl_Prog_isGood at h
  show WAt E body76 (FQ (RetE Θ Try.f76.results.toList [] [] (B r) E)) [] ⟨[(0, (AV.agg ((r35 p1)))), (1, (AV.agg ((o85 p2)))), (2, (I p3))], [], [JJ]⟩
  obtain ⟨r4, hr4, h⟩ := bnS h
  rcases itS h with ⟨c5, h⟩ | ⟨c6, h⟩
  · have h := Option.some.inj h
    subst h
    exact go_ret hΘ hm hP hn (hs := [⟨0, .new 1001, none⟩, ⟨1, .new 1002, none⟩, ⟨4, .callV [[]] (B r4), none⟩, ⟨6, .br true, none⟩]) (rh := []) (ph := .raw) (ps := [Meets Try.prog 93 [(AV.agg ((o85 p2)))] (B r4), litA (B r4) = true, (!r4) = true, (B false) = (B false), litA (B false) = true]) (by kernel_rfl) ⟨(impl_Op_fits_m hr4), rfl, c5, rfl, rfl, trivial⟩
  · rcases itS h with ⟨c7, h⟩ | ⟨c36, h⟩
    · exact go_to hΘ hm hx hP hn (hs := [⟨0, .new 1001, none⟩, ⟨1, .new 1002, none⟩, ⟨4, .callV [[]] (B r4), none⟩, ⟨6, .br false, none⟩, ⟨11, .br true, none⟩]) (π := [(1001, 1), (1002, 2)]) (ts := [2, 3, 4, 11, 12]) (kp := []) (ps := [Meets Try.prog 93 [(AV.agg ((o85 p2)))] (B r4), litA (B r4) = true, (!r4) = false, (p2.Code == 2) = true, RenOK [(1001, 1), (1002, 2)] [((r35 p1))], RenOK [(1001, 1), (1002, 2)] [((o85 p2))]]) (by kernel_rfl) ⟨(impl_Op_fits_m hr4), rfl, c6, c7, (rok (treeB t35 p1)), (rok rfl), trivial⟩ (impl_Prog_isGood_j0_m hP hn hx p1 p2 p3 (p2.Code == 2) _ h)
    · exact go_to hΘ hm hx hP hn (hs := [⟨0, .new 1001, none⟩, ⟨1, .new 1002, none⟩, ⟨4, .callV [[]] (B r4), none⟩, ⟨6, .br false, none⟩, ⟨11, .br false, none⟩]) (π := [(1001, 1), (1002, 2)]) (ts := [2, 3, 4, 11, 12]) (kp := []) (ps := [Meets Try.prog 93 [(AV.agg ((o85 p2)))] (B r4), litA (B r4) = true, (!r4) = false, (p2.Code == 2) = false, RenOK [(1001, 1), (1002, 2)] [((r35 p1))], RenOK [(1001, 1), (1002, 2)] [((o85 p2))]]) (by kernel_rfl) ⟨(impl_Op_fits_m hr4), rfl, c6, c36, (rok (treeB t35 p1)), (rok rfl), trivial⟩ (impl_Prog_isGood_j0_m hP hn hx p1 p2 p3 (p2.Code == 3) _ h)
noncomputable def body75 : Code := match Try.f75.body with | some c => c | none => .skip
noncomputable def impl_GoodProg_1 (p1 : GOp) (p2 : GProg) (p3 : (List GOp)) : Option Bool :=
  Option.bind (impl_Prog_isGood p2 p1 (p3.length : Int)) fun r4 =>
  some (!r4)
theorem impl_GoodProg_1_m {p1 : GOp} {p2 : GProg} {p3 : (List GOp)} {r : Bool} (h : impl_GoodProg_1 p1 p2 p3 = some r) : Meets Try.prog 75 [(AV.agg ((o85 p1))), (AV.rop (r35 p2) 0), (AV.rop (r82 p3) 0)] (B r) := by
  refine meets_ofC Θ_ok Try.func75 rfl (c := body75) (by kernel_rfl) (Nat.le_of_ble_eq_true rfl) ?_
  intro E hP hn hx
  replace hn : E.n = 11 := hn
  have hm : E.P.follows .mixedOrders = true := by rw [hP]; exact mixed
  have hΘ : TOK E.P Θ := by rw [hP]; exact Θ_ok
  unfold impl_GoodProg_1 at h
  show WAt E body75 (FQ (RetE Θ Try.f75.results.toList [] [] (B r) E)) [] ⟨[(0, (AV.agg ((o85 p1)))), (1, (AV.rop (r35 p2) 0)), (2, (AV.rop (r82 p3) 0))], [], [JJ]⟩
  obtain ⟨r4, hr4, h⟩ := bnS h
  have h := Option.some.inj h
  subst h
  exact go_ret hΘ hm hP hn (hs := [⟨0, .new 1001, none⟩, ⟨5, .no, some (I (p3.length : Int))⟩, ⟨6, .callV [[], []] (B r4), none⟩]) (rh := []) (ph := .raw) (ps := [AV.lit (.int .i64 (((p3.map o85).length : Nat) : Int)) = (I (p3.length : Int)), Meets Try.prog 76 [(AV.agg ((r35 p2))), (AV.agg ((o85 p1))), (I (p3.length : Int))] (B r4), litA (B r4) = true, (B (!r4)) = (B (!r4)), litA (B (!r4)) = true]) (by kernel_rfl) ⟨(lenM o85), (impl_Prog_isGood_m hr4), rfl, rfl, rfl, trivial⟩
noncomputable def body92 : Code := match Try.f92.body with | some c => c | none => .skip
noncomputable def slices_IndexFunc_Op_Op__impl_GoodProg_1_l0  (p1 : (List GOp)) (p2 : GProg) (p3 : (List GOp)) : Nat → Int → Option Int
  | 0, _ => none
  | n + 1, v4 =>
  if (decide (v4 < (p1.length : Int))) = true then
    Option.bind (rd p1 v4) fun x6 =>
    Option.bind (impl_GoodProg_1 x6 p2 p3) fun r7 =>
    if r7 = true then
      some v4
    else
      slices_IndexFunc_Op_Op__impl_GoodProg_1_l0 p1 p2 p3 n (w64 (v4 + 1))
  else
    some (-1)
theorem slices_IndexFunc_Op_Op__impl_GoodProg_1_l0_m {E : Env} (hP : E.P = Try.prog) (hn : E.n = 19) (hx : ∀ p, p ∈ E.fx → p.1 ∈ ([] : List Nat)) (p1 : (List GOp)) (p2 : GProg) (p3 : (List GOp))  : ∀ (n : Nat) (v4 : Int) (r : Int), slices_IndexFunc_Op_Op__impl_GoodProg_1_l0 p1 p2 p3 n v4 = some r → WAt E body92 (FQ (RetE Θ Try.f92.results.toList [] [] (I r) E)) [true, false, true, false] ⟨[(0, (AV.ro 4 (p1.map o85))), (1, (AV.fn 75 [(AV.rop (r35 p2) 0), (AV.rop (r82 p3) 0)])), (7, (I (p1.length : Int))), (8, (I v4))], [], [JJ]⟩ := by
  have hm : E.P.follows .mixedOrders = true := by rw [hP]; exact mixed
  have hΘ : TOK E.P Θ := by rw [hP]; exact Θ_ok
  intro n
  induction n with
  | zero => intro v4 r h; simp only [slices_IndexFunc_Op_Op__impl_GoodProg_1_l0] at h; cases h
  | succ n ih =>
    intro v4 r h
    simp only [slices_IndexFunc_Op_Op__impl_GoodProg_1_l0] at h
    rcases itS h with ⟨c5, h⟩ | ⟨c10, h⟩
    · obtain ⟨x6, hx6, h⟩ := bnS h
      obtain ⟨r7, hr7, h⟩ := bnS h
      rcases itS h with ⟨c8, h⟩ | ⟨c9, h⟩
      · have h := Option.some.inj h
        subst h
        exact go_ret hΘ hm hP hn (hs := [⟨1, .br true, none⟩, ⟨7, .row (o85 x6), none⟩, ⟨9, .callV [[]] (B r7), none⟩, ⟨10, .br true, none⟩]) (rh := []) (ph := .raw) (ps := [(decide (v4 < (p1.length : Int))) = true, (0 : Int) ≤ v4, (p1.map o85)[(Int.toNat v4)]? = some (o85 x6), Meets Try.prog 75 [(AV.agg ((o85 x6))), (AV.rop (r35 p2) 0), (AV.rop (r82 p3) 0)] (B r7), litA (B r7) = true, r7 = true, (I v4) = (I v4), litA (I v4) = true]) (by kernel_rfl) ⟨c5, (rd0 hx6), (rdM o85 hx6), (impl_GoodProg_1_m hr7), rfl, c8, rfl, rfl, trivial⟩
      · exact go_to hΘ hm hx hP hn (hs := [⟨1, .br true, none⟩, ⟨7, .row (o85 x6), none⟩, ⟨9, .callV [[]] (B r7), none⟩, ⟨10, .br false, none⟩]) (π := []) (ts := [0, 1, 7, 8]) (kp := []) (ps := [(decide (v4 < (p1.length : Int))) = true, (0 : Int) ≤ v4, (p1.map o85)[(Int.toNat v4)]? = some (o85 x6), Meets Try.prog 75 [(AV.agg ((o85 x6))), (AV.rop (r35 p2) 0), (AV.rop (r82 p3) 0)] (B r7), litA (B r7) = true, r7 = false]) (by kernel_rfl) ⟨c5, (rd0 hx6), (rdM o85 hx6), (impl_GoodProg_1_m hr7), rfl, c9, trivial⟩ (ih (w64 (v4 + 1)) _ h)
    · have h := Option.some.inj h
      subst h
      exact go_ret hΘ hm hP hn (hs := [⟨1, .br false, none⟩]) (rh := []) (ph := .raw) (ps := [(decide (v4 < (p1.length : Int))) = false, (I (-1)) = (I (-1)), litA (I (-1)) = true]) (by kernel_rfl) ⟨c10, rfl, rfl, trivial⟩
noncomputable def slices_IndexFunc_Op_Op__impl_GoodProg_1 (p1 : (List GOp)) (p2 : GProg) (p3 : (List GOp)) : Option Int :=
  slices_IndexFunc_Op_Op__impl_GoodProg_1_l0 p1 p2 p3 FU 0
theorem slices_IndexFunc_Op_Op__impl_GoodProg_1_m {p1 : (List GOp)} {p2 : GProg} {p3 : (List GOp)} {r : Int} (h : slices_IndexFunc_Op_Op__impl_GoodProg_1 p1 p2 p3 = some r) : Meets Try.prog 92 [(AV.ro 4 (p1.map o85)), (AV.fn 75 [(AV.rop (r35 p2) 0), (AV.rop (r82 p3) 0)])] (I r) := by
  refine meets_ofC Θ_ok Try.func92 rfl (c := body92) (by kernel_rfl) (Nat.le_of_ble_eq_true rfl) ?_
  intro E hP hn hx
  replace hn : E.n = 19 := hn
  have hm : E.P.follows .mixedOrders = true := by rw [hP]; exact mixed
  have hΘ : TOK E.P Θ := by rw [hP]; exact Θ_ok
  unfold slices_IndexFunc_Op_Op__impl_GoodProg_1 at h
  show WAt E body92 (FQ (RetE Θ Try.f92.results.toList [] [] (I r) E)) [] ⟨[(0, (AV.ro 4 (p1.map o85))), (1, (AV.fn 75 [(AV.rop (r35 p2) 0), (AV.rop (r82 p3) 0)]))], [], [JJ]⟩
  exact go_to hΘ hm hx hP hn (hs := [⟨2, .no, some (I (p1.length : Int))⟩]) (π := []) (ts := [0, 1, 7, 8]) (kp := []) (ps := [AV.lit (.int .i64 (((p1.map o85).length : Nat) : Int)) = (I (p1.length : Int))]) (by kernel_rfl) ⟨(lenM o85), trivial⟩ (slices_IndexFunc_Op_Op__impl_GoodProg_1_l0_m hP hn hx p1 p2 p3 FU 0 _ h)
noncomputable def body74 : Code := match Try.f74.body with | some c => c | none => .skip
noncomputable def slices_ContainsFunc_Op_Op__impl_GoodProg_1 (p1 : (List GOp)) (p2 : GProg) (p3 : (List GOp)) : Option Bool :=
  Option.bind (slices_IndexFunc_Op_Op__impl_GoodProg_1 p1 p2 p3) fun r4 =>
  some (decide (r4 ≥ 0))
theorem slices_ContainsFunc_Op_Op__impl_GoodProg_1_m {p1 : (List GOp)} {p2 : GProg} {p3 : (List GOp)} {r : Bool} (h : slices_ContainsFunc_Op_Op__impl_GoodProg_1 p1 p2 p3 = some r) : Meets Try.prog 74 [(AV.ro 4 (p1.map o85)), (AV.fn 75 [(AV.rop (r35 p2) 0), (AV.rop (r82 p3) 0)])] (B r) := by
  refine meets_ofC Θ_ok Try.func74 rfl (c := body74) (by kernel_rfl) (Nat.le_of_ble_eq_true rfl) ?_
  intro E hP hn hx
  replace hn : E.n = 9 := hn
  have hm : E.P.follows .mixedOrders = true := by rw [hP]; exact mixed
  have hΘ : TOK E.P Θ := by rw [hP]; exact Θ_ok
  unfold slices_ContainsFunc_Op_Op__impl_GoodProg_1 at h
  show WAt E body74 (FQ (RetE Θ Try.f74.results.toList [] [] (B r) E)) [] ⟨[(0, (AV.ro 4 (p1.map o85))), (1, (AV.fn 75 [(AV.rop (r35 p2) 0), (AV.rop (r82 p3) 0)]))], [], [JJ]⟩
  obtain ⟨r4, hr4, h⟩ := bnS h
  have h := Option.some.inj h
  subst h
  exact go_ret hΘ hm hP hn (hs := [⟨3, .callV [] (I r4), none⟩]) (rh := []) (ph := .raw) (ps := [Meets Try.prog 92 [(AV.ro 4 (p1.map o85)), (AV.fn 75 [(AV.rop (r35 p2) 0), (AV.rop (r82 p3) 0)])] (I r4), litA (I r4) = true, (B (decide (r4 ≥ 0))) = (B (decide (r4 ≥ 0))), litA (B (decide (r4 ≥ 0))) = true]) (by kernel_rfl) ⟨(slices_IndexFunc_Op_Op__impl_GoodProg_1_m hr4), rfl, rfl, rfl, trivial⟩
noncomputable def body43 : Code := match Try.f43.body with | some c => c | none => .skip
noncomputable def impl_GoodProg_l0  (p1 : GProg) : Nat → GProg → Int → Option Bool
  | 0, _, _ => none
  | n + 1, a14, v15 =>
  if (decide (v15 < (p1.Routines.length : Int))) = true then
    Option.bind (rd p1.Routines v15) fun x17 =>
    if (decide ((x17.length : Int) > 24)) = true then
      some false
    else
      Option.bind (slices_ContainsFunc_Op_Op__impl_GoodProg_1 x17 a14 x17) fun r20 =>
      if r20 = true then
        some false
      else
        impl_GoodProg_l0 p1 n a14 (w64 (v15 + 1))
  else
    some true
theorem impl_GoodProg_l0_m {E : Env} (hP : E.P = Try.prog) (hn : E.n = 44) (hx : ∀ p, p ∈ E.fx → p.1 ∈ ([] : List Nat)) (p1 : GProg)  : ∀ (n : Nat) (a14 : GProg) (v15 : Int) (r : Bool), impl_GoodProg_l0 p1 n a14 v15 = some r → WAt E body43 (FQ (RetE Θ Try.f43.results.toList [] [] (B r) E)) [true, true, false, true, false] ⟨[(1, (AV.ptr 1 0 0)), (29, (AV.ro 1 (p1.Routines.map r82))), (30, (I (p1.Routines.length : Int))), (31, (I v15))], [(1, some ⟨35, 4, [((r35 a14))]⟩)], [1, JJ]⟩ := by
  have hm : E.P.follows .mixedOrders = true := by rw [hP]; exact mixed
  have hΘ : TOK E.P Θ := by rw [hP]; exact Θ_ok
  intro n
  induction n with
  | zero => intro a14 v15 r h; simp only [impl_GoodProg_l0] at h; cases h
  | succ n ih =>
    intro a14 v15 r h
    simp only [impl_GoodProg_l0] at h
    rcases itS h with ⟨c16, h⟩ | ⟨c23, h⟩
    · obtain ⟨x17, hx17, h⟩ := bnS h
      rcases itS h with ⟨c18, h⟩ | ⟨c19, h⟩
      · have h := Option.some.inj h
        subst h
        exact go_ret hΘ hm hP hn (hs := [⟨1, .br true, none⟩, ⟨2, .row (r82 x17), none⟩, ⟨4, .new 1001, none⟩, ⟨7, .no, some (I (x17.length : Int))⟩, ⟨9, .no, some (B true)⟩]) (rh := []) (ph := .raw) (ps := [(decide (v15 < (p1.Routines.length : Int))) = true, (0 : Int) ≤ v15, (p1.Routines.map r82)[(Int.toNat v15)]? = some (r82 x17), AV.lit (.int .i64 (((x17.map o85).length : Nat) : Int)) = (I (x17.length : Int)), (B (decide ((x17.length : Int) > 24))) = (B true), (B false) = (B false), litA (B false) = true]) (by kernel_rfl) ⟨c16, (rd0 hx17), (rdM r82 hx17), (lenM o85), (litB c18), rfl, rfl, trivial⟩
      · obtain ⟨r20, hr20, h⟩ := bnS h
        rcases itS h with ⟨c21, h⟩ | ⟨c22, h⟩
        · have h := Option.some.inj h
          subst h
          exact go_ret hΘ hm hP hn (hs := [⟨1, .br true, none⟩, ⟨2, .row (r82 x17), none⟩, ⟨4, .new 1001, none⟩, ⟨7, .no, some (I (x17.length : Int))⟩, ⟨9, .no, some (B false)⟩, ⟨12, .callV [[((r35 a14)), (r35 a14)], [[(AV.ro 4 (x17.map o85))], (r82 x17)]] (B r20), none⟩, ⟨14, .br true, none⟩]) (rh := []) (ph := .raw) (ps := [(decide (v15 < (p1.Routines.length : Int))) = true, (0 : Int) ≤ v15, (p1.Routines.map r82)[(Int.toNat v15)]? = some (r82 x17), AV.lit (.int .i64 (((x17.map o85).length : Nat) : Int)) = (I (x17.length : Int)), (B (decide ((x17.length : Int) > 24))) = (B false), Meets Try.prog 74 [(AV.ro 4 (x17.map o85)), (AV.fn 75 [(AV.rop (r35 a14) 0), (AV.rop (r82 x17) 0)])] (B r20), litA (B r20) = true, [((r35 a14))][0]? = some ((r35 a14)), treeL ((r35 a14)) = true, frzL ((r35 a14)) = (r35 a14), [[(AV.ro 4 (x17.map o85))]][0]? = some [(AV.ro 4 (x17.map o85))], treeL [(AV.ro 4 (x17.map o85))] = true, frzL [(AV.ro 4 (x17.map o85))] = (r82 x17), r20 = true, (B false) = (B false), litA (B false) = true]) (by kernel_rfl) ⟨c16, (rd0 hx17), (rdM r82 hx17), (lenM o85), (litB c19), (slices_ContainsFunc_Op_Op__impl_GoodProg_1_m hr20), rfl, rfl, rfl, rfl, rfl, rfl, rfl, c21, rfl, rfl, trivial⟩
        · exact go_to hΘ hm hx hP hn (hs := [⟨1, .br true, none⟩, ⟨2, .row (r82 x17), none⟩, ⟨4, .new 1001, none⟩, ⟨7, .no, some (I (x17.length : Int))⟩, ⟨9, .no, some (B false)⟩, ⟨12, .callV [[((r35 a14)), (r35 a14)], [[(AV.ro 4 (x17.map o85))], (r82 x17)]] (B r20), none⟩, ⟨14, .br false, none⟩]) (π := [(1, 1)]) (ts := [1, 29, 30, 31]) (kp := []) (ps := [(decide (v15 < (p1.Routines.length : Int))) = true, (0 : Int) ≤ v15, (p1.Routines.map r82)[(Int.toNat v15)]? = some (r82 x17), AV.lit (.int .i64 (((x17.map o85).length : Nat) : Int)) = (I (x17.length : Int)), (B (decide ((x17.length : Int) > 24))) = (B false), Meets Try.prog 74 [(AV.ro 4 (x17.map o85)), (AV.fn 75 [(AV.rop (r35 a14) 0), (AV.rop (r82 x17) 0)])] (B r20), litA (B r20) = true, [((r35 a14))][0]? = some ((r35 a14)), treeL ((r35 a14)) = true, frzL ((r35 a14)) = (r35 a14), [[(AV.ro 4 (x17.map o85))]][0]? = some [(AV.ro 4 (x17.map o85))], treeL [(AV.ro 4 (x17.map o85))] = true, frzL [(AV.ro 4 (x17.map o85))] = (r82 x17), r20 = false, RenOK [(1, 1)] [((r35 a14))]]) (by kernel_rfl) ⟨c16, (rd0 hx17), (rdM r82 hx17), (lenM o85), (litB c19), (slices_ContainsFunc_Op_Op__impl_GoodProg_1_m hr20), rfl, rfl, rfl, rfl, rfl, rfl, rfl, c22, (rok (treeB t35 a14)), trivial⟩ (ih a14 (w64 (v15 + 1)) _ h)
    · have h := Option.some.inj h
      subst h
      exact go_ret hΘ hm hP hn (hs := [⟨1, .br false, none⟩]) (rh := []) (ph := .raw) (ps := [(decide (v15 < (p1.Routines.length : Int))) = false, (B true) = (B true), litA (B true) = true]) (by kernel_rfl) ⟨c23, rfl, rfl, trivial⟩
noncomputable def impl_GoodProg (p1 : GProg) : Option Bool :=
  Option.bind (impl_in p1.Cells 0 4) fun r2 =>
  if (!r2) = true then
    some false
  else
    Option.bind (impl_in p1.Locks 0 4) fun r5 =>
    if (!r5) = true then
      some false
    else
      Option.bind (impl_in p1.Conds 0 2) fun r8 =>
      if (!r8) = true then
        some false
      else
        Option.bind (impl_in (p1.Routines.length : Int) 1 4) fun r11 =>
        if (!r11) = true then
          some false
        else
          impl_GoodProg_l0 p1 FU p1 0
theorem impl_GoodProg_m {p1 : GProg} {r : Bool} (h : impl_GoodProg p1 = some r) : Meets Try.prog 43 [(AV.agg ((r35 p1)))] (B r) := by
  refine meets_ofC Θ_ok Try.func43 rfl (c := body43) (by kernel_rfl) (Nat.le_of_ble_eq_true rfl) ?_
  intro E hP hn hx
  replace hn : E.n = 44 := hn
  have hm : E.P.follows .mixedOrders = true := by rw [hP]; exact mixed
  have hΘ : TOK E.P Θ := by rw [hP]; exact Θ_ok
  unfold impl_GoodProg at h
  show WAt E body43 (FQ (RetE Θ Try.f43.results.toList [] [] (B r) E)) [] ⟨[(0, (AV.agg ((r35 p1))))], [], [JJ]⟩
  obtain ⟨r2, hr2, h⟩ := bnS h
  rcases itS h with ⟨c3, h⟩ | ⟨c4, h⟩
  · have h := Option.some.inj h
    subst h
    exact go_ret hΘ hm hP hn (hs := [⟨0, .new 1001, none⟩, ⟨4, .callV [] (B r2), none⟩, ⟨6, .no, some (B true)⟩]) (rh := []) (ph := .raw) (ps := [Meets Try.prog 44 [(I p1.Cells), (I 0), (I 4)] (B r2), litA (B r2) = true, (B (!r2)) = (B true), (B false) = (B false), litA (B false) = true]) (by kernel_rfl) ⟨(impl_in_m hr2), rfl, (litB c3), rfl, rfl, trivial⟩
  · obtain ⟨r5, hr5, h⟩ := bnS h
    rcases itS h with ⟨c6, h⟩ | ⟨c7, h⟩
    · have h := Option.some.inj h
      subst h
      exact go_ret hΘ hm hP hn (hs := [⟨0, .new 1001, none⟩, ⟨4, .callV [] (B r2), none⟩, ⟨6, .no, some (B false)⟩, ⟨9, .callV [] (B r5), none⟩, ⟨12, .no, some (B true)⟩]) (rh := []) (ph := .raw) (ps := [Meets Try.prog 44 [(I p1.Cells), (I 0), (I 4)] (B r2), litA (B r2) = true, (B (!r2)) = (B false), Meets Try.prog 44 [(I p1.Locks), (I 0), (I 4)] (B r5), litA (B r5) = true, (B (!r5)) = (B true), (B false) = (B false), litA (B false) = true]) (by kernel_rfl) ⟨(impl_in_m hr2), rfl, (litB c4), (impl_in_m hr5), rfl, (litB c6), rfl, rfl, trivial⟩
    · obtain ⟨r8, hr8, h⟩ := bnS h
      rcases itS h with ⟨c9, h⟩ | ⟨c10, h⟩
      · have h := Option.some.inj h
        subst h
        exact go_ret hΘ hm hP hn (hs := [⟨0, .new 1001, none⟩, ⟨4, .callV [] (B r2), none⟩, ⟨6, .no, some (B false)⟩, ⟨9, .callV [] (B r5), none⟩, ⟨12, .no, some (B false)⟩, ⟨15, .callV [] (B r8), none⟩, ⟨18, .no, some (B true)⟩]) (rh := []) (ph := .raw) (ps := [Meets Try.prog 44 [(I p1.Cells), (I 0), (I 4)] (B r2), litA (B r2) = true, (B (!r2)) = (B false), Meets Try.prog 44 [(I p1.Locks), (I 0), (I 4)] (B r5), litA (B r5) = true, (B (!r5)) = (B false), Meets Try.prog 44 [(I p1.Conds), (I 0), (I 2)] (B r8), litA (B r8) = true, (B (!r8)) = (B true), (B false) = (B false), litA (B false) = true]) (by kernel_rfl) ⟨(impl_in_m hr2), rfl, (litB c4), (impl_in_m hr5), rfl, (litB c7), (impl_in_m hr8), rfl, (litB c9), rfl, rfl, trivial⟩
      · obtain ⟨r11, hr11, h⟩ := bnS h
        rcases itS h with ⟨c12, h⟩ | ⟨c13, h⟩
        · have h := Option.some.inj h
          subst h
          exact go_ret hΘ hm hP hn (hs := [⟨0, .new 1001, none⟩, ⟨4, .callV [] (B r2), none⟩, ⟨6, .no, some (B false)⟩, ⟨9, .callV [] (B r5), none⟩, ⟨12, .no, some (B false)⟩, ⟨15, .callV [] (B r8), none⟩, ⟨18, .no, some (B false)⟩, ⟨21, .no, some (I (p1.Routines.length : Int))⟩, ⟨22, .callV [] (B r11), none⟩, ⟨25, .br true, none⟩]) (rh := []) (ph := .raw) (ps := [Meets Try.prog 44 [(I p1.Cells), (I 0), (I 4)] (B r2), litA (B r2) = true, (B (!r2)) = (B false), Meets Try.prog 44 [(I p1.Locks), (I 0), (I 4)] (B r5), litA (B r5) = true, (B (!r5)) = (B false), Meets Try.prog 44 [(I p1.Conds), (I 0), (I 2)] (B r8), litA (B r8) = true, (B (!r8)) = (B false), AV.lit (.int .i64 (((p1.Routines.map r82).length : Nat) : Int)) = (I (p1.Routines.length : Int)), Meets Try.prog 44 [(I (p1.Routines.length : Int)), (I 1), (I 4)] (B r11), litA (B r11) = true, (!r11) = true, (B false) = (B false), litA (B false) = true]) (by kernel_rfl) ⟨(impl_in_m hr2), rfl, (litB c4), (impl_in_m hr5), rfl, (litB c7), (impl_in_m hr8), rfl, (litB c10), (lenM r82), (impl_in_m hr11), rfl, c12, rfl, rfl, trivial⟩
        · exact go_to hΘ hm hx hP hn (hs := [⟨0, .new 1001, none⟩, ⟨4, .callV [] (B r2), none⟩, ⟨6, .no, some (B false)⟩, ⟨9, .callV [] (B r5), none⟩, ⟨12, .no, some (B false)⟩, ⟨15, .callV [] (B r8), none⟩, ⟨18, .no, some (B false)⟩, ⟨21, .no, some (I (p1.Routines.length : Int))⟩, ⟨22, .callV [] (B r11), none⟩, ⟨25, .br false, none⟩, ⟨28, .no, some (I (p1.Routines.length : Int))⟩]) (π := [(1001, 1)]) (ts := [1, 29, 30, 31]) (kp := []) (ps := [Meets Try.prog 44 [(I p1.Cells), (I 0), (I 4)] (B r2), litA (B r2) = true, (B (!r2)) = (B false), Meets Try.prog 44 [(I p1.Locks), (I 0), (I 4)] (B r5), litA (B r5) = true, (B (!r5)) = (B false), Meets Try.prog 44 [(I p1.Conds), (I 0), (I 2)] (B r8), litA (B r8) = true, (B (!r8)) = (B false), AV.lit (.int .i64 (((p1.Routines.map r82).length : Nat) : Int)) = (I (p1.Routines.length : Int)), Meets Try.prog 44 [(I (p1.Routines.length : Int)), (I 1), (I 4)] (B r11), litA (B r11) = true, (!r11) = false, AV.lit (.int .i64 (((p1.Routines.map r82).length : Nat) : Int)) = (I (p1.Routines.length : Int)), RenOK [(1001, 1)] [((r35 p1))]]) (by kernel_rfl) ⟨(impl_in_m hr2), rfl, (litB c4), (impl_in_m hr5), rfl, (litB c7), (impl_in_m hr8), rfl, (litB c10), (lenM r82), (impl_in_m hr11), rfl, c13, (lenM r82), (rok (treeB t35 p1)), trivial⟩ (impl_GoodProg_l0_m hP hn hx p1 FU p1 0 _ h)
noncomputable def body47 : Code := match Try.f47.body with | some c => c | none => .skip
noncomputable def impl_Thread_isGood_j1  (p1 : GThread) (p2 : GProg)  : Option Bool :=
  Option.bind (impl_in p1.Cond 0 (w64 (p2.Conds - 1))) fun r16 =>
  if r16 = true then
    Option.bind (impl_in p1.Lock 0 (w64 (p2.Locks - 1))) fun r18 =>
    some r18
  else
    some false
theorem impl_Thread_isGood_j1_m {E : Env} (hP : E.P = Try.prog) (hn : E.n = 68) (hx : ∀ p, p ∈ E.fx → p.1 ∈ ([] : List Nat)) (p1 : GThread) (p2 : GProg)   (r : Bool) (h : impl_Thread_isGood_j1 p1 p2  = some r) : WAt E body47 (FQ (RetE Θ Try.f47.results.toList [] [] (B r) E)) [true, true, false, true, false] ⟨[(2, (AV.ptr 1 0 0)), (3, (AV.ptr 2 0 0))], [(1, some ⟨70, 6, [((r70 p1))]⟩), (2, some ⟨35, 4, [((r35 p2))]⟩)], [1, 2, JJ]⟩ := by
  have hm : E.P.follows .mixedOrders = true := by rw [hP]; exact mixed
  have hΘ : TOK E.P Θ := by rw [hP]; exact Θ_ok
  unfold impl_Thread_isGood_j1 at h
  obtain ⟨r16, hr16, h⟩ := bnS h
  rcases itS h with ⟨c17, h⟩ | ⟨c19, h⟩
  · obtain ⟨r18, hr18, h⟩ := bnS h
    have h := Option.some.inj h
    subst h
    exact go_ret hΘ hm hP hn (hs := [⟨5, .callV [] (B r16), none⟩, ⟨6, .no, some (B true)⟩, ⟨12, .callV [] (B r18), none⟩]) (rh := []) (ph := .raw) (ps := [Meets Try.prog 44 [(I p1.Cond), (I 0), (I (w64 (p2.Conds - 1)))] (B r16), litA (B r16) = true, (B r16) = (B true), Meets Try.prog 44 [(I p1.Lock), (I 0), (I (w64 (p2.Locks - 1)))] (B r18), litA (B r18) = true, (B r18) = (B r18), litA (B r18) = true]) (by kernel_rfl) ⟨(impl_in_m hr16), rfl, (litB c17), (impl_in_m hr18), rfl, rfl, rfl, trivial⟩
  · have h := Option.some.inj h
    subst h
    exact go_ret hΘ hm hP hn (hs := [⟨5, .callV [] (B r16), none⟩, ⟨6, .no, some (B false)⟩]) (rh := []) (ph := .raw) (ps := [Meets Try.prog 44 [(I p1.Cond), (I 0), (I (w64 (p2.Conds - 1)))] (B r16), litA (B r16) = true, (B r16) = (B false), (B false) = (B false), litA (B false) = true]) (by kernel_rfl) ⟨(impl_in_m hr16), rfl, (litB c19), rfl, rfl, trivial⟩
noncomputable def impl_Thread_isGood_j0  (p1 : GThread) (p2 : GProg)  : Option Bool :=
  if (p1.State == 3) = true then
    impl_Thread_isGood_j1 p1 p2
  else
    if (p1.State == 4) = true then
      impl_Thread_isGood_j1 p1 p2
    else
      if (p1.Cond == (-1)) = true then
        some (p1.Lock == (-1))
      else
        some false
theorem impl_Thread_isGood_j0_m {E : Env} (hP : E.P = Try.prog) (hn : E.n = 68) (hx : ∀ p, p ∈ E.fx → p.1 ∈ ([] : List Nat)) (p1 : GThread) (p2 : GProg)   (r : Bool) (h : impl_Thread_isGood_j0 p1 p2  = some r) : WAt E body47 (FQ (RetE Θ Try.f47.results.toList [] [] (B r) E)) [true, false, true, true] ⟨[(2, (AV.ptr 1 0 0)), (3, (AV.ptr 2 0 0))], [(1, some ⟨70, 6, [((r70 p1))]⟩), (2, some ⟨35, 4, [((r35 p2))]⟩)], [1, 2, JJ]⟩ := by
  have hm : E.P.follows .mixedOrders = true := by rw [hP]; exact mixed
  have hΘ : TOK E.P Θ := by rw [hP]; exact Θ_ok
  unfold impl_Thread_isGood_j0 at h
  rcases itS h with ⟨c15, h⟩ | ⟨c20, h⟩
  · exact go_to hΘ hm hx hP hn (hs := [⟨3, .no, some (B true)⟩]) (π := [(1, 1), (2, 2)]) (ts := [2, 3]) (kp := []) (ps := [(B (p1.State == 3)) = (B true), RenOK [(1, 1), (2, 2)] [((r70 p1))], RenOK [(1, 1), (2, 2)] [((r35 p2))]]) (by kernel_rfl) ⟨(litB c15), (rok (treeB t70 p1)), (rok (treeB t35 p2)), trivial⟩ (impl_Thread_isGood_j1_m hP hn hx p1 p2  _ h)
  · rcases itS h with ⟨c21, h⟩ | ⟨c22, h⟩
    · exact go_to hΘ hm hx hP hn (hs := [⟨3, .no, some (B false)⟩, ⟨8, .br true, none⟩]) (π := [(1, 1), (2, 2)]) (ts := [2, 3]) (kp := []) (ps := [(B (p1.State == 3)) = (B false), (p1.State == 4) = true, RenOK [(1, 1), (2, 2)] [((r70 p1))], RenOK [(1, 1), (2, 2)] [((r35 p2))]]) (by kernel_rfl) ⟨(litB c20), c21, (rok (treeB t70 p1)), (rok (treeB t35 p2)), trivial⟩ (impl_Thread_isGood_j1_m hP hn hx p1 p2  _ h)
    · rcases itS h with ⟨c23, h⟩ | ⟨c24, h⟩
      · have h := Option.some.inj h
        subst h
        exact go_ret hΘ hm hP hn (hs := [⟨3, .no, some (B false)⟩, ⟨8, .br false, none⟩, ⟨12, .no, some (B true)⟩]) (rh := []) (ph := .raw) (ps := [(B (p1.State == 3)) = (B false), (p1.State == 4) = false, (B (p1.Cond == (-1))) = (B true), (B (p1.Lock == (-1))) = (B (p1.Lock == (-1))), litA (B (p1.Lock == (-1))) = true]) (by kernel_rfl) ⟨(litB c20), c22, (litB c23), rfl, rfl, trivial⟩
      · have h := Option.some.inj h
        subst h
        exact go_ret hΘ hm hP hn (hs := [⟨3, .no, some (B false)⟩, ⟨8, .br false, none⟩, ⟨12, .no, some (B false)⟩]) (rh := []) (ph := .raw) (ps := [(B (p1.State == 3)) = (B false), (p1.State == 4) = false, (B (p1.Cond == (-1))) = (B false), (B false) = (B false), litA (B false) = true]) (by kernel_rfl) ⟨(litB c20), c22, (litB c24), rfl, rfl, trivial⟩
noncomputable def impl_Thread_isGood (p1 : GThread) (p2 : GProg) : Option Bool :=
  Option.bind (impl_in p1.Routine 0 (w64 ((p2.Routines.length : Int) - 1))) fun r3 =>
  if (!r3) = true then
    some false
  else
    Option.bind (rd p2.Routines p1.Routine) fun x6 =>
    Option.bind (impl_in p1.Pc 0 (x6.length : Int)) fun r7 =>
    if (!r7) = true then
      some false
    else
      Option.bind (impl_in p1.State 1 4) fun r10 =>
      if (!r10) = true then
        some false
      else
        if (decide ((p1.Stack.length : Int) > 8)) = true then
          some false
        else
          impl_Thread_isGood_j0 p1 p2
theorem impl_Thread_isGood_m {p1 : GThread} {p2 : GProg} {r : Bool} (h : impl_Thread_isGood p1 p2 = some r) : Meets Try.prog 47 [(AV.agg ((r70 p1))), (AV.agg ((r35 p2)))] (B r) := by
  refine meets_ofC Θ_ok Try.func47 rfl (c := body47) (by kernel_rfl) (Nat.le_of_ble_eq_true rfl) ?_
  intro E hP hn hx
  replace hn : E.n = 68 := hn
  have hm : E.P.follows .mixedOrders = true := by rw [hP]; exact mixed
  have hΘ : TOK E.P Θ := by rw [hP]; exact Θ_ok
  unfold impl_Thread_isGood at h
  show WAt E body47 (FQ (RetE Θ Try.f47.results.toList [] [] (B r) E)) [] ⟨[(0, (AV.agg ((r70 p1)))), (1, (AV.agg ((r35 p2))))], [], [JJ]⟩
  obtain ⟨r3, hr3, h⟩ := bnS h
  rcases itS h with ⟨c4, h⟩ | ⟨c5, h⟩
  · have h := Option.some.inj h
    subst h
    exact go_ret hΘ hm hP hn (hs := [⟨0, .new 1001, none⟩, ⟨1, .new 1002, none⟩, ⟨7, .no, some (I (p2.Routines.length : Int))⟩, ⟨9, .callV [] (B r3), none⟩, ⟨11, .no, some (B true)⟩]) (rh := []) (ph := .raw) (ps := [AV.lit (.int .i64 (((p2.Routines.map r82).length : Nat) : Int)) = (I (p2.Routines.length : Int)), Meets Try.prog 44 [(I p1.Routine), (I 0), (I (w64 ((p2.Routines.length : Int) - 1)))] (B r3), litA (B r3) = true, (B (!r3)) = (B true), (B false) = (B false), litA (B false) = true]) (by kernel_rfl) ⟨(lenM r82), (impl_in_m hr3), rfl, (litB c4), rfl, rfl, trivial⟩
  · obtain ⟨x6, hx6, h⟩ := bnS h
    obtain ⟨r7, hr7, h⟩ := bnS h
    rcases itS h with ⟨c8, h⟩ | ⟨c9, h⟩
    · have h := Option.some.inj h
      subst h
      exact go_ret hΘ hm hP hn (hs := [⟨0, .new 1001, none⟩, ⟨1, .new 1002, none⟩, ⟨7, .no, some (I (p2.Routines.length : Int))⟩, ⟨9, .callV [] (B r3), none⟩, ⟨11, .no, some (B false)⟩, ⟨18, .row (r82 x6), none⟩, ⟨20, .no, some (I (x6.length : Int))⟩, ⟨21, .callV [] (B r7), none⟩, ⟨24, .no, some (B true)⟩]) (rh := []) (ph := .raw) (ps := [AV.lit (.int .i64 (((p2.Routines.map r82).length : Nat) : Int)) = (I (p2.Routines.length : Int)), Meets Try.prog 44 [(I p1.Routine), (I 0), (I (w64 ((p2.Routines.length : Int) - 1)))] (B r3), litA (B r3) = true, (B (!r3)) = (B false), (0 : Int) ≤ p1.Routine, (p2.Routines.map r82)[(Int.toNat p1.Routine)]? = some (r82 x6), AV.lit (.int .i64 (((x6.map o85).length : Nat) : Int)) = (I (x6.length : Int)), Meets Try.prog 44 [(I p1.Pc), (I 0), (I (x6.length : Int))] (B r7), litA (B r7) = true, (B (!r7)) = (B true), (B false) = (B false), litA (B false) = true]) (by kernel_rfl) ⟨(lenM r82), (impl_in_m hr3), rfl, (litB c5), (rd0 hx6), (rdM r82 hx6), (lenM o85), (impl_in_m hr7), rfl, (litB c8), rfl, rfl, trivial⟩
    · obtain ⟨r10, hr10, h⟩ := bnS h
      rcases itS h with ⟨c11, h⟩ | ⟨c12, h⟩
      · have h := Option.some.inj h
        subst h
        exact go_ret hΘ hm hP hn (hs := [⟨0, .new 1001, none⟩, ⟨1, .new 1002, none⟩, ⟨7, .no, some (I (p2.Routines.length : Int))⟩, ⟨9, .callV [] (B r3), none⟩, ⟨11, .no, some (B false)⟩, ⟨18, .row (r82 x6), none⟩, ⟨20, .no, some (I (x6.length : Int))⟩, ⟨21, .callV [] (B r7), none⟩, ⟨24, .no, some (B false)⟩, ⟨27, .callV [] (B r10), none⟩, ⟨30, .no, some (B true)⟩]) (rh := []) (ph := .raw) (ps := [AV.lit (.int .i64 (((p2.Routines.map r82).length : Nat) : Int)) = (I (p2.Routines.length : Int)), Meets Try.prog 44 [(I p1.Routine), (I 0), (I (w64 ((p2.Routines.length : Int) - 1)))] (B r3), litA (B r3) = true, (B (!r3)) = (B false), (0 : Int) ≤ p1.Routine, (p2.Routines.map r82)[(Int.toNat p1.Routine)]? = some (r82 x6), AV.lit (.int .i64 (((x6.map o85).length : Nat) : Int)) = (I (x6.length : Int)), Meets Try.prog 44 [(I p1.Pc), (I 0), (I (x6.length : Int))] (B r7), litA (B r7) = true, (B (!r7)) = (B false), Meets Try.prog 44 [(I p1.State), (I 1), (I 4)] (B r10), litA (B r10) = true, (B (!r10)) = (B true), (B false) = (B false), litA (B false) = true]) (by kernel_rfl) ⟨(lenM r82), (impl_in_m hr3), rfl, (litB c5), (rd0 hx6), (rdM r82 hx6), (lenM o85), (impl_in_m hr7), rfl, (litB c9), (impl_in_m hr10), rfl, (litB c11), rfl, rfl, trivial⟩
      · rcases itS h with ⟨c13, h⟩ | ⟨c14, h⟩
        · have h := Option.some.inj h
          subst h
          exact go_ret hΘ hm hP hn (hs := [⟨0, .new 1001, none⟩, ⟨1, .new 1002, none⟩, ⟨7, .no, some (I (p2.Routines.length : Int))⟩, ⟨9, .callV [] (B r3), none⟩, ⟨11, .no, some (B false)⟩, ⟨18, .row (r82 x6), none⟩, ⟨20, .no, some (I (x6.length : Int))⟩, ⟨21, .callV [] (B r7), none⟩, ⟨24, .no, some (B false)⟩, ⟨27, .callV [] (B r10), none⟩, ⟨30, .no, some (B false)⟩, ⟨33, .no, some (I (p1.Stack.length : Int))⟩, ⟨36, .br true, none⟩]) (rh := []) (ph := .raw) (ps := [AV.lit (.int .i64 (((p2.Routines.map r82).length : Nat) : Int)) = (I (p2.Routines.length : Int)), Meets Try.prog 44 [(I p1.Routine), (I 0), (I (w64 ((p2.Routines.length : Int) - 1)))] (B r3), litA (B r3) = true, (B (!r3)) = (B false), (0 : Int) ≤ p1.Routine, (p2.Routines.map r82)[(Int.toNat p1.Routine)]? = some (r82 x6), AV.lit (.int .i64 (((x6.map o85).length : Nat) : Int)) = (I (x6.length : Int)), Meets Try.prog 44 [(I p1.Pc), (I 0), (I (x6.length : Int))] (B r7), litA (B r7) = true, (B (!r7)) = (B false), Meets Try.prog 44 [(I p1.State), (I 1), (I 4)] (B r10), litA (B r10) = true, (B (!r10)) = (B false), AV.lit (.int .i64 (((p1.Stack.map o83).length : Nat) : Int)) = (I (p1.Stack.length : Int)), (decide ((p1.Stack.length : Int) > 8)) = true, (B false) = (B false), litA (B false) = true]) (by kernel_rfl) ⟨(lenM r82), (impl_in_m hr3), rfl, (litB c5), (rd0 hx6), (rdM r82 hx6), (lenM o85), (impl_in_m hr7), rfl, (litB c9), (impl_in_m hr10), rfl, (litB c12), (lenM o83), c13, rfl, rfl, trivial⟩
        · exact go_to hΘ hm hx hP hn (hs := [⟨0, .new 1001, none⟩, ⟨1, .new 1002, none⟩, ⟨7, .no, some (I (p2.Routines.length : Int))⟩, ⟨9, .callV [] (B r3), none⟩, ⟨11, .no, some (B false)⟩, ⟨18, .row (r82 x6), none⟩, ⟨20, .no, some (I (x6.length : Int))⟩, ⟨21, .callV [] (B r7), none⟩, ⟨24, .no, some (B false)⟩, ⟨27, .callV [] (B r10), none⟩, ⟨30, .no, some (B false)⟩, ⟨33, .no, some (I (p1.Stack.length : Int))⟩, ⟨36, .br false, none⟩]) (π := [(1001, 1), (1002, 2)]) (ts := [2, 3]) (kp := []) (ps := [AV.lit (.int .i64 (((p2.Routines.map r82).length : Nat) : Int)) = (I (p2.Routines.length : Int)), Meets Try.prog 44 [(I p1.Routine), (I 0), (I (w64 ((p2.Routines.length : Int) - 1)))] (B r3), litA (B r3) = true, (B (!r3)) = (B false), (0 : Int) ≤ p1.Routine, (p2.Routines.map r82)[(Int.toNat p1.Routine)]? = some (r82 x6), AV.lit (.int .i64 (((x6.map o85).length : Nat) : Int)) = (I (x6.length : Int)), Meets Try.prog 44 [(I p1.Pc), (I 0), (I (x6.length : Int))] (B r7), litA (B r7) = true, (B (!r7)) = (B false), Meets Try.prog 44 [(I p1.State), (I 1), (I 4)] (B r10), litA (B r10) = true, (B (!r10)) = (B false), AV.lit (.int .i64 (((p1.Stack.map o83).length : Nat) : Int)) = (I (p1.Stack.length : Int)), (decide ((p1.Stack.length : Int) > 8)) = false, RenOK [(1001, 1), (1002, 2)] [((r70 p1))], RenOK [(1001, 1), (1002, 2)] [((r35 p2))]]) (by kernel_rfl) ⟨(lenM r82), (impl_in_m hr3), rfl, (litB c5), (rd0 hx6), (rdM r82 hx6), (lenM o85), (impl_in_m hr7), rfl, (litB c9), (impl_in_m hr10), rfl, (litB c12), (lenM o83), c14, (rok (treeB t70 p1)), (rok (treeB t35 p2)), trivial⟩ (impl_Thread_isGood_j0_m hP hn hx p1 p2  _ h)
noncomputable def body46 : Code := match Try.f46.body with | some c => c | none => .skip
noncomputable def impl_GoodState_1 (p1 : GThread) (p2 : GProg) : Option Bool :=
  Option.bind (impl_Thread_isGood p1 p2) fun r3 =>
  some (!r3)
theorem impl_GoodState_1_m {p1 : GThread} {p2 : GProg} {r : Bool} (h : impl_GoodState_1 p1 p2 = some r) : Meets Try.prog 46 [(AV.agg ((r70 p1))), (AV.rop (r35 p2) 0)] (B r) := by
  refine meets_ofC Θ_ok Try.func46 rfl (c := body46) (by kernel_rfl) (Nat.le_of_ble_eq_true rfl) ?_
  intro E hP hn hx
  replace hn : E.n = 8 := hn
  have hm : E.P.follows .mixedOrders = true := by rw [hP]; exact mixed
  have hΘ : TOK E.P Θ := by rw [hP]; exact Θ_ok
  unfold impl_GoodState_1 at h
  show WAt E body46 (FQ (RetE Θ Try.f46.results.toList [] [] (B r) E)) [] ⟨[(0, (AV.agg ((r70 p1)))), (1, (AV.rop (r35 p2) 0))], [], [JJ]⟩
  obtain ⟨r3, hr3, h⟩ := bnS h
  have h := Option.some.inj h
  subst h
  exact go_ret hΘ hm hP hn (hs := [⟨0, .new 1001, none⟩, ⟨4, .callV [[], []] (B r3), none⟩]) (rh := []) (ph := .raw) (ps := [Meets Try.prog 47 [(AV.agg ((r70 p1))), (AV.agg ((r35 p2)))] (B r3), litA (B r3) = true, (B (!r3)) = (B (!r3)), litA (B (!r3)) = true]) (by kernel_rfl) ⟨(impl_Thread_isGood_m hr3), rfl, rfl, rfl, trivial⟩
noncomputable def body77 : Code := match Try.f77.body with | some c => c | none => .skip
noncomputable def slices_IndexFunc_Thread_Thread__impl_GoodState_1_l0  (p1 : (List GThread)) (p2 : GProg) : Nat → Int → Option Int
  | 0, _ => none
  | n + 1, v3 =>
  if (decide (v3 < (p1.length : Int))) = true then
    Option.bind (rd p1 v3) fun x5 =>
    Option.bind (impl_GoodState_1 x5 p2) fun r6 =>
    if r6 = true then
      some v3
    else
      slices_IndexFunc_Thread_Thread__impl_GoodState_1_l0 p1 p2 n (w64 (v3 + 1))
  else
    some (-1)
theorem slices_IndexFunc_Thread_Thread__impl_GoodState_1_l0_m {E : Env} (hP : E.P = Try.prog) (hn : E.n = 19) (hx : ∀ p, p ∈ E.fx → p.1 ∈ ([] : List Nat)) (p1 : (List GThread)) (p2 : GProg)  : ∀ (n : Nat) (v3 : Int) (r : Int), slices_IndexFunc_Thread_Thread__impl_GoodState_1_l0 p1 p2 n v3 = some r → WAt E body77 (FQ (RetE Θ Try.f77.results.toList [] [] (I r) E)) [true, false, true, false] ⟨[(0, (AV.ro 6 (p1.map r70))), (1, (AV.fn 46 [(AV.rop (r35 p2) 0)])), (7, (I (p1.length : Int))), (8, (I v3))], [], [JJ]⟩ := by
  have hm : E.P.follows .mixedOrders = true := by rw [hP]; exact mixed
  have hΘ : TOK E.P Θ := by rw [hP]; exact Θ_ok
  intro n
  induction n with
  | zero => intro v3 r h; simp only [slices_IndexFunc_Thread_Thread__impl_GoodState_1_l0] at h; cases h
  | succ n ih =>
    intro v3 r h
    simp only [slices_IndexFunc_Thread_Thread__impl_GoodState_1_l0] at h
    rcases itS h with ⟨c4, h⟩ | ⟨c9, h⟩
    · obtain ⟨x5, hx5, h⟩ := bnS h
      obtain ⟨r6, hr6, h⟩ := bnS h
      rcases itS h with ⟨c7, h⟩ | ⟨c8, h⟩
      · have h := Option.some.inj h
        subst h
        exact go_ret hΘ hm hP hn (hs := [⟨1, .br true, none⟩, ⟨7, .row (r70 x5), none⟩, ⟨9, .callV [[]] (B r6), none⟩, ⟨10, .br true, none⟩]) (rh := []) (ph := .raw) (ps := [(decide (v3 < (p1.length : Int))) = true, (0 : Int) ≤ v3, (p1.map r70)[(Int.toNat v3)]? = some (r70 x5), Meets Try.prog 46 [(AV.agg ((r70 x5))), (AV.rop (r35 p2) 0)] (B r6), litA (B r6) = true, r6 = true, (I v3) = (I v3), litA (I v3) = true]) (by kernel_rfl) ⟨c4, (rd0 hx5), (rdM r70 hx5), (impl_GoodState_1_m hr6), rfl, c7, rfl, rfl, trivial⟩
      · exact go_to hΘ hm hx hP hn (hs := [⟨1, .br true, none⟩, ⟨7, .row (r70 x5), none⟩, ⟨9, .callV [[]] (B r6), none⟩, ⟨10, .br false, none⟩]) (π := []) (ts := [0, 1, 7, 8]) (kp := []) (ps := [(decide (v3 < (p1.length : Int))) = true, (0 : Int) ≤ v3, (p1.map r70)[(Int.toNat v3)]? = some (r70 x5), Meets Try.prog 46 [(AV.agg ((r70 x5))), (AV.rop (r35 p2) 0)] (B r6), litA (B r6) = true, r6 = false]) (by kernel_rfl) ⟨c4, (rd0 hx5), (rdM r70 hx5), (impl_GoodState_1_m hr6), rfl, c8, trivial⟩ (ih (w64 (v3 + 1)) _ h)
    · have h := Option.some.inj h
      subst h
      exact go_ret hΘ hm hP hn (hs := [⟨1, .br false, none⟩]) (rh := []) (ph := .raw) (ps := [(decide (v3 < (p1.length : Int))) = false, (I (-1)) = (I (-1)), litA (I (-1)) = true]) (by kernel_rfl) ⟨c9, rfl, rfl, trivial⟩
noncomputable def slices_IndexFunc_Thread_Thread__impl_GoodState_1 (p1 : (List GThread)) (p2 : GProg) : Option Int :=
  slices_IndexFunc_Thread_Thread__impl_GoodState_1_l0 p1 p2 FU 0
theorem slices_IndexFunc_Thread_Thread__impl_GoodState_1_m {p1 : (List GThread)} {p2 : GProg} {r : Int} (h : slices_IndexFunc_Thread_Thread__impl_GoodState_1 p1 p2 = some r) : Meets Try.prog 77 [(AV.ro 6 (p1.map r70)), (AV.fn 46 [(AV.rop (r35 p2) 0)])] (I r) := by
  refine meets_ofC Θ_ok Try.func77 rfl (c := body77) (by kernel_rfl) (Nat.le_of_ble_eq_true rfl) ?_
  intro E hP hn hx
  replace hn : E.n = 19 := hn
  have hm : E.P.follows .mixedOrders = true := by rw [hP]; exact mixed
  have hΘ : TOK E.P Θ := by rw [hP]; exact Θ_ok
  unfold slices_IndexFunc_Thread_Thread__impl_GoodState_1 at h
  show WAt E body77 (FQ (RetE Θ Try.f77.results.toList [] [] (I r) E)) [] ⟨[(0, (AV.ro 6 (p1.map r70))), (1, (AV.fn 46 [(AV.rop (r35 p2) 0)]))], [], [JJ]⟩
  exact go_to hΘ hm hx hP hn (hs := [⟨2, .no, some (I (p1.length : Int))⟩]) (π := []) (ts := [0, 1, 7, 8]) (kp := []) (ps := [AV.lit (.int .i64 (((p1.map r70).length : Nat) : Int)) = (I (p1.length : Int))]) (by kernel_rfl) ⟨(lenM r70), trivial⟩ (slices_IndexFunc_Thread_Thread__impl_GoodState_1_l0_m hP hn hx p1 p2 FU 0 _ h)
noncomputable def body45 : Code := match Try.f45.body with | some c => c | none => .skip
noncomputable def slices_ContainsFunc_Thread_Thread__impl_GoodState_1 (p1 : (List GThread)) (p2 : GProg) : Option Bool :=
  Option.bind (slices_IndexFunc_Thread_Thread__impl_GoodState_1 p1 p2) fun r3 =>
  some (decide (r3 ≥ 0))
theorem slices_ContainsFunc_Thread_Thread__impl_GoodState_1_m {p1 : (List GThread)} {p2 : GProg} {r : Bool} (h : slices_ContainsFunc_Thread_Thread__impl_GoodState_1 p1 p2 = some r) : Meets Try.prog 45 [(AV.ro 6 (p1.map r70)), (AV.fn 46 [(AV.rop (r35 p2) 0)])] (B r) := by
  refine meets_ofC Θ_ok Try.func45 rfl (c := body45) (by kernel_rfl) (Nat.le_of_ble_eq_true rfl) ?_
  intro E hP hn hx
  replace hn : E.n = 9 := hn
  have hm : E.P.follows .mixedOrders = true := by rw [hP]; exact mixed
  have hΘ : TOK E.P Θ := by rw [hP]; exact Θ_ok
  unfold slices_ContainsFunc_Thread_Thread__impl_GoodState_1 at h
  show WAt E body45 (FQ (RetE Θ Try.f45.results.toList [] [] (B r) E)) [] ⟨[(0, (AV.ro 6 (p1.map r70))), (1, (AV.fn 46 [(AV.rop (r35 p2) 0)]))], [], [JJ]⟩
  obtain ⟨r3, hr3, h⟩ := bnS h
  have h := Option.some.inj h
  subst h
  exact go_ret hΘ hm hP hn (hs := [⟨3, .callV [] (I r3), none⟩]) (rh := []) (ph := .raw) (ps := [Meets Try.prog 77 [(AV.ro 6 (p1.map r70)), (AV.fn 46 [(AV.rop (r35 p2) 0)])] (I r3), litA (I r3) = true, (B (decide (r3 ≥ 0))) = (B (decide (r3 ≥ 0))), litA (B (decide (r3 ≥ 0))) = true]) (by kernel_rfl) ⟨(slices_IndexFunc_Thread_Thread__impl_GoodState_1_m hr3), rfl, rfl, rfl, trivial⟩
noncomputable def body49 : Code := match Try.f49.body with | some c => c | none => .skip
noncomputable def impl_GoodState_2 (p1 : Int) (p2 : GState) : Option Bool :=
  Option.bind (impl_in p1 (-1) (w64 ((p2.Threads.length : Int) - 1))) fun r3 =>
  some (!r3)
theorem impl_GoodState_2_m {p1 : Int} {p2 : GState} {r : Bool} (h : impl_GoodState_2 p1 p2 = some r) : Meets Try.prog 49 [(I p1), (AV.rop (r39 p2) 0)] (B r) := by
  refine meets_ofC Θ_ok Try.func49 rfl (c := body49) (by kernel_rfl) (Nat.le_of_ble_eq_true rfl) ?_
  intro E hP hn hx
  replace hn : E.n = 11 := hn
  have hm : E.P.follows .mixedOrders = true := by rw [hP]; exact mixed
  have hΘ : TOK E.P Θ := by rw [hP]; exact Θ_ok
  unfold impl_GoodState_2 at h
  show WAt E body49 (FQ (RetE Θ Try.f49.results.toList [] [] (B r) E)) [] ⟨[(0, (I p1)), (1, (AV.rop (r39 p2) 0))], [], [JJ]⟩
  obtain ⟨r3, hr3, h⟩ := bnS h
  have h := Option.some.inj h
  subst h
  exact go_ret hΘ hm hP hn (hs := [⟨4, .no, some (I (p2.Threads.length : Int))⟩, ⟨6, .callV [] (B r3), none⟩]) (rh := []) (ph := .raw) (ps := [AV.lit (.int .i64 (((p2.Threads.map r70).length : Nat) : Int)) = (I (p2.Threads.length : Int)), Meets Try.prog 44 [(I p1), (I (-1)), (I (w64 ((p2.Threads.length : Int) - 1)))] (B r3), litA (B r3) = true, (B (!r3)) = (B (!r3)), litA (B (!r3)) = true]) (by kernel_rfl) ⟨(lenM r70), (impl_in_m hr3), rfl, rfl, rfl, trivial⟩
noncomputable def body78 : Code := match Try.f78.body with | some c => c | none => .skip
noncomputable def slices_IndexFunc_int_int__impl_GoodState_2_l0  (p1 : (List Int)) (p2 : GState) : Nat → Int → Option Int
  | 0, _ => none
  | n + 1, v3 =>
  if (decide (v3 < (p1.length : Int))) = true then
    Option.bind (rd p1 v3) fun x5 =>
    Option.bind (impl_GoodState_2 x5 p2) fun r6 =>
    if r6 = true then
      some v3
    else
      slices_IndexFunc_int_int__impl_GoodState_2_l0 p1 p2 n (w64 (v3 + 1))
  else
    some (-1)
theorem slices_IndexFunc_int_int__impl_GoodState_2_l0_m {E : Env} (hP : E.P = Try.prog) (hn : E.n = 19) (hx : ∀ p, p ∈ E.fx → p.1 ∈ ([] : List Nat)) (p1 : (List Int)) (p2 : GState)  : ∀ (n : Nat) (v3 : Int) (r : Int), slices_IndexFunc_int_int__impl_GoodState_2_l0 p1 p2 n v3 = some r → WAt E body78 (FQ (RetE Θ Try.f78.results.toList [] [] (I r) E)) [true, false, true, false] ⟨[(0, (AV.ro 1 (p1.map o3))), (1, (AV.fn 49 [(AV.rop (r39 p2) 0)])), (7, (I (p1.length : Int))), (8, (I v3))], [], [JJ]⟩ := by
  have hm : E.P.follows .mixedOrders = true := by rw [hP]; exact mixed
  have hΘ : TOK E.P Θ := by rw [hP]; exact Θ_ok
  intro n
  induction n with
  | zero => intro v3 r h; simp only [slices_IndexFunc_int_int__impl_GoodState_2_l0] at h; cases h
  | succ n ih =>
    intro v3 r h
    simp only [slices_IndexFunc_int_int__impl_GoodState_2_l0] at h
    rcases itS h with ⟨c4, h⟩ | ⟨c9, h⟩
    · obtain ⟨x5, hx5, h⟩ := bnS h
      obtain ⟨r6, hr6, h⟩ := bnS h
      rcases itS h with ⟨c7, h⟩ | ⟨c8, h⟩
      · have h := Option.some.inj h
        subst h
        exact go_ret hΘ hm hP hn (hs := [⟨1, .br true, none⟩, ⟨7, .row (o3 x5), none⟩, ⟨9, .callV [] (B r6), none⟩, ⟨10, .br true, none⟩]) (rh := []) (ph := .raw) (ps := [(decide (v3 < (p1.length : Int))) = true, (0 : Int) ≤ v3, (p1.map o3)[(Int.toNat v3)]? = some (o3 x5), Meets Try.prog 49 [(I x5), (AV.rop (r39 p2) 0)] (B r6), litA (B r6) = true, r6 = true, (I v3) = (I v3), litA (I v3) = true]) (by kernel_rfl) ⟨c4, (rd0 hx5), (rdM o3 hx5), (impl_GoodState_2_m hr6), rfl, c7, rfl, rfl, trivial⟩
      · exact go_to hΘ hm hx hP hn (hs := [⟨1, .br true, none⟩, ⟨7, .row (o3 x5), none⟩, ⟨9, .callV [] (B r6), none⟩, ⟨10, .br false, none⟩]) (π := []) (ts := [0, 1, 7, 8]) (kp := []) (ps := [(decide (v3 < (p1.length : Int))) = true, (0 : Int) ≤ v3, (p1.map o3)[(Int.toNat v3)]? = some (o3 x5), Meets Try.prog 49 [(I x5), (AV.rop (r39 p2) 0)] (B r6), litA (B r6) = true, r6 = false]) (by kernel_rfl) ⟨c4, (rd0 hx5), (rdM o3 hx5), (impl_GoodState_2_m hr6), rfl, c8, trivial⟩ (ih (w64 (v3 + 1)) _ h)
    · have h := Option.some.inj h
      subst h
      exact go_ret hΘ hm hP hn (hs := [⟨1, .br false, none⟩]) (rh := []) (ph := .raw) (ps := [(decide (v3 < (p1.length : Int))) = false, (I (-1)) = (I (-1)), litA (I (-1)) = true]) (by kernel_rfl) ⟨c9, rfl, rfl, trivial⟩
noncomputable def slices_IndexFunc_int_int__impl_GoodState_2 (p1 : (List Int)) (p2 : GState) : Option Int :=
  slices_IndexFunc_int_int__impl_GoodState_2_l0 p1 p2 FU 0
theorem slices_IndexFunc_int_int__impl_GoodState_2_m {p1 : (List Int)} {p2 : GState} {r : Int} (h : slices_IndexFunc_int_int__impl_GoodState_2 p1 p2 = some r) : Meets Try.prog 78 [(AV.ro 1 (p1.map o3)), (AV.fn 49 [(AV.rop (r39 p2) 0)])] (I r) := by
  refine meets_ofC Θ_ok Try.func78 rfl (c := body78) (by kernel_rfl) (Nat.le_of_ble_eq_true rfl) ?_
  intro E hP hn hx
  replace hn : E.n = 19 := hn
  have hm : E.P.follows .mixedOrders = true := by rw [hP]; exact mixed
  have hΘ : TOK E.P Θ := by rw [hP]; exact Θ_ok
  unfold slices_IndexFunc_int_int__impl_GoodState_2 at h
  show WAt E body78 (FQ (RetE Θ Try.f78.results.toList [] [] (I r) E)) [] ⟨[(0, (AV.ro 1 (p1.map o3))), (1, (AV.fn 49 [(AV.rop (r39 p2) 0)]))], [], [JJ]⟩
  exact go_to hΘ hm hx hP hn (hs := [⟨2, .no, some (I (p1.length : Int))⟩]) (π := []) (ts := [0, 1, 7, 8]) (kp := []) (ps := [AV.lit (.int .i64 (((p1.map o3).length : Nat) : Int)) = (I (p1.length : Int))]) (by kernel_rfl) ⟨(lenM o3), trivial⟩ (slices_IndexFunc_int_int__impl_GoodState_2_l0_m hP hn hx p1 p2 FU 0 _ h)
noncomputable def body48 : Code := match Try.f48.body with | some c => c | none => .skip
noncomputable def slices_ContainsFunc_int_int__impl_GoodState_2 (p1 : (List Int)) (p2 : GState) : Option Bool :=
  Option.bind (slices_IndexFunc_int_int__impl_GoodState_2 p1 p2) fun r3 =>
  some (decide (r3 ≥ 0))
theorem slices_ContainsFunc_int_int__impl_GoodState_2_m {p1 : (List Int)} {p2 : GState} {r : Bool} (h : slices_ContainsFunc_int_int__impl_GoodState_2 p1 p2 = some r) : Meets Try.prog 48 [(AV.ro 1 (p1.map o3)), (AV.fn 49 [(AV.rop (r39 p2) 0)])] (B r) := by
  refine meets_ofC Θ_ok Try.func48 rfl (c := body48) (by kernel_rfl) (Nat.le_of_ble_eq_true rfl) ?_
  intro E hP hn hx
  replace hn : E.n = 9 := hn
  have hm : E.P.follows .mixedOrders = true := by rw [hP]; exact mixed
  have hΘ : TOK E.P Θ := by rw [hP]; exact Θ_ok
  unfold slices_ContainsFunc_int_int__impl_GoodState_2 at h
  show WAt E body48 (FQ (RetE Θ Try.f48.results.toList [] [] (B r) E)) [] ⟨[(0, (AV.ro 1 (p1.map o3))), (1, (AV.fn 49 [(AV.rop (r39 p2) 0)]))], [], [JJ]⟩
  obtain ⟨r3, hr3, h⟩ := bnS h
  have h := Option.some.inj h
  subst h
  exact go_ret hΘ hm hP hn (hs := [⟨3, .callV [] (I r3), none⟩]) (rh := []) (ph := .raw) (ps := [Meets Try.prog 78 [(AV.ro 1 (p1.map o3)), (AV.fn 49 [(AV.rop (r39 p2) 0)])] (I r3), litA (I r3) = true, (B (decide (r3 ≥ 0))) = (B (decide (r3 ≥ 0))), litA (B (decide (r3 ≥ 0))) = true]) (by kernel_rfl) ⟨(slices_IndexFunc_int_int__impl_GoodState_2_m hr3), rfl, rfl, rfl, trivial⟩
noncomputable def body13 : Code := match Try.f13.body with | some c => c | none => .skip
noncomputable def impl_GoodState_j0  (p1 : GProg) (p2 : GState)  : Option Bool :=
  Option.bind (slices_ContainsFunc_Thread_Thread__impl_GoodState_1 p2.Threads p1) fun r16 =>
  if (!r16) = true then
    Option.bind (slices_ContainsFunc_int_int__impl_GoodState_2 p2.Owner p2) fun r18 =>
    some (!r18)
  else
    some false
theorem impl_GoodState_j0_m {E : Env} (hP : E.P = Try.prog) (hn : E.n = 49) (hx : ∀ p, p ∈ E.fx → p.1 ∈ ([] : List Nat)) (p1 : GProg) (p2 : GState)   (r : Bool) (h : impl_GoodState_j0 p1 p2  = some r) : WAt E body13 (FQ (RetE Θ Try.f13.results.toList [] [] (B r) E)) [true, false, true, true] ⟨[(2, (AV.ptr 1 0 0)), (3, (AV.ptr 2 0 0))], [(1, some ⟨35, 4, [((r35 p1))]⟩), (2, some ⟨39, 4, [((r39 p2))]⟩)], [1, 2, JJ]⟩ := by
  have hm : E.P.follows .mixedOrders = true := by rw [hP]; exact mixed
  have hΘ : TOK E.P Θ := by rw [hP]; exact Θ_ok
  unfold impl_GoodState_j0 at h
  obtain ⟨r16, hr16, h⟩ := bnS h
  rcases itS h with ⟨c17, h⟩ | ⟨c19, h⟩
  · obtain ⟨r18, hr18, h⟩ := bnS h
    have h := Option.some.inj h
    subst h
    exact go_ret hΘ hm hP hn (hs := [⟨3, .callV [[((r35 p1)), (r35 p1)]] (B r16), none⟩, ⟨5, .no, some (B true)⟩, ⟨9, .callV [[((r39 p2)), (r39 p2)]] (B r18), none⟩]) (rh := []) (ph := .raw) (ps := [Meets Try.prog 45 [(AV.ro 6 (p2.Threads.map r70)), (AV.fn 46 [(AV.rop (r35 p1) 0)])] (B r16), litA (B r16) = true, [((r35 p1))][0]? = some ((r35 p1)), treeL ((r35 p1)) = true, frzL ((r35 p1)) = (r35 p1), (B (!r16)) = (B true), Meets Try.prog 48 [(AV.ro 1 (p2.Owner.map o3)), (AV.fn 49 [(AV.rop (r39 p2) 0)])] (B r18), litA (B r18) = true, [((r39 p2))][0]? = some ((r39 p2)), treeL ((r39 p2)) = true, frzL ((r39 p2)) = (r39 p2), (B (!r18)) = (B (!r18)), litA (B (!r18)) = true]) (by kernel_rfl) ⟨(slices_ContainsFunc_Thread_Thread__impl_GoodState_1_m hr16), rfl, rfl, rfl, rfl, (litB c17), (slices_ContainsFunc_int_int__impl_GoodState_2_m hr18), rfl, rfl, rfl, rfl, rfl, rfl, trivial⟩
  · have h := Option.some.inj h
    subst h
    exact go_ret hΘ hm hP hn (hs := [⟨3, .callV [[((r35 p1)), (r35 p1)]] (B r16), none⟩, ⟨5, .no, some (B false)⟩]) (rh := []) (ph := .raw) (ps := [Meets Try.prog 45 [(AV.ro 6 (p2.Threads.map r70)), (AV.fn 46 [(AV.rop (r35 p1) 0)])] (B r16), litA (B r16) = true, [((r35 p1))][0]? = some ((r35 p1)), treeL ((r35 p1)) = true, frzL ((r35 p1)) = (r35 p1), (B (!r16)) = (B false), (B false) = (B false), litA (B false) = true]) (by kernel_rfl) ⟨(slices_ContainsFunc_Thread_Thread__impl_GoodState_1_m hr16), rfl, rfl, rfl, rfl, (litB c19), rfl, rfl, trivial⟩
noncomputable def impl_GoodState (p1 : GProg) (p2 : GState) : Option Bool :=
  Option.bind (impl_GoodProg p1) fun r3 =>
  if (!r3) = true then
    some false
  else
    Option.bind (impl_in (p2.Threads.length : Int) 1 5) fun r6 =>
    if (!r6) = true then
      some false
    else
      if ((p2.Cells.length : Int) != p1.Cells) = true then
        some false
      else
        if ((p2.Owner.length : Int) != p1.Locks) = true then
          some false
        else
          Option.bind (impl_in p2.Fault 0 4) fun r13 =>
          if (!r13) = true then
            some false
          else
            impl_GoodState_j0 p1 p2
theorem impl_GoodState_m {p1 : GProg} {p2 : GState} {r : Bool} (h : impl_GoodState p1 p2 = some r) : Meets Try.prog 13 [(AV.agg ((r35 p1))), (AV.agg ((r39 p2)))] (B r) := by
  refine meets_ofC Θ_ok Try.func13 rfl (c := body13) (by kernel_rfl) (Nat.le_of_ble_eq_true rfl) ?_
  intro E hP hn hx
  replace hn : E.n = 49 := hn
  have hm : E.P.follows .mixedOrders = true := by rw [hP]; exact mixed
  have hΘ : TOK E.P Θ := by rw [hP]; exact Θ_ok
  unfold impl_GoodState at h
  show WAt E body13 (FQ (RetE Θ Try.f13.results.toList [] [] (B r) E)) [] ⟨[(0, (AV.agg ((r35 p1)))), (1, (AV.agg ((r39 p2))))], [], [JJ]⟩
  obtain ⟨r3, hr3, h⟩ := bnS h
  rcases itS h with ⟨c4, h⟩ | ⟨c5, h⟩
  · have h := Option.some.inj h
    subst h
    exact go_ret hΘ hm hP hn (hs := [⟨0, .new 1001, none⟩, ⟨1, .new 1002, none⟩, ⟨4, .callV [[]] (B r3), none⟩, ⟨6, .no, some (B true)⟩]) (rh := []) (ph := .raw) (ps := [Meets Try.prog 43 [(AV.agg ((r35 p1)))] (B r3), litA (B r3) = true, (B (!r3)) = (B true), (B false) = (B false), litA (B false) = true]) (by kernel_rfl) ⟨(impl_GoodProg_m hr3), rfl, (litB c4), rfl, rfl, trivial⟩
  · obtain ⟨r6, hr6, h⟩ := bnS h
    rcases itS h with ⟨c7, h⟩ | ⟨c8, h⟩
    · have h := Option.some.inj h
      subst h
      exact go_ret hΘ hm hP hn (hs := [⟨0, .new 1001, none⟩, ⟨1, .new 1002, none⟩, ⟨4, .callV [[]] (B r3), none⟩, ⟨6, .no, some (B false)⟩, ⟨9, .no, some (I (p2.Threads.length : Int))⟩, ⟨10, .callV [] (B r6), none⟩, ⟨13, .no, some (B true)⟩]) (rh := []) (ph := .raw) (ps := [Meets Try.prog 43 [(AV.agg ((r35 p1)))] (B r3), litA (B r3) = true, (B (!r3)) = (B false), AV.lit (.int .i64 (((p2.Threads.map r70).length : Nat) : Int)) = (I (p2.Threads.length : Int)), Meets Try.prog 44 [(I (p2.Threads.length : Int)), (I 1), (I 5)] (B r6), litA (B r6) = true, (B (!r6)) = (B true), (B false) = (B false), litA (B false) = true]) (by kernel_rfl) ⟨(impl_GoodProg_m hr3), rfl, (litB c5), (lenM r70), (impl_in_m hr6), rfl, (litB c7), rfl, rfl, trivial⟩
    · rcases itS h with ⟨c9, h⟩ | ⟨c10, h⟩
      · have h := Option.some.inj h
        subst h
        exact go_ret hΘ hm hP hn (hs := [⟨0, .new 1001, none⟩, ⟨1, .new 1002, none⟩, ⟨4, .callV [[]] (B r3), none⟩, ⟨6, .no, some (B false)⟩, ⟨9, .no, some (I (p2.Threads.length : Int))⟩, ⟨10, .callV [] (B r6), none⟩, ⟨13, .no, some (B false)⟩, ⟨16, .no, some (I (p2.Cells.length : Int))⟩, ⟨21, .no, some (B true)⟩]) (rh := []) (ph := .raw) (ps := [Meets Try.prog 43 [(AV.agg ((r35 p1)))] (B r3), litA (B r3) = true, (B (!r3)) = (B false), AV.lit (.int .i64 (((p2.Threads.map r70).length : Nat) : Int)) = (I (p2.Threads.length : Int)), Meets Try.prog 44 [(I (p2.Threads.length : Int)), (I 1), (I 5)] (B r6), litA (B r6) = true, (B (!r6)) = (B false), AV.lit (.int .i64 (((p2.Cells.map o83).length : Nat) : Int)) = (I (p2.Cells.length : Int)), (B ((p2.Cells.length : Int) != p1.Cells)) = (B true), (B false) = (B false), litA (B false) = true]) (by kernel_rfl) ⟨(impl_GoodProg_m hr3), rfl, (litB c5), (lenM r70), (impl_in_m hr6), rfl, (litB c8), (lenM o83), (litB c9), rfl, rfl, trivial⟩
      · rcases itS h with ⟨c11, h⟩ | ⟨c12, h⟩
        · have h := Option.some.inj h
          subst h
          exact go_ret hΘ hm hP hn (hs := [⟨0, .new 1001, none⟩, ⟨1, .new 1002, none⟩, ⟨4, .callV [[]] (B r3), none⟩, ⟨6, .no, some (B false)⟩, ⟨9, .no, some (I (p2.Threads.length : Int))⟩, ⟨10, .callV [] (B r6), none⟩, ⟨13, .no, some (B false)⟩, ⟨16, .no, some (I (p2.Cells.length : Int))⟩, ⟨21, .no, some (B false)⟩, ⟨24, .no, some (I (p2.Owner.length : Int))⟩, ⟨29, .no, some (B true)⟩]) (rh := []) (ph := .raw) (ps := [Meets Try.prog 43 [(AV.agg ((r35 p1)))] (B r3), litA (B r3) = true, (B (!r3)) = (B false), AV.lit (.int .i64 (((p2.Threads.map r70).length : Nat) : Int)) = (I (p2.Threads.length : Int)), Meets Try.prog 44 [(I (p2.Threads.length : Int)), (I 1), (I 5)] (B r6), litA (B r6) = true, (B (!r6)) = (B false), AV.lit (.int .i64 (((p2.Cells.map o83).length : Nat) : Int)) = (I (p2.Cells.length : Int)), (B ((p2.Cells.length : Int) != p1.Cells)) = (B false), AV.lit (.int .i64 (((p2.Owner.map o3).length : Nat) : Int)) = (I (p2.Owner.length : Int)), (B ((p2.Owner.length : Int) != p1.Locks)) = (B true), (B false) = (B false), litA (B false) = true]) (by kernel_rfl) ⟨(impl_GoodProg_m hr3), rfl, (litB c5), (lenM r70), (impl_in_m hr6), rfl, (litB c8), (lenM o83), (litB c10), (lenM o3), (litB c11), rfl, rfl, trivial⟩
        · obtain ⟨r13, hr13, h⟩ := bnS h
          rcases itS h with ⟨c14, h⟩ | ⟨c15, h⟩
          · have h := Option.some.inj h
            subst h
            exact go_ret hΘ hm hP hn (hs := [⟨0, .new 1001, none⟩, ⟨1, .new 1002, none⟩, ⟨4, .callV [[]] (B r3), none⟩, ⟨6, .no, some (B false)⟩, ⟨9, .no, some (I (p2.Threads.length : Int))⟩, ⟨10, .callV [] (B r6), none⟩, ⟨13, .no, some (B false)⟩, ⟨16, .no, some (I (p2.Cells.length : Int))⟩, ⟨21, .no, some (B false)⟩, ⟨24, .no, some (I (p2.Owner.length : Int))⟩, ⟨29, .no, some (B false)⟩, ⟨32, .callV [] (B r13), none⟩, ⟨35, .br true, none⟩]) (rh := []) (ph := .raw) (ps := [Meets Try.prog 43 [(AV.agg ((r35 p1)))] (B r3), litA (B r3) = true, (B (!r3)) = (B false), AV.lit (.int .i64 (((p2.Threads.map r70).length : Nat) : Int)) = (I (p2.Threads.length : Int)), Meets Try.prog 44 [(I (p2.Threads.length : Int)), (I 1), (I 5)] (B r6), litA (B r6) = true, (B (!r6)) = (B false), AV.lit (.int .i64 (((p2.Cells.map o83).length : Nat) : Int)) = (I (p2.Cells.length : Int)), (B ((p2.Cells.length : Int) != p1.Cells)) = (B false), AV.lit (.int .i64 (((p2.Owner.map o3).length : Nat) : Int)) = (I (p2.Owner.length : Int)), (B ((p2.Owner.length : Int) != p1.Locks)) = (B false), Meets Try.prog 44 [(I p2.Fault), (I 0), (I 4)] (B r13), litA (B r13) = true, (!r13) = true, (B false) = (B false), litA (B false) = true]) (by kernel_rfl) ⟨(impl_GoodProg_m hr3), rfl, (litB c5), (lenM r70), (impl_in_m hr6), rfl, (litB c8), (lenM o83), (litB c10), (lenM o3), (litB c12), (impl_in_m hr13), rfl, c14, rfl, rfl, trivial⟩
          · exact go_to hΘ hm hx hP hn (hs := [⟨0, .new 1001, none⟩, ⟨1, .new 1002, none⟩, ⟨4, .callV [[]] (B r3), none⟩, ⟨6, .no, some (B false)⟩, ⟨9, .no, some (I (p2.Threads.length : Int))⟩, ⟨10, .callV [] (B r6), none⟩, ⟨13, .no, some (B false)⟩, ⟨16, .no, some (I (p2.Cells.length : Int))⟩, ⟨21, .no, some (B false)⟩, ⟨24, .no, some (I (p2.Owner.length : Int))⟩, ⟨29, .no, some (B false)⟩, ⟨32, .callV [] (B r13), none⟩, ⟨35, .br false, none⟩]) (π := [(1001, 1), (1002, 2)]) (ts := [2, 3]) (kp := []) (ps := [Meets Try.prog 43 [(AV.agg ((r35 p1)))] (B r3), litA (B r3) = true, (B (!r3)) = (B false), AV.lit (.int .i64 (((p2.Threads.map r70).length : Nat) : Int)) = (I (p2.Threads.length : Int)), Meets Try.prog 44 [(I (p2.Threads.length : Int)), (I 1), (I 5)] (B r6), litA (B r6) = true, (B (!r6)) = (B false), AV.lit (.int .i64 (((p2.Cells.map o83).length : Nat) : Int)) = (I (p2.Cells.length : Int)), (B ((p2.Cells.length : Int) != p1.Cells)) = (B false), AV.lit (.int .i64 (((p2.Owner.map o3).length : Nat) : Int)) = (I (p2.Owner.length : Int)), (B ((p2.Owner.length : Int) != p1.Locks)) = (B false), Meets Try.prog 44 [(I p2.Fault), (I 0), (I 4)] (B r13), litA (B r13) = true, (!r13) = false, RenOK [(1001, 1), (1002, 2)] [((r35 p1))], RenOK [(1001, 1), (1002, 2)] [((r39 p2))]]) (by kernel_rfl) ⟨(impl_GoodProg_m hr3), rfl, (litB c5), (lenM r70), (impl_in_m hr6), rfl, (litB c8), (lenM o83), (litB c10), (lenM o3), (litB c12), (impl_in_m hr13), rfl, c15, (rok (treeB t35 p1)), (rok (treeB t39 p2)), trivial⟩ (impl_GoodState_j0_m hP hn hx p1 p2  _ h)
noncomputable def body81 : Code := match Try.f81.body with | some c => c | none => .skip
noncomputable def laws_sameFloat_j0  (p1 : Nat) (p2 : Nat)  : Option Bool :=
  if ((fcmp p1 0) == some .eq) = true then
    if ((fcmp p2 0) == some .eq) = true then
      Option.bind (fdv 4607182418800017408 p1) fun x13 =>
      Option.bind (fdv 4607182418800017408 p2) fun x14 =>
      some (((fcmp x13 0) == some .gt) == ((fcmp x14 0) == some .gt))
    else
      some ((fcmp p1 p2) == some .eq)
  else
    some ((fcmp p1 p2) == some .eq)
theorem laws_sameFloat_j0_m {E : Env} (hP : E.P = Try.prog) (hn : E.n = 37) (hx : ∀ p, p ∈ E.fx → p.1 ∈ ([] : List Nat)) (p1 : Nat) (p2 : Nat)   (r : Bool) (h : laws_sameFloat_j0 p1 p2  = some r) : WAt E body81 (FQ (RetE Θ Try.f81.results.toList [] [] (B r) E)) [true, false, true, true] ⟨[(0, (FK p1)), (1, (FK p2))], [], [JJ]⟩ := by
  have hm : E.P.follows .mixedOrders = true := by rw [hP]; exact mixed
  have hΘ : TOK E.P Θ := by rw [hP]; exact Θ_ok
  unfold laws_sameFloat_j0 at h
  rcases itS h with ⟨c11, h⟩ | ⟨c16, h⟩
  · rcases itS h with ⟨c12, h⟩ | ⟨c15, h⟩
    · obtain ⟨x13, hx13, h⟩ := bnS h
      obtain ⟨x14, hx14, h⟩ := bnS h
      have h := Option.some.inj h
      subst h
      exact go_ret hΘ hm hP hn (hs := [⟨1, .bin (B ((fcmp p1 0) == some .eq)), none⟩, ⟨2, .no, some (B true)⟩, ⟨4, .bin (B ((fcmp p2 0) == some .eq)), none⟩, ⟨6, .br true, none⟩, ⟨8, .bin (FK x13), none⟩, ⟨9, .bin (B ((fcmp x13 0) == some .gt)), none⟩, ⟨11, .bin (FK x14), none⟩, ⟨12, .bin (B ((fcmp x14 0) == some .gt)), none⟩]) (rh := []) (ph := .raw) (ps := [BinS Try.prog .eql 83 (FK p1) (FK 0) (B ((fcmp p1 0) == some .eq)), (B ((fcmp p1 0) == some .eq)) = (B true), BinS Try.prog .eql 83 (FK p2) (FK 0) (B ((fcmp p2 0) == some .eq)), ((fcmp p2 0) == some .eq) = true, BinS Try.prog .quo 83 (FK 4607182418800017408) (FK p1) (FK x13), BinS Try.prog .gtr 83 (FK x13) (FK 0) (B ((fcmp x13 0) == some .gt)), BinS Try.prog .quo 83 (FK 4607182418800017408) (FK p2) (FK x14), BinS Try.prog .gtr 83 (FK x14) (FK 0) (B ((fcmp x14 0) == some .gt)), (B (((fcmp x13 0) == some .gt) == ((fcmp x14 0) == some .gt))) = (B (((fcmp x13 0) == some .gt) == ((fcmp x14 0) == some .gt))), litA (B (((fcmp x13 0) == some .gt) == ((fcmp x14 0) == some .gt))) = true]) (by kernel_rfl) ⟨fEql, (litB c11), fEql, c12, (fQuo hx13), fGtr, (fQuo hx14), fGtr, rfl, rfl, trivial⟩
    · have h := Option.some.inj h
      subst h
      exact go_ret hΘ hm hP hn (hs := [⟨1, .bin (B ((fcmp p1 0) == some .eq)), none⟩, ⟨2, .no, some (B true)⟩, ⟨4, .bin (B ((fcmp p2 0) == some .eq)), none⟩, ⟨6, .br false, none⟩, ⟨9, .bin (B ((fcmp p1 p2) == some .eq)), none⟩]) (rh := []) (ph := .raw) (ps := [BinS Try.prog .eql 83 (FK p1) (FK 0) (B ((fcmp p1 0) == some .eq)), (B ((fcmp p1 0) == some .eq)) = (B true), BinS Try.prog .eql 83 (FK p2) (FK 0) (B ((fcmp p2 0) == some .eq)), ((fcmp p2 0) == some .eq) = false, BinS Try.prog .eql 83 (FK p1) (FK p2) (B ((fcmp p1 p2) == some .eq)), (B ((fcmp p1 p2) == some .eq)) = (B ((fcmp p1 p2) == some .eq)), litA (B ((fcmp p1 p2) == some .eq)) = true]) (by kernel_rfl) ⟨fEql, (litB c11), fEql, c15, fEql, rfl, rfl, trivial⟩
  · have h := Option.some.inj h
    subst h
    exact go_ret hΘ hm hP hn (hs := [⟨1, .bin (B ((fcmp p1 0) == some .eq)), none⟩, ⟨2, .no, some (B false)⟩, ⟨9, .bin (B ((fcmp p1 p2) == some .eq)), none⟩]) (rh := []) (ph := .raw) (ps := [BinS Try.prog .eql 83 (FK p1) (FK 0) (B ((fcmp p1 0) == some .eq)), (B ((fcmp p1 0) == some .eq)) = (B false), BinS Try.prog .eql 83 (FK p1) (FK p2) (B ((fcmp p1 p2) == some .eq)), (B ((fcmp p1 p2) == some .eq)) = (B ((fcmp p1 p2) == some .eq)), litA (B ((fcmp p1 p2) == some .eq)) = true]) (by kernel_rfl) ⟨fEql, (litB c16), fEql, rfl, rfl, trivial⟩
noncomputable def laws_sameFloat (p1 : Nat) (p2 : Nat) : Option Bool :=
  if ((fcmp p1 p1) != some .eq) = true then
    if ((fcmp p1 p1) != some .eq) = true then
      some ((fcmp p2 p2) != some .eq)
    else
      some false
  else
    if ((fcmp p2 p2) != some .eq) = true then
      if ((fcmp p1 p1) != some .eq) = true then
        some ((fcmp p2 p2) != some .eq)
      else
        some false
    else
      laws_sameFloat_j0 p1 p2
theorem laws_sameFloat_m {p1 : Nat} {p2 : Nat} {r : Bool} (h : laws_sameFloat p1 p2 = some r) : Meets Try.prog 81 [(FK p1), (FK p2)] (B r) := by
  refine meets_ofC Θ_ok Try.func81 rfl (c := body81) (by kernel_rfl) (Nat.le_of_ble_eq_true rfl) ?_
  intro E hP hn hx
  replace hn : E.n = 37 := hn
  have hm : E.P.follows .mixedOrders = true := by rw [hP]; exact mixed
  have hΘ : TOK E.P Θ := by rw [hP]; exact Θ_ok
  unfold laws_sameFloat at h
  show WAt E body81 (FQ (RetE Θ Try.f81.results.toList [] [] (B r) E)) [] ⟨[(0, (FK p1)), (1, (FK p2))], [], [JJ]⟩
  rcases itS h with ⟨c3, h⟩ | ⟨c6, h⟩
  · rcases itS h with ⟨c4, h⟩ | ⟨c5, h⟩
    · have h := Option.some.inj h
      subst h
      exact go_ret hΘ hm hP hn (hs := [⟨3, .bin (B ((fcmp p1 p1) != some .eq)), none⟩, ⟨4, .no, some (B true)⟩, ⟨12, .bin (B ((fcmp p1 p1) != some .eq)), none⟩, ⟨13, .no, some (B true)⟩, ⟨16, .bin (B ((fcmp p2 p2) != some .eq)), none⟩]) (rh := []) (ph := .raw) (ps := [BinS Try.prog .neq 83 (FK p1) (FK p1) (B ((fcmp p1 p1) != some .eq)), (B ((fcmp p1 p1) != some .eq)) = (B true), BinS Try.prog .neq 83 (FK p1) (FK p1) (B ((fcmp p1 p1) != some .eq)), (B ((fcmp p1 p1) != some .eq)) = (B true), BinS Try.prog .neq 83 (FK p2) (FK p2) (B ((fcmp p2 p2) != some .eq)), (B ((fcmp p2 p2) != some .eq)) = (B ((fcmp p2 p2) != some .eq)), litA (B ((fcmp p2 p2) != some .eq)) = true]) (by kernel_rfl) ⟨fNeq, (litB c3), fNeq, (litB c4), fNeq, rfl, rfl, trivial⟩
    · have h := Option.some.inj h
      subst h
      exact go_ret hΘ hm hP hn (hs := [⟨3, .bin (B ((fcmp p1 p1) != some .eq)), none⟩, ⟨4, .no, some (B true)⟩, ⟨12, .bin (B ((fcmp p1 p1) != some .eq)), none⟩, ⟨13, .no, some (B false)⟩]) (rh := []) (ph := .raw) (ps := [BinS Try.prog .neq 83 (FK p1) (FK p1) (B ((fcmp p1 p1) != some .eq)), (B ((fcmp p1 p1) != some .eq)) = (B true), BinS Try.prog .neq 83 (FK p1) (FK p1) (B ((fcmp p1 p1) != some .eq)), (B ((fcmp p1 p1) != some .eq)) = (B false), (B false) = (B false), litA (B false) = true]) (by kernel_rfl) ⟨fNeq, (litB c3), fNeq, (litB c5), rfl, rfl, trivial⟩
  · rcases itS h with ⟨c7, h⟩ | ⟨c10, h⟩
    · rcases itS h with ⟨c8, h⟩ | ⟨c9, h⟩
      · have h := Option.some.inj h
        subst h
        exact go_ret hΘ hm hP hn (hs := [⟨3, .bin (B ((fcmp p1 p1) != some .eq)), none⟩, ⟨4, .no, some (B false)⟩, ⟨7, .bin (B ((fcmp p2 p2) != some .eq)), none⟩, ⟨9, .br true, none⟩, ⟨12, .bin (B ((fcmp p1 p1) != some .eq)), none⟩, ⟨13, .no, some (B true)⟩, ⟨16, .bin (B ((fcmp p2 p2) != some .eq)), none⟩]) (rh := []) (ph := .raw) (ps := [BinS Try.prog .neq 83 (FK p1) (FK p1) (B ((fcmp p1 p1) != some .eq)), (B ((fcmp p1 p1) != some .eq)) = (B false), BinS Try.prog .neq 83 (FK p2) (FK p2) (B ((fcmp p2 p2) != some .eq)), ((fcmp p2 p2) != some .eq) = true, BinS Try.prog .neq 83 (FK p1) (FK p1) (B ((fcmp p1 p1) != some .eq)), (B ((fcmp p1 p1) != some .eq)) = (B true), BinS Try.prog .neq 83 (FK p2) (FK p2) (B ((fcmp p2 p2) != some .eq)), (B ((fcmp p2 p2) != some .eq)) = (B ((fcmp p2 p2) != some .eq)), litA (B ((fcmp p2 p2) != some .eq)) = true]) (by kernel_rfl) ⟨fNeq, (litB c6), fNeq, c7, fNeq, (litB c8), fNeq, rfl, rfl, trivial⟩
      · have h := Option.some.inj h
        subst h
        exact go_ret hΘ hm hP hn (hs := [⟨3, .bin (B ((fcmp p1 p1) != some .eq)), none⟩, ⟨4, .no, some (B false)⟩, ⟨7, .bin (B ((fcmp p2 p2) != some .eq)), none⟩, ⟨9, .br true, none⟩, ⟨12, .bin (B ((fcmp p1 p1) != some .eq)), none⟩, ⟨13, .no, some (B false)⟩]) (rh := []) (ph := .raw) (ps := [BinS Try.prog .neq 83 (FK p1) (FK p1) (B ((fcmp p1 p1) != some .eq)), (B ((fcmp p1 p1) != some .eq)) = (B false), BinS Try.prog .neq 83 (FK p2) (FK p2) (B ((fcmp p2 p2) != some .eq)), ((fcmp p2 p2) != some .eq) = true, BinS Try.prog .neq 83 (FK p1) (FK p1) (B ((fcmp p1 p1) != some .eq)), (B ((fcmp p1 p1) != some .eq)) = (B false), (B false) = (B false), litA (B false) = true]) (by kernel_rfl) ⟨fNeq, (litB c6), fNeq, c7, fNeq, (litB c9), rfl, rfl, trivial⟩
    · exact go_to hΘ hm hx hP hn (hs := [⟨3, .bin (B ((fcmp p1 p1) != some .eq)), none⟩, ⟨4, .no, some (B false)⟩, ⟨7, .bin (B ((fcmp p2 p2) != some .eq)), none⟩, ⟨9, .br false, none⟩]) (π := []) (ts := [0, 1]) (kp := []) (ps := [BinS Try.prog .neq 83 (FK p1) (FK p1) (B ((fcmp p1 p1) != some .eq)), (B ((fcmp p1 p1) != some .eq)) = (B false), BinS Try.prog .neq 83 (FK p2) (FK p2) (B ((fcmp p2 p2) != some .eq)), ((fcmp p2 p2) != some .eq) = false]) (by kernel_rfl) ⟨fNeq, (litB c6), fNeq, c10, trivial⟩ (laws_sameFloat_j0_m hP hn hx p1 p2  _ h)
noncomputable def body94 : Code := match Try.f94.body with | some c => c | none => .skip
noncomputable def laws_eqOp (p1 : GOp) (p2 : GOp) : Option Bool :=
  if (p1.Code != p2.Code) = true then
    some false
  else
    if (p1.A != p2.A) = true then
      some false
    else
      if (p1.B != p2.B) = true then
        some false
      else
        Option.bind (laws_sameFloat p1.V p2.V) fun r9 =>
        if (!r9) = true then
          some false
        else
          some true
theorem laws_eqOp_m {p1 : GOp} {p2 : GOp} {r : Bool} (h : laws_eqOp p1 p2 = some r) : Meets Try.prog 94 [(AV.agg ((o85 p1))), (AV.agg ((o85 p2)))] (B r) := by
  refine meets_ofC Θ_ok Try.func94 rfl (c := body94) (by kernel_rfl) (Nat.le_of_ble_eq_true rfl) ?_
  intro E hP hn hx
  replace hn : E.n = 26 := hn
  have hm : E.P.follows .mixedOrders = true := by rw [hP]; exact mixed
  have hΘ : TOK E.P Θ := by rw [hP]; exact Θ_ok
  unfold laws_eqOp at h
  show WAt E body94 (FQ (RetE Θ Try.f94.results.toList [] [] (B r) E)) [] ⟨[(0, (AV.agg ((o85 p1)))), (1, (AV.agg ((o85 p2))))], [], [JJ]⟩
  rcases itS h with ⟨c3, h⟩ | ⟨c4, h⟩
  · have h := Option.some.inj h
    subst h
    exact go_ret hΘ hm hP hn (hs := [⟨0, .new 1001, none⟩, ⟨1, .new 1002, none⟩, ⟨8, .br true, none⟩]) (rh := []) (ph := .raw) (ps := [(p1.Code != p2.Code) = true, (B false) = (B false), litA (B false) = true]) (by kernel_rfl) ⟨c3, rfl, rfl, trivial⟩
  · rcases itS h with ⟨c5, h⟩ | ⟨c6, h⟩
    · have h := Option.some.inj h
      subst h
      exact go_ret hΘ hm hP hn (hs := [⟨0, .new 1001, none⟩, ⟨1, .new 1002, none⟩, ⟨8, .br false, none⟩, ⟨14, .br true, none⟩]) (rh := []) (ph := .raw) (ps := [(p1.Code != p2.Code) = false, (p1.A != p2.A) = true, (B false) = (B false), litA (B false) = true]) (by kernel_rfl) ⟨c4, c5, rfl, rfl, trivial⟩
    · rcases itS h with ⟨c7, h⟩ | ⟨c8, h⟩
      · have h := Option.some.inj h
        subst h
        exact go_ret hΘ hm hP hn (hs := [⟨0, .new 1001, none⟩, ⟨1, .new 1002, none⟩, ⟨8, .br false, none⟩, ⟨14, .br false, none⟩, ⟨20, .br true, none⟩]) (rh := []) (ph := .raw) (ps := [(p1.Code != p2.Code) = false, (p1.A != p2.A) = false, (p1.B != p2.B) = true, (B false) = (B false), litA (B false) = true]) (by kernel_rfl) ⟨c4, c6, c7, rfl, rfl, trivial⟩
      · obtain ⟨r9, hr9, h⟩ := bnS h
        rcases itS h with ⟨c10, h⟩ | ⟨c11, h⟩
        · have h := Option.some.inj h
          subst h
          exact go_ret hΘ hm hP hn (hs := [⟨0, .new 1001, none⟩, ⟨1, .new 1002, none⟩, ⟨8, .br false, none⟩, ⟨14, .br false, none⟩, ⟨20, .br false, none⟩, ⟨25, .callV [] (B r9), none⟩, ⟨27, .br true, none⟩]) (rh := []) (ph := .raw) (ps := [(p1.Code != p2.Code) = false, (p1.A != p2.A) = false, (p1.B != p2.B) = false, Meets Try.prog 81 [(FK p1.V), (FK p2.V)] (B r9), litA (B r9) = true, (!r9) = true, (B false) = (B false), litA (B false) = true]) (by kernel_rfl) ⟨c4, c6, c8, (laws_sameFloat_m hr9), rfl, c10, rfl, rfl, trivial⟩
        · have h := Option.some.inj h
          subst h
          exact go_ret hΘ hm hP hn (hs := [⟨0, .new 1001, none⟩, ⟨1, .new 1002, none⟩, ⟨8, .br false, none⟩, ⟨14, .br false, none⟩, ⟨20, .br false, none⟩, ⟨25, .callV [] (B r9), none⟩, ⟨27, .br false, none⟩]) (rh := []) (ph := .raw) (ps := [(p1.Code != p2.Code) = false, (p1.A != p2.A) = false, (p1.B != p2.B) = false, Meets Try.prog 81 [(FK p1.V), (FK p2.V)] (B r9), litA (B r9) = true, (!r9) = false, (B true) = (B true), litA (B true) = true]) (by kernel_rfl) ⟨c4, c6, c8, (laws_sameFloat_m hr9), rfl, c11, rfl, rfl, trivial⟩
noncomputable def body79 : Code := match Try.f79.body with | some c => c | none => .skip
noncomputable def laws_eqOpS_l0  (p1 : (List GOp)) (p2 : (List GOp)) : Nat → Int → Option Bool
  | 0, _ => none
  | n + 1, v5 =>
  if (decide (v5 < (p1.length : Int))) = true then
    Option.bind (rd p1 v5) fun x7 =>
    Option.bind (rd p2 v5) fun x8 =>
    Option.bind (laws_eqOp x7 x8) fun r9 =>
    if (!r9) = true then
      some false
    else
      laws_eqOpS_l0 p1 p2 n (w64 (v5 + 1))
  else
    some true
theorem laws_eqOpS_l0_m {E : Env} (hP : E.P = Try.prog) (hn : E.n = 27) (hx : ∀ p, p ∈ E.fx → p.1 ∈ ([] : List Nat)) (p1 : (List GOp)) (p2 : (List GOp))  : ∀ (n : Nat) (v5 : Int) (r : Bool), laws_eqOpS_l0 p1 p2 n v5 = some r → WAt E body79 (FQ (RetE Θ Try.f79.results.toList [] [] (B r) E)) [true, true, false, true, false] ⟨[(0, (AV.ro 4 (p1.map o85))), (1, (AV.ro 4 (p2.map o85))), (5, (I v5))], [], [JJ]⟩ := by
  have hm : E.P.follows .mixedOrders = true := by rw [hP]; exact mixed
  have hΘ : TOK E.P Θ := by rw [hP]; exact Θ_ok
  intro n
  induction n with
  | zero => intro v5 r h; simp only [laws_eqOpS_l0] at h; cases h
  | succ n ih =>
    intro v5 r h
    simp only [laws_eqOpS_l0] at h
    rcases itS h with ⟨c6, h⟩ | ⟨c12, h⟩
    · obtain ⟨x7, hx7, h⟩ := bnS h
      obtain ⟨x8, hx8, h⟩ := bnS h
      obtain ⟨r9, hr9, h⟩ := bnS h
      rcases itS h with ⟨c10, h⟩ | ⟨c11, h⟩
      · have h := Option.some.inj h
        subst h
        exact go_ret hΘ hm hP hn (hs := [⟨2, .no, some (I (p1.length : Int))⟩, ⟨4, .br true, none⟩, ⟨7, .row (o85 x7), none⟩, ⟨11, .row (o85 x8), none⟩, ⟨13, .callV [[], []] (B r9), none⟩, ⟨15, .br true, none⟩]) (rh := []) (ph := .raw) (ps := [AV.lit (.int .i64 (((p1.map o85).length : Nat) : Int)) = (I (p1.length : Int)), (decide (v5 < (p1.length : Int))) = true, (0 : Int) ≤ v5, (p1.map o85)[(Int.toNat v5)]? = some (o85 x7), (0 : Int) ≤ v5, (p2.map o85)[(Int.toNat v5)]? = some (o85 x8), Meets Try.prog 94 [(AV.agg ((o85 x7))), (AV.agg ((o85 x8)))] (B r9), litA (B r9) = true, (!r9) = true, (B false) = (B false), litA (B false) = true]) (by kernel_rfl) ⟨(lenM o85), c6, (rd0 hx7), (rdM o85 hx7), (rd0 hx8), (rdM o85 hx8), (laws_eqOp_m hr9), rfl, c10, rfl, rfl, trivial⟩
      · exact go_to hΘ hm hx hP hn (hs := [⟨2, .no, some (I (p1.length : Int))⟩, ⟨4, .br true, none⟩, ⟨7, .row (o85 x7), none⟩, ⟨11, .row (o85 x8), none⟩, ⟨13, .callV [[], []] (B r9), none⟩, ⟨15, .br false, none⟩]) (π := []) (ts := [0, 1, 5]) (kp := []) (ps := [AV.lit (.int .i64 (((p1.map o85).length : Nat) : Int)) = (I (p1.length : Int)), (decide (v5 < (p1.length : Int))) = true, (0 : Int) ≤ v5, (p1.map o85)[(Int.toNat v5)]? = some (o85 x7), (0 : Int) ≤ v5, (p2.map o85)[(Int.toNat v5)]? = some (o85 x8), Meets Try.prog 94 [(AV.agg ((o85 x7))), (AV.agg ((o85 x8)))] (B r9), litA (B r9) = true, (!r9) = false]) (by kernel_rfl) ⟨(lenM o85), c6, (rd0 hx7), (rdM o85 hx7), (rd0 hx8), (rdM o85 hx8), (laws_eqOp_m hr9), rfl, c11, trivial⟩ (ih (w64 (v5 + 1)) _ h)
    · have h := Option.some.inj h
      subst h
      exact go_ret hΘ hm hP hn (hs := [⟨2, .no, some (I (p1.length : Int))⟩, ⟨4, .br false, none⟩]) (rh := []) (ph := .raw) (ps := [AV.lit (.int .i64 (((p1.map o85).length : Nat) : Int)) = (I (p1.length : Int)), (decide (v5 < (p1.length : Int))) = false, (B true) = (B true), litA (B true) = true]) (by kernel_rfl) ⟨(lenM o85), c12, rfl, rfl, trivial⟩
noncomputable def laws_eqOpS (p1 : (List GOp)) (p2 : (List GOp)) : Option Bool :=
  if ((p1.length : Int) != (p2.length : Int)) = true then
    some false
  else
    laws_eqOpS_l0 p1 p2 FU 0
theorem laws_eqOpS_m {p1 : (List GOp)} {p2 : (List GOp)} {r : Bool} (h : laws_eqOpS p1 p2 = some r) : Meets Try.prog 79 [(AV.ro 4 (p1.map o85)), (AV.ro 4 (p2.map o85))] (B r) := by
  refine meets_ofC Θ_ok Try.func79 rfl (c := body79) (by kernel_rfl) (Nat.le_of_ble_eq_true rfl) ?_
  intro E hP hn hx
  replace hn : E.n = 27 := hn
  have hm : E.P.follows .mixedOrders = true := by rw [hP]; exact mixed
  have hΘ : TOK E.P Θ := by rw [hP]; exact Θ_ok
  unfold laws_eqOpS at h
  show WAt E body79 (FQ (RetE Θ Try.f79.results.toList [] [] (B r) E)) [] ⟨[(0, (AV.ro 4 (p1.map o85))), (1, (AV.ro 4 (p2.map o85)))], [], [JJ]⟩
  rcases itS h with ⟨c3, h⟩ | ⟨c4, h⟩
  · have h := Option.some.inj h
    subst h
    exact go_ret hΘ hm hP hn (hs := [⟨2, .no, some (I (p1.length : Int))⟩, ⟨4, .no, some (I (p2.length : Int))⟩, ⟨6, .br true, none⟩]) (rh := []) (ph := .raw) (ps := [AV.lit (.int .i64 (((p1.map o85).length : Nat) : Int)) = (I (p1.length : Int)), AV.lit (.int .i64 (((p2.map o85).length : Nat) : Int)) = (I (p2.length : Int)), ((p1.length : Int) != (p2.length : Int)) = true, (B false) = (B false), litA (B false) = true]) (by kernel_rfl) ⟨(lenM o85), (lenM o85), c3, rfl, rfl, trivial⟩
  · exact go_to hΘ hm hx hP hn (hs := [⟨2, .no, some (I (p1.length : Int))⟩, ⟨4, .no, some (I (p2.length : Int))⟩, ⟨6, .br false, none⟩]) (π := []) (ts := [0, 1, 5]) (kp := []) (ps := [AV.lit (.int .i64 (((p1.map o85).length : Nat) : Int)) = (I (p1.length : Int)), AV.lit (.int .i64 (((p2.map o85).length : Nat) : Int)) = (I (p2.length : Int)), ((p1.length : Int) != (p2.length : Int)) = false]) (by kernel_rfl) ⟨(lenM o85), (lenM o85), c4, trivial⟩ (laws_eqOpS_l0_m hP hn hx p1 p2 FU 0 _ h)
noncomputable def body50 : Code := match Try.f50.body with | some c => c | none => .skip
noncomputable def laws_eqOpSS_l0  (p1 : (List (List GOp))) (p2 : (List (List GOp))) : Nat → Int → Option Bool
  | 0, _ => none
  | n + 1, v5 =>
  if (decide (v5 < (p1.length : Int))) = true then
    Option.bind (rd p1 v5) fun x7 =>
    Option.bind (rd p2 v5) fun x8 =>
    Option.bind (laws_eqOpS x7 x8) fun r9 =>
    if (!r9) = true then
      some false
    else
      laws_eqOpSS_l0 p1 p2 n (w64 (v5 + 1))
  else
    some true
theorem laws_eqOpSS_l0_m {E : Env} (hP : E.P = Try.prog) (hn : E.n = 27) (hx : ∀ p, p ∈ E.fx → p.1 ∈ ([] : List Nat)) (p1 : (List (List GOp))) (p2 : (List (List GOp)))  : ∀ (n : Nat) (v5 : Int) (r : Bool), laws_eqOpSS_l0 p1 p2 n v5 = some r → WAt E body50 (FQ (RetE Θ Try.f50.results.toList [] [] (B r) E)) [true, true, false, true, false] ⟨[(0, (AV.ro 1 (p1.map r82))), (1, (AV.ro 1 (p2.map r82))), (5, (I v5))], [], [JJ]⟩ := by
  have hm : E.P.follows .mixedOrders = true := by rw [hP]; exact mixed
  have hΘ : TOK E.P Θ := by rw [hP]; exact Θ_ok
  intro n
  induction n with
  | zero => intro v5 r h; simp only [laws_eqOpSS_l0] at h; cases h
  | succ n ih =>
    intro v5 r h
    simp only [laws_eqOpSS_l0] at h
    rcases itS h with ⟨c6, h⟩ | ⟨c12, h⟩
    · obtain ⟨x7, hx7, h⟩ := bnS h
      obtain ⟨x8, hx8, h⟩ := bnS h
      obtain ⟨r9, hr9, h⟩ := bnS h
      rcases itS h with ⟨c10, h⟩ | ⟨c11, h⟩
      · have h := Option.some.inj h
        subst h
        exact go_ret hΘ hm hP hn (hs := [⟨2, .no, some (I (p1.length : Int))⟩, ⟨4, .br true, none⟩, ⟨7, .row (r82 x7), none⟩, ⟨11, .row (r82 x8), none⟩, ⟨13, .callV [] (B r9), none⟩, ⟨15, .br true, none⟩]) (rh := []) (ph := .raw) (ps := [AV.lit (.int .i64 (((p1.map r82).length : Nat) : Int)) = (I (p1.length : Int)), (decide (v5 < (p1.length : Int))) = true, (0 : Int) ≤ v5, (p1.map r82)[(Int.toNat v5)]? = some (r82 x7), (0 : Int) ≤ v5, (p2.map r82)[(Int.toNat v5)]? = some (r82 x8), Meets Try.prog 79 [(AV.ro 4 (x7.map o85)), (AV.ro 4 (x8.map o85))] (B r9), litA (B r9) = true, (!r9) = true, (B false) = (B false), litA (B false) = true]) (by kernel_rfl) ⟨(lenM r82), c6, (rd0 hx7), (rdM r82 hx7), (rd0 hx8), (rdM r82 hx8), (laws_eqOpS_m hr9), rfl, c10, rfl, rfl, trivial⟩
      · exact go_to hΘ hm hx hP hn (hs := [⟨2, .no, some (I (p1.length : Int))⟩, ⟨4, .br true, none⟩, ⟨7, .row (r82 x7), none⟩, ⟨11, .row (r82 x8), none⟩, ⟨13, .callV [] (B r9), none⟩, ⟨15, .br false, none⟩]) (π := []) (ts := [0, 1, 5]) (kp := []) (ps := [AV.lit (.int .i64 (((p1.map r82).length : Nat) : Int)) = (I (p1.length : Int)), (decide (v5 < (p1.length : Int))) = true, (0 : Int) ≤ v5, (p1.map r82)[(Int.toNat v5)]? = some (r82 x7), (0 : Int) ≤ v5, (p2.map r82)[(Int.toNat v5)]? = some (r82 x8), Meets Try.prog 79 [(AV.ro 4 (x7.map o85)), (AV.ro 4 (x8.map o85))] (B r9), litA (B r9) = true, (!r9) = false]) (by kernel_rfl) ⟨(lenM r82), c6, (rd0 hx7), (rdM r82 hx7), (rd0 hx8), (rdM r82 hx8), (laws_eqOpS_m hr9), rfl, c11, trivial⟩ (ih (w64 (v5 + 1)) _ h)
    · have h := Option.some.inj h
      subst h
      exact go_ret hΘ hm hP hn (hs := [⟨2, .no, some (I (p1.length : Int))⟩, ⟨4, .br false, none⟩]) (rh := []) (ph := .raw) (ps := [AV.lit (.int .i64 (((p1.map r82).length : Nat) : Int)) = (I (p1.length : Int)), (decide (v5 < (p1.length : Int))) = false, (B true) = (B true), litA (B true) = true]) (by kernel_rfl) ⟨(lenM r82), c12, rfl, rfl, trivial⟩
noncomputable def laws_eqOpSS (p1 : (List (List GOp))) (p2 : (List (List GOp))) : Option Bool :=
  if ((p1.length : Int) != (p2.length : Int)) = true then
    some false
  else
    laws_eqOpSS_l0 p1 p2 FU 0
theorem laws_eqOpSS_m {p1 : (List (List GOp))} {p2 : (List (List GOp))} {r : Bool} (h : laws_eqOpSS p1 p2 = some r) : Meets Try.prog 50 [(AV.ro 1 (p1.map r82)), (AV.ro 1 (p2.map r82))] (B r) := by
  refine meets_ofC Θ_ok Try.func50 rfl (c := body50) (by kernel_rfl) (Nat.le_of_ble_eq_true rfl) ?_
  intro E hP hn hx
  replace hn : E.n = 27 := hn
  have hm : E.P.follows .mixedOrders = true := by rw [hP]; exact mixed
  have hΘ : TOK E.P Θ := by rw [hP]; exact Θ_ok
  unfold laws_eqOpSS at h
  show WAt E body50 (FQ (RetE Θ Try.f50.results.toList [] [] (B r) E)) [] ⟨[(0, (AV.ro 1 (p1.map r82))), (1, (AV.ro 1 (p2.map r82)))], [], [JJ]⟩
  rcases itS h with ⟨c3, h⟩ | ⟨c4, h⟩
  · have h := Option.some.inj h
    subst h
    exact go_ret hΘ hm hP hn (hs := [⟨2, .no, some (I (p1.length : Int))⟩, ⟨4, .no, some (I (p2.length : Int))⟩, ⟨6, .br true, none⟩]) (rh := []) (ph := .raw) (ps := [AV.lit (.int .i64 (((p1.map r82).length : Nat) : Int)) = (I (p1.length : Int)), AV.lit (.int .i64 (((p2.map r82).length : Nat) : Int)) = (I (p2.length : Int)), ((p1.length : Int) != (p2.length : Int)) = true, (B false) = (B false), litA (B false) = true]) (by kernel_rfl) ⟨(lenM r82), (lenM r82), c3, rfl, rfl, trivial⟩
  · exact go_to hΘ hm hx hP hn (hs := [⟨2, .no, some (I (p1.length : Int))⟩, ⟨4, .no, some (I (p2.length : Int))⟩, ⟨6, .br false, none⟩]) (π := []) (ts := [0, 1, 5]) (kp := []) (ps := [AV.lit (.int .i64 (((p1.map r82).length : Nat) : Int)) = (I (p1.length : Int)), AV.lit (.int .i64 (((p2.map r82).length : Nat) : Int)) = (I (p2.length : Int)), ((p1.length : Int) != (p2.length : Int)) = false]) (by kernel_rfl) ⟨(lenM r82), (lenM r82), c4, trivial⟩ (laws_eqOpSS_l0_m hP hn hx p1 p2 FU 0 _ h)
noncomputable def body14 : Code := match Try.f14.body with | some c => c | none => .skip
noncomputable def laws_eqProg (p1 : GProg) (p2 : GProg) : Option Bool :=
  if (p1.Cells != p2.Cells) = true then
    some false
  else
    if (p1.Locks != p2.Locks) = true then
      some false
    else
      if (p1.Conds != p2.Conds) = true then
        some false
      else
        Option.bind (laws_eqOpSS p1.Routines p2.Routines) fun r9 =>
        if (!r9) = true then
          some false
        else
          some true
theorem laws_eqProg_m {p1 : GProg} {p2 : GProg} {r : Bool} (h : laws_eqProg p1 p2 = some r) : Meets Try.prog 14 [(AV.agg ((r35 p1))), (AV.agg ((r35 p2)))] (B r) := by
  refine meets_ofC Θ_ok Try.func14 rfl (c := body14) (by kernel_rfl) (Nat.le_of_ble_eq_true rfl) ?_
  intro E hP hn hx
  replace hn : E.n = 26 := hn
  have hm : E.P.follows .mixedOrders = true := by rw [hP]; exact mixed
  have hΘ : TOK E.P Θ := by rw [hP]; exact Θ_ok
  unfold laws_eqProg at h
  show WAt E body14 (FQ (RetE Θ Try.f14.results.toList [] [] (B r) E)) [] ⟨[(0, (AV.agg ((r35 p1)))), (1, (AV.agg ((r35 p2))))], [], [JJ]⟩
  rcases itS h with ⟨c3, h⟩ | ⟨c4, h⟩
  · have h := Option.some.inj h
    subst h
    exact go_ret hΘ hm hP hn (hs := [⟨0, .new 1001, none⟩, ⟨1, .new 1002, none⟩, ⟨8, .br true, none⟩]) (rh := []) (ph := .raw) (ps := [(p1.Cells != p2.Cells) = true, (B false) = (B false), litA (B false) = true]) (by kernel_rfl) ⟨c3, rfl, rfl, trivial⟩
  · rcases itS h with ⟨c5, h⟩ | ⟨c6, h⟩
    · have h := Option.some.inj h
      subst h
      exact go_ret hΘ hm hP hn (hs := [⟨0, .new 1001, none⟩, ⟨1, .new 1002, none⟩, ⟨8, .br false, none⟩, ⟨14, .br true, none⟩]) (rh := []) (ph := .raw) (ps := [(p1.Cells != p2.Cells) = false, (p1.Locks != p2.Locks) = true, (B false) = (B false), litA (B false) = true]) (by kernel_rfl) ⟨c4, c5, rfl, rfl, trivial⟩
    · rcases itS h with ⟨c7, h⟩ | ⟨c8, h⟩
      · have h := Option.some.inj h
        subst h
        exact go_ret hΘ hm hP hn (hs := [⟨0, .new 1001, none⟩, ⟨1, .new 1002, none⟩, ⟨8, .br false, none⟩, ⟨14, .br false, none⟩, ⟨20, .br true, none⟩]) (rh := []) (ph := .raw) (ps := [(p1.Cells != p2.Cells) = false, (p1.Locks != p2.Locks) = false, (p1.Conds != p2.Conds) = true, (B false) = (B false), litA (B false) = true]) (by kernel_rfl) ⟨c4, c6, c7, rfl, rfl, trivial⟩
      · obtain ⟨r9, hr9, h⟩ := bnS h
        rcases itS h with ⟨c10, h⟩ | ⟨c11, h⟩
        · have h := Option.some.inj h
          subst h
          exact go_ret hΘ hm hP hn (hs := [⟨0, .new 1001, none⟩, ⟨1, .new 1002, none⟩, ⟨8, .br false, none⟩, ⟨14, .br false, none⟩, ⟨20, .br false, none⟩, ⟨25, .callV [] (B r9), none⟩, ⟨27, .br true, none⟩]) (rh := []) (ph := .raw) (ps := [(p1.Cells != p2.Cells) = false, (p1.Locks != p2.Locks) = false, (p1.Conds != p2.Conds) = false, Meets Try.prog 50 [(AV.ro 1 (p1.Routines.map r82)), (AV.ro 1 (p2.Routines.map r82))] (B r9), litA (B r9) = true, (!r9) = true, (B false) = (B false), litA (B false) = true]) (by kernel_rfl) ⟨c4, c6, c8, (laws_eqOpSS_m hr9), rfl, c10, rfl, rfl, trivial⟩
        · have h := Option.some.inj h
          subst h
          exact go_ret hΘ hm hP hn (hs := [⟨0, .new 1001, none⟩, ⟨1, .new 1002, none⟩, ⟨8, .br false, none⟩, ⟨14, .br false, none⟩, ⟨20, .br false, none⟩, ⟨25, .callV [] (B r9), none⟩, ⟨27, .br false, none⟩]) (rh := []) (ph := .raw) (ps := [(p1.Cells != p2.Cells) = false, (p1.Locks != p2.Locks) = false, (p1.Conds != p2.Conds) = false, Meets Try.prog 50 [(AV.ro 1 (p1.Routines.map r82)), (AV.ro 1 (p2.Routines.map r82))] (B r9), litA (B r9) = true, (!r9) = false, (B true) = (B true), litA (B true) = true]) (by kernel_rfl) ⟨c4, c6, c8, (laws_eqOpSS_m hr9), rfl, c11, rfl, rfl, trivial⟩
noncomputable def body52 : Code := match Try.f52.body with | some c => c | none => .skip
noncomputable def laws_eqFloat64S_l0  (p1 : (List Nat)) (p2 : (List Nat)) : Nat → Int → Option Bool
  | 0, _ => none
  | n + 1, v5 =>
  if (decide (v5 < (p1.length : Int))) = true then
    Option.bind (rd p1 v5) fun x7 =>
    Option.bind (rd p2 v5) fun x8 =>
    Option.bind (laws_sameFloat x7 x8) fun r9 =>
    if (!r9) = true then
      some false
    else
      laws_eqFloat64S_l0 p1 p2 n (w64 (v5 + 1))
  else
    some true
theorem laws_eqFloat64S_l0_m {E : Env} (hP : E.P = Try.prog) (hn : E.n = 27) (hx : ∀ p, p ∈ E.fx → p.1 ∈ ([] : List Nat)) (p1 : (List Nat)) (p2 : (List Nat))  : ∀ (n : Nat) (v5 : Int) (r : Bool), laws_eqFloat64S_l0 p1 p2 n v5 = some r → WAt E body52 (FQ (RetE Θ Try.f52.results.toList [] [] (B r) E)) [true, true, false, true, false] ⟨[(0, (AV.ro 1 (p1.map o83))), (1, (AV.ro 1 (p2.map o83))), (5, (I v5))], [], [JJ]⟩ := by
  have hm : E.P.follows .mixedOrders = true := by rw [hP]; exact mixed
  have hΘ : TOK E.P Θ := by rw [hP]; exact Θ_ok
  intro n
  induction n with
  | zero => intro v5 r h; simp only [laws_eqFloat64S_l0] at h; cases h
  | succ n ih =>
    intro v5 r h
    simp only [laws_eqFloat64S_l0] at h
    rcases itS h with ⟨c6, h⟩ | ⟨c12, h⟩
    · obtain ⟨x7, hx7, h⟩ := bnS h
      obtain ⟨x8, hx8, h⟩ := bnS h
      obtain ⟨r9, hr9, h⟩ := bnS h
      rcases itS h with ⟨c10, h⟩ | ⟨c11, h⟩
      · have h := Option.some.inj h
        subst h
        exact go_ret hΘ hm hP hn (hs := [⟨2, .no, some (I (p1.length : Int))⟩, ⟨4, .br true, none⟩, ⟨7, .row (o83 x7), none⟩, ⟨11, .row (o83 x8), none⟩, ⟨13, .callV [] (B r9), none⟩, ⟨15, .br true, none⟩]) (rh := []) (ph := .raw) (ps := [AV.lit (.int .i64 (((p1.map o83).length : Nat) : Int)) = (I (p1.length : Int)), (decide (v5 < (p1.length : Int))) = true, (0 : Int) ≤ v5, (p1.map o83)[(Int.toNat v5)]? = some (o83 x7), (0 : Int) ≤ v5, (p2.map o83)[(Int.toNat v5)]? = some (o83 x8), Meets Try.prog 81 [(FK x7), (FK x8)] (B r9), litA (B r9) = true, (!r9) = true, (B false) = (B false), litA (B false) = true]) (by kernel_rfl) ⟨(lenM o83), c6, (rd0 hx7), (rdM o83 hx7), (rd0 hx8), (rdM o83 hx8), (laws_sameFloat_m hr9), rfl, c10, rfl, rfl, trivial⟩
      · exact go_to hΘ hm hx hP hn (hs := [⟨2, .no, some (I (p1.length : Int))⟩, ⟨4, .br true, none⟩, ⟨7, .row (o83 x7), none⟩, ⟨11, .row (o83 x8), none⟩, ⟨13, .callV [] (B r9), none⟩, ⟨15, .br false, none⟩]) (π := []) (ts := [0, 1, 5]) (kp := []) (ps := [AV.lit (.int .i64 (((p1.map o83).length : Nat) : Int)) = (I (p1.length : Int)), (decide (v5 < (p1.length : Int))) = true, (0 : Int) ≤ v5, (p1.map o83)[(Int.toNat v5)]? = some (o83 x7), (0 : Int) ≤ v5, (p2.map o83)[(Int.toNat v5)]? = some (o83 x8), Meets Try.prog 81 [(FK x7), (FK x8)] (B r9), litA (B r9) = true, (!r9) = false]) (by kernel_rfl) ⟨(lenM o83), c6, (rd0 hx7), (rdM o83 hx7), (rd0 hx8), (rdM o83 hx8), (laws_sameFloat_m hr9), rfl, c11, trivial⟩ (ih (w64 (v5 + 1)) _ h)
    · have h := Option.some.inj h
      subst h
      exact go_ret hΘ hm hP hn (hs := [⟨2, .no, some (I (p1.length : Int))⟩, ⟨4, .br false, none⟩]) (rh := []) (ph := .raw) (ps := [AV.lit (.int .i64 (((p1.map o83).length : Nat) : Int)) = (I (p1.length : Int)), (decide (v5 < (p1.length : Int))) = false, (B true) = (B true), litA (B true) = true]) (by kernel_rfl) ⟨(lenM o83), c12, rfl, rfl, trivial⟩
noncomputable def laws_eqFloat64S (p1 : (List Nat)) (p2 : (List Nat)) : Option Bool :=
  if ((p1.length : Int) != (p2.length : Int)) = true then
    some false
  else
    laws_eqFloat64S_l0 p1 p2 FU 0
theorem laws_eqFloat64S_m {p1 : (List Nat)} {p2 : (List Nat)} {r : Bool} (h : laws_eqFloat64S p1 p2 = some r) : Meets Try.prog 52 [(AV.ro 1 (p1.map o83)), (AV.ro 1 (p2.map o83))] (B r) := by
  refine meets_ofC Θ_ok Try.func52 rfl (c := body52) (by kernel_rfl) (Nat.le_of_ble_eq_true rfl) ?_
  intro E hP hn hx
  replace hn : E.n = 27 := hn
  have hm : E.P.follows .mixedOrders = true := by rw [hP]; exact mixed
  have hΘ : TOK E.P Θ := by rw [hP]; exact Θ_ok
  unfold laws_eqFloat64S at h
  show WAt E body52 (FQ (RetE Θ Try.f52.results.toList [] [] (B r) E)) [] ⟨[(0, (AV.ro 1 (p1.map o83))), (1, (AV.ro 1 (p2.map o83)))], [], [JJ]⟩
  rcases itS h with ⟨c3, h⟩ | ⟨c4, h⟩
  · have h := Option.some.inj h
    subst h
    exact go_ret hΘ hm hP hn (hs := [⟨2, .no, some (I (p1.length : Int))⟩, ⟨4, .no, some (I (p2.length : Int))⟩, ⟨6, .br true, none⟩]) (rh := []) (ph := .raw) (ps := [AV.lit (.int .i64 (((p1.map o83).length : Nat) : Int)) = (I (p1.length : Int)), AV.lit (.int .i64 (((p2.map o83).length : Nat) : Int)) = (I (p2.length : Int)), ((p1.length : Int) != (p2.length : Int)) = true, (B false) = (B false), litA (B false) = true]) (by kernel_rfl) ⟨(lenM o83), (lenM o83), c3, rfl, rfl, trivial⟩
  · exact go_to hΘ hm hx hP hn (hs := [⟨2, .no, some (I (p1.length : Int))⟩, ⟨4, .no, some (I (p2.length : Int))⟩, ⟨6, .br false, none⟩]) (π := []) (ts := [0, 1, 5]) (kp := []) (ps := [AV.lit (.int .i64 (((p1.map o83).length : Nat) : Int)) = (I (p1.length : Int)), AV.lit (.int .i64 (((p2.map o83).length : Nat) : Int)) = (I (p2.length : Int)), ((p1.length : Int) != (p2.length : Int)) = false]) (by kernel_rfl) ⟨(lenM o83), (lenM o83), c4, trivial⟩ (laws_eqFloat64S_l0_m hP hn hx p1 p2 FU 0 _ h)
noncomputable def body23 : Code := match Try.f23.body with | some c => c | none => .skip
noncomputable def laws_eqIntS_l0  (p1 : (List Int)) (p2 : (List Int)) : Nat → Int → Option Bool
  | 0, _ => none
  | n + 1, v5 =>
  if (decide (v5 < (p1.length : Int))) = true then
    Option.bind (rd p1 v5) fun x7 =>
    Option.bind (rd p2 v5) fun x8 =>
    if (x7 != x8) = true then
      some false
    else
      laws_eqIntS_l0 p1 p2 n (w64 (v5 + 1))
  else
    some true
theorem laws_eqIntS_l0_m {E : Env} (hP : E.P = Try.prog) (hn : E.n = 26) (hx : ∀ p, p ∈ E.fx → p.1 ∈ ([] : List Nat)) (p1 : (List Int)) (p2 : (List Int))  : ∀ (n : Nat) (v5 : Int) (r : Bool), laws_eqIntS_l0 p1 p2 n v5 = some r → WAt E body23 (FQ (RetE Θ Try.f23.results.toList [] [] (B r) E)) [true, true, false, true, false] ⟨[(0, (AV.ro 1 (p1.map o3))), (1, (AV.ro 1 (p2.map o3))), (5, (I v5))], [], [JJ]⟩ := by
  have hm : E.P.follows .mixedOrders = true := by rw [hP]; exact mixed
  have hΘ : TOK E.P Θ := by rw [hP]; exact Θ_ok
  intro n
  induction n with
  | zero => intro v5 r h; simp only [laws_eqIntS_l0] at h; cases h
  | succ n ih =>
    intro v5 r h
    simp only [laws_eqIntS_l0] at h
    rcases itS h with ⟨c6, h⟩ | ⟨c11, h⟩
    · obtain ⟨x7, hx7, h⟩ := bnS h
      obtain ⟨x8, hx8, h⟩ := bnS h
      rcases itS h with ⟨c9, h⟩ | ⟨c10, h⟩
      · have h := Option.some.inj h
        subst h
        exact go_ret hΘ hm hP hn (hs := [⟨2, .no, some (I (p1.length : Int))⟩, ⟨4, .br true, none⟩, ⟨7, .row (o3 x7), none⟩, ⟨11, .row (o3 x8), none⟩, ⟨14, .br true, none⟩]) (rh := []) (ph := .raw) (ps := [AV.lit (.int .i64 (((p1.map o3).length : Nat) : Int)) = (I (p1.length : Int)), (decide (v5 < (p1.length : Int))) = true, (0 : Int) ≤ v5, (p1.map o3)[(Int.toNat v5)]? = some (o3 x7), (0 : Int) ≤ v5, (p2.map o3)[(Int.toNat v5)]? = some (o3 x8), (x7 != x8) = true, (B false) = (B false), litA (B false) = true]) (by kernel_rfl) ⟨(lenM o3), c6, (rd0 hx7), (rdM o3 hx7), (rd0 hx8), (rdM o3 hx8), c9, rfl, rfl, trivial⟩
      · exact go_to hΘ hm hx hP hn (hs := [⟨2, .no, some (I (p1.length : Int))⟩, ⟨4, .br true, none⟩, ⟨7, .row (o3 x7), none⟩, ⟨11, .row (o3 x8), none⟩, ⟨14, .br false, none⟩]) (π := []) (ts := [0, 1, 5]) (kp := []) (ps := [AV.lit (.int .i64 (((p1.map o3).length : Nat) : Int)) = (I (p1.length : Int)), (decide (v5 < (p1.length : Int))) = true, (0 : Int) ≤ v5, (p1.map o3)[(Int.toNat v5)]? = some (o3 x7), (0 : Int) ≤ v5, (p2.map o3)[(Int.toNat v5)]? = some (o3 x8), (x7 != x8) = false]) (by kernel_rfl) ⟨(lenM o3), c6, (rd0 hx7), (rdM o3 hx7), (rd0 hx8), (rdM o3 hx8), c10, trivial⟩ (ih (w64 (v5 + 1)) _ h)
    · have h := Option.some.inj h
      subst h
      exact go_ret hΘ hm hP hn (hs := [⟨2, .no, some (I (p1.length : Int))⟩, ⟨4, .br false, none⟩]) (rh := []) (ph := .raw) (ps := [AV.lit (.int .i64 (((p1.map o3).length : Nat) : Int)) = (I (p1.length : Int)), (decide (v5 < (p1.length : Int))) = false, (B true) = (B true), litA (B true) = true]) (by kernel_rfl) ⟨(lenM o3), c11, rfl, rfl, trivial⟩
noncomputable def laws_eqIntS (p1 : (List Int)) (p2 : (List Int)) : Option Bool :=
  if ((p1.length : Int) != (p2.length : Int)) = true then
    some false
  else
    laws_eqIntS_l0 p1 p2 FU 0
theorem laws_eqIntS_m {p1 : (List Int)} {p2 : (List Int)} {r : Bool} (h : laws_eqIntS p1 p2 = some r) : Meets Try.prog 23 [(AV.ro 1 (p1.map o3)), (AV.ro 1 (p2.map o3))] (B r) := by
  refine meets_ofC Θ_ok Try.func23 rfl (c := body23) (by kernel_rfl) (Nat.le_of_ble_eq_true rfl) ?_
  intro E hP hn hx
  replace hn : E.n = 26 := hn
  have hm : E.P.follows .mixedOrders = true := by rw [hP]; exact mixed
  have hΘ : TOK E.P Θ := by rw [hP]; exact Θ_ok
  unfold laws_eqIntS at h
  show WAt E body23 (FQ (RetE Θ Try.f23.results.toList [] [] (B r) E)) [] ⟨[(0, (AV.ro 1 (p1.map o3))), (1, (AV.ro 1 (p2.map o3)))], [], [JJ]⟩
  rcases itS h with ⟨c3, h⟩ | ⟨c4, h⟩
  · have h := Option.some.inj h
    subst h
    exact go_ret hΘ hm hP hn (hs := [⟨2, .no, some (I (p1.length : Int))⟩, ⟨4, .no, some (I (p2.length : Int))⟩, ⟨6, .br true, none⟩]) (rh := []) (ph := .raw) (ps := [AV.lit (.int .i64 (((p1.map o3).length : Nat) : Int)) = (I (p1.length : Int)), AV.lit (.int .i64 (((p2.map o3).length : Nat) : Int)) = (I (p2.length : Int)), ((p1.length : Int) != (p2.length : Int)) = true, (B false) = (B false), litA (B false) = true]) (by kernel_rfl) ⟨(lenM o3), (lenM o3), c3, rfl, rfl, trivial⟩
  · exact go_to hΘ hm hx hP hn (hs := [⟨2, .no, some (I (p1.length : Int))⟩, ⟨4, .no, some (I (p2.length : Int))⟩, ⟨6, .br false, none⟩]) (π := []) (ts := [0, 1, 5]) (kp := []) (ps := [AV.lit (.int .i64 (((p1.map o3).length : Nat) : Int)) = (I (p1.length : Int)), AV.lit (.int .i64 (((p2.map o3).length : Nat) : Int)) = (I (p2.length : Int)), ((p1.length : Int) != (p2.length : Int)) = false]) (by kernel_rfl) ⟨(lenM o3), (lenM o3), c4, trivial⟩ (laws_eqIntS_l0_m hP hn hx p1 p2 FU 0 _ h)
noncomputable def body80 : Code := match Try.f80.body with | some c => c | none => .skip
noncomputable def laws_eqThread (p1 : GThread) (p2 : GThread) : Option Bool :=
  if (p1.Routine != p2.Routine) = true then
    some false
  else
    if (p1.Pc != p2.Pc) = true then
      some false
    else
      if (p1.State != p2.State) = true then
        some false
      else
        if (p1.Cond != p2.Cond) = true then
          some false
        else
          if (p1.Lock != p2.Lock) = true then
            some false
          else
            Option.bind (laws_eqFloat64S p1.Stack p2.Stack) fun r13 =>
            if (!r13) = true then
              some false
            else
              some true
theorem laws_eqThread_m {p1 : GThread} {p2 : GThread} {r : Bool} (h : laws_eqThread p1 p2 = some r) : Meets Try.prog 80 [(AV.agg ((r70 p1))), (AV.agg ((r70 p2)))] (B r) := by
  refine meets_ofC Θ_ok Try.func80 rfl (c := body80) (by kernel_rfl) (Nat.le_of_ble_eq_true rfl) ?_
  intro E hP hn hx
  replace hn : E.n = 36 := hn
  have hm : E.P.follows .mixedOrders = true := by rw [hP]; exact mixed
  have hΘ : TOK E.P Θ := by rw [hP]; exact Θ_ok
  unfold laws_eqThread at h
  show WAt E body80 (FQ (RetE Θ Try.f80.results.toList [] [] (B r) E)) [] ⟨[(0, (AV.agg ((r70 p1)))), (1, (AV.agg ((r70 p2))))], [], [JJ]⟩
  rcases itS h with ⟨c3, h⟩ | ⟨c4, h⟩
  · have h := Option.some.inj h
    subst h
    exact go_ret hΘ hm hP hn (hs := [⟨0, .new 1001, none⟩, ⟨1, .new 1002, none⟩, ⟨8, .br true, none⟩]) (rh := []) (ph := .raw) (ps := [(p1.Routine != p2.Routine) = true, (B false) = (B false), litA (B false) = true]) (by kernel_rfl) ⟨c3, rfl, rfl, trivial⟩
  · rcases itS h with ⟨c5, h⟩ | ⟨c6, h⟩
    · have h := Option.some.inj h
      subst h
      exact go_ret hΘ hm hP hn (hs := [⟨0, .new 1001, none⟩, ⟨1, .new 1002, none⟩, ⟨8, .br false, none⟩, ⟨14, .br true, none⟩]) (rh := []) (ph := .raw) (ps := [(p1.Routine != p2.Routine) = false, (p1.Pc != p2.Pc) = true, (B false) = (B false), litA (B false) = true]) (by kernel_rfl) ⟨c4, c5, rfl, rfl, trivial⟩
    · rcases itS h with ⟨c7, h⟩ | ⟨c8, h⟩
      · have h := Option.some.inj h
        subst h
        exact go_ret hΘ hm hP hn (hs := [⟨0, .new 1001, none⟩, ⟨1, .new 1002, none⟩, ⟨8, .br false, none⟩, ⟨14, .br false, none⟩, ⟨20, .br true, none⟩]) (rh := []) (ph := .raw) (ps := [(p1.Routine != p2.Routine) = false, (p1.Pc != p2.Pc) = false, (p1.State != p2.State) = true, (B false) = (B false), litA (B false) = true]) (by kernel_rfl) ⟨c4, c6, c7, rfl, rfl, trivial⟩
      · rcases itS h with ⟨c9, h⟩ | ⟨c10, h⟩
        · have h := Option.some.inj h
          subst h
          exact go_ret hΘ hm hP hn (hs := [⟨0, .new 1001, none⟩, ⟨1, .new 1002, none⟩, ⟨8, .br false, none⟩, ⟨14, .br false, none⟩, ⟨20, .br false, none⟩, ⟨26, .br true, none⟩]) (rh := []) (ph := .raw) (ps := [(p1.Routine != p2.Routine) = false, (p1.Pc != p2.Pc) = false, (p1.State != p2.State) = false, (p1.Cond != p2.Cond) = true, (B false) = (B false), litA (B false) = true]) (by kernel_rfl) ⟨c4, c6, c8, c9, rfl, rfl, trivial⟩
        · rcases itS h with ⟨c11, h⟩ | ⟨c12, h⟩
          · have h := Option.some.inj h
            subst h
            exact go_ret hΘ hm hP hn (hs := [⟨0, .new 1001, none⟩, ⟨1, .new 1002, none⟩, ⟨8, .br false, none⟩, ⟨14, .br false, none⟩, ⟨20, .br false, none⟩, ⟨26, .br false, none⟩, ⟨32, .br true, none⟩]) (rh := []) (ph := .raw) (ps := [(p1.Routine != p2.Routine) = false, (p1.Pc != p2.Pc) = false, (p1.State != p2.State) = false, (p1.Cond != p2.Cond) = false, (p1.Lock != p2.Lock) = true, (B false) = (B false), litA (B false) = true]) (by kernel_rfl) ⟨c4, c6, c8, c10, c11, rfl, rfl, trivial⟩
          · obtain ⟨r13, hr13, h⟩ := bnS h
            rcases itS h with ⟨c14, h⟩ | ⟨c15, h⟩
            · have h := Option.some.inj h
              subst h
              exact go_ret hΘ hm hP hn (hs := [⟨0, .new 1001, none⟩, ⟨1, .new 1002, none⟩, ⟨8, .br false, none⟩, ⟨14, .br false, none⟩, ⟨20, .br false, none⟩, ⟨26, .br false, none⟩, ⟨32, .br false, none⟩, ⟨37, .callV [] (B r13), none⟩, ⟨39, .br true, none⟩]) (rh := []) (ph := .raw) (ps := [(p1.Routine != p2.Routine) = false, (p1.Pc != p2.Pc) = false, (p1.State != p2.State) = false, (p1.Cond != p2.Cond) = false, (p1.Lock != p2.Lock) = false, Meets Try.prog 52 [(AV.ro 1 (p1.Stack.map o83)), (AV.ro 1 (p2.Stack.map o83))] (B r13), litA (B r13) = true, (!r13) = true, (B false) = (B false), litA (B false) = true]) (by kernel_rfl) ⟨c4, c6, c8, c10, c12, (laws_eqFloat64S_m hr13), rfl, c14, rfl, rfl, trivial⟩
            · have h := Option.some.inj h
              subst h
              exact go_ret hΘ hm hP hn (hs := [⟨0, .new 1001, none⟩, ⟨1, .new 1002, none⟩, ⟨8, .br false, none⟩, ⟨14, .br false, none⟩, ⟨20, .br false, none⟩, ⟨26, .br false, none⟩, ⟨32, .br false, none⟩, ⟨37, .callV [] (B r13), none⟩, ⟨39, .br false, none⟩]) (rh := []) (ph := .raw) (ps := [(p1.Routine != p2.Routine) = false, (p1.Pc != p2.Pc) = false, (p1.State != p2.State) = false, (p1.Cond != p2.Cond) = false, (p1.Lock != p2.Lock) = false, Meets Try.prog 52 [(AV.ro 1 (p1.Stack.map o83)), (AV.ro 1 (p2.Stack.map o83))] (B r13), litA (B r13) = true, (!r13) = false, (B true) = (B true), litA (B true) = true]) (by kernel_rfl) ⟨c4, c6, c8, c10, c12, (laws_eqFloat64S_m hr13), rfl, c15, rfl, rfl, trivial⟩
noncomputable def body51 : Code := match Try.f51.body with | some c => c | none => .skip
noncomputable def laws_eqThreadS_l0  (p1 : (List GThread)) (p2 : (List GThread)) : Nat → Int → Option Bool
  | 0, _ => none
  | n + 1, v5 =>
  if (decide (v5 < (p1.length : Int))) = true then
    Option.bind (rd p1 v5) fun x7 =>
    Option.bind (rd p2 v5) fun x8 =>
    Option.bind (laws_eqThread x7 x8) fun r9 =>
    if (!r9) = true then
      some false
    else
      laws_eqThreadS_l0 p1 p2 n (w64 (v5 + 1))
  else
    some true
theorem laws_eqThreadS_l0_m {E : Env} (hP : E.P = Try.prog) (hn : E.n = 27) (hx : ∀ p, p ∈ E.fx → p.1 ∈ ([] : List Nat)) (p1 : (List GThread)) (p2 : (List GThread))  : ∀ (n : Nat) (v5 : Int) (r : Bool), laws_eqThreadS_l0 p1 p2 n v5 = some r → WAt E body51 (FQ (RetE Θ Try.f51.results.toList [] [] (B r) E)) [true, true, false, true, false] ⟨[(0, (AV.ro 6 (p1.map r70))), (1, (AV.ro 6 (p2.map r70))), (5, (I v5))], [], [JJ]⟩ := by
  have hm : E.P.follows .mixedOrders = true := by rw [hP]; exact mixed
  have hΘ : TOK E.P Θ := by rw [hP]; exact Θ_ok
  intro n
  induction n with
  | zero => intro v5 r h; simp only [laws_eqThreadS_l0] at h; cases h
  | succ n ih =>
    intro v5 r h
    simp only [laws_eqThreadS_l0] at h
    rcases itS h with ⟨c6, h⟩ | ⟨c12, h⟩
    · obtain ⟨x7, hx7, h⟩ := bnS h
      obtain ⟨x8, hx8, h⟩ := bnS h
      obtain ⟨r9, hr9, h⟩ := bnS h
      rcases itS h with ⟨c10, h⟩ | ⟨c11, h⟩
      · have h := Option.some.inj h
        subst h
        exact go_ret hΘ hm hP hn (hs := [⟨2, .no, some (I (p1.length : Int))⟩, ⟨4, .br true, none⟩, ⟨7, .row (r70 x7), none⟩, ⟨11, .row (r70 x8), none⟩, ⟨13, .callV [[], []] (B r9), none⟩, ⟨15, .br true, none⟩]) (rh := []) (ph := .raw) (ps := [AV.lit (.int .i64 (((p1.map r70).length : Nat) : Int)) = (I (p1.length : Int)), (decide (v5 < (p1.length : Int))) = true, (0 : Int) ≤ v5, (p1.map r70)[(Int.toNat v5)]? = some (r70 x7), (0 : Int) ≤ v5, (p2.map r70)[(Int.toNat v5)]? = some (r70 x8), Meets Try.prog 80 [(AV.agg ((r70 x7))), (AV.agg ((r70 x8)))] (B r9), litA (B r9) = true, (!r9) = true, (B false) = (B false), litA (B false) = true]) (by kernel_rfl) ⟨(lenM r70), c6, (rd0 hx7), (rdM r70 hx7), (rd0 hx8), (rdM r70 hx8), (laws_eqThread_m hr9), rfl, c10, rfl, rfl, trivial⟩
      · exact go_to hΘ hm hx hP hn (hs := [⟨2, .no, some (I (p1.length : Int))⟩, ⟨4, .br true, none⟩, ⟨7, .row (r70 x7), none⟩, ⟨11, .row (r70 x8), none⟩, ⟨13, .callV [[], []] (B r9), none⟩, ⟨15, .br false, none⟩]) (π := []) (ts := [0, 1, 5]) (kp := []) (ps := [AV.lit (.int .i64 (((p1.map r70).length : Nat) : Int)) = (I (p1.length : Int)), (decide (v5 < (p1.length : Int))) = true, (0 : Int) ≤ v5, (p1.map r70)[(Int.toNat v5)]? = some (r70 x7), (0 : Int) ≤ v5, (p2.map r70)[(Int.toNat v5)]? = some (r70 x8), Meets Try.prog 80 [(AV.agg ((r70 x7))), (AV.agg ((r70 x8)))] (B r9), litA (B r9) = true, (!r9) = false]) (by kernel_rfl) ⟨(lenM r70), c6, (rd0 hx7), (rdM r70 hx7), (rd0 hx8), (rdM r70 hx8), (laws_eqThread_m hr9), rfl, c11, trivial⟩ (ih (w64 (v5 + 1)) _ h)
    · have h := Option.some.inj h
      subst h
      exact go_ret hΘ hm hP hn (hs := [⟨2, .no, some (I (p1.length : Int))⟩, ⟨4, .br false, none⟩]) (rh := []) (ph := .raw) (ps := [AV.lit (.int .i64 (((p1.map r70).length : Nat) : Int)) = (I (p1.length : Int)), (decide (v5 < (p1.length : Int))) = false, (B true) = (B true), litA (B true) = true]) (by kernel_rfl) ⟨(lenM r70), c12, rfl, rfl, trivial⟩
noncomputable def laws_eqThreadS (p1 : (List GThread)) (p2 : (List GThread)) : Option Bool :=
  if ((p1.length : Int) != (p2.length : Int)) = true then
    some false
  else
    laws_eqThreadS_l0 p1 p2 FU 0
theorem laws_eqThreadS_m {p1 : (List GThread)} {p2 : (List GThread)} {r : Bool} (h : laws_eqThreadS p1 p2 = some r) : Meets Try.prog 51 [(AV.ro 6 (p1.map r70)), (AV.ro 6 (p2.map r70))] (B r) := by
  refine meets_ofC Θ_ok Try.func51 rfl (c := body51) (by kernel_rfl) (Nat.le_of_ble_eq_true rfl) ?_
  intro E hP hn hx
  replace hn : E.n = 27 := hn
  have hm : E.P.follows .mixedOrders = true := by rw [hP]; exact mixed
  have hΘ : TOK E.P Θ := by rw [hP]; exact Θ_ok
  unfold laws_eqThreadS at h
  show WAt E body51 (FQ (RetE Θ Try.f51.results.toList [] [] (B r) E)) [] ⟨[(0, (AV.ro 6 (p1.map r70))), (1, (AV.ro 6 (p2.map r70)))], [], [JJ]⟩
  rcases itS h with ⟨c3, h⟩ | ⟨c4, h⟩
  · have h := Option.some.inj h
    subst h
    exact go_ret hΘ hm hP hn (hs := [⟨2, .no, some (I (p1.length : Int))⟩, ⟨4, .no, some (I (p2.length : Int))⟩, ⟨6, .br true, none⟩]) (rh := []) (ph := .raw) (ps := [AV.lit (.int .i64 (((p1.map r70).length : Nat) : Int)) = (I (p1.length : Int)), AV.lit (.int .i64 (((p2.map r70).length : Nat) : Int)) = (I (p2.length : Int)), ((p1.length : Int) != (p2.length : Int)) = true, (B false) = (B false), litA (B false) = true]) (by kernel_rfl) ⟨(lenM r70), (lenM r70), c3, rfl, rfl, trivial⟩
  · exact go_to hΘ hm hx hP hn (hs := [⟨2, .no, some (I (p1.length : Int))⟩, ⟨4, .no, some (I (p2.length : Int))⟩, ⟨6, .br false, none⟩]) (π := []) (ts := [0, 1, 5]) (kp := []) (ps := [AV.lit (.int .i64 (((p1.map r70).length : Nat) : Int)) = (I (p1.length : Int)), AV.lit (.int .i64 (((p2.map r70).length : Nat) : Int)) = (I (p2.length : Int)), ((p1.length : Int) != (p2.length : Int)) = false]) (by kernel_rfl) ⟨(lenM r70), (lenM r70), c4, trivial⟩ (laws_eqThreadS_l0_m hP hn hx p1 p2 FU 0 _ h)
noncomputable def body15 : Code := match Try.f15.body with | some c => c | none => .skip
noncomputable def laws_eqState (p1 : GState) (p2 : GState) : Option Bool :=
  Option.bind (laws_eqThreadS p1.Threads p2.Threads) fun r3 =>
  if (!r3) = true then
    some false
  else
    Option.bind (laws_eqFloat64S p1.Cells p2.Cells) fun r6 =>
    if (!r6) = true then
      some false
    else
      Option.bind (laws_eqIntS p1.Owner p2.Owner) fun r9 =>
      if (!r9) = true then
        some false
      else
        if (p1.Fault != p2.Fault) = true then
          some false
        else
          some true
theorem laws_eqState_m {p1 : GState} {p2 : GState} {r : Bool} (h : laws_eqState p1 p2 = some r) : Meets Try.prog 15 [(AV.agg ((r39 p1))), (AV.agg ((r39 p2)))] (B r) := by
  refine meets_ofC Θ_ok Try.func15 rfl (c := body15) (by kernel_rfl) (Nat.le_of_ble_eq_true rfl) ?_
  intro E hP hn hx
  replace hn : E.n = 28 := hn
  have hm : E.P.follows .mixedOrders = true := by rw [hP]; exact mixed
  have hΘ : TOK E.P Θ := by rw [hP]; exact Θ_ok
  unfold laws_eqState at h
  show WAt E body15 (FQ (RetE Θ Try.f15.results.toList [] [] (B r) E)) [] ⟨[(0, (AV.agg ((r39 p1)))), (1, (AV.agg ((r39 p2))))], [], [JJ]⟩
  obtain ⟨r3, hr3, h⟩ := bnS h
  rcases itS h with ⟨c4, h⟩ | ⟨c5, h⟩
  · have h := Option.some.inj h
    subst h
    exact go_ret hΘ hm hP hn (hs := [⟨0, .new 1001, none⟩, ⟨1, .new 1002, none⟩, ⟨7, .callV [] (B r3), none⟩, ⟨9, .br true, none⟩]) (rh := []) (ph := .raw) (ps := [Meets Try.prog 51 [(AV.ro 6 (p1.Threads.map r70)), (AV.ro 6 (p2.Threads.map r70))] (B r3), litA (B r3) = true, (!r3) = true, (B false) = (B false), litA (B false) = true]) (by kernel_rfl) ⟨(laws_eqThreadS_m hr3), rfl, c4, rfl, rfl, trivial⟩
  · obtain ⟨r6, hr6, h⟩ := bnS h
    rcases itS h with ⟨c7, h⟩ | ⟨c8, h⟩
    · have h := Option.some.inj h
      subst h
      exact go_ret hΘ hm hP hn (hs := [⟨0, .new 1001, none⟩, ⟨1, .new 1002, none⟩, ⟨7, .callV [] (B r3), none⟩, ⟨9, .br false, none⟩, ⟨14, .callV [] (B r6), none⟩, ⟨16, .br true, none⟩]) (rh := []) (ph := .raw) (ps := [Meets Try.prog 51 [(AV.ro 6 (p1.Threads.map r70)), (AV.ro 6 (p2.Threads.map r70))] (B r3), litA (B r3) = true, (!r3) = false, Meets Try.prog 52 [(AV.ro 1 (p1.Cells.map o83)), (AV.ro 1 (p2.Cells.map o83))] (B r6), litA (B r6) = true, (!r6) = true, (B false) = (B false), litA (B false) = true]) (by kernel_rfl) ⟨(laws_eqThreadS_m hr3), rfl, c5, (laws_eqFloat64S_m hr6), rfl, c7, rfl, rfl, trivial⟩
    · obtain ⟨r9, hr9, h⟩ := bnS h
      rcases itS h with ⟨c10, h⟩ | ⟨c11, h⟩
      · have h := Option.some.inj h
        subst h
        exact go_ret hΘ hm hP hn (hs := [⟨0, .new 1001, none⟩, ⟨1, .new 1002, none⟩, ⟨7, .callV [] (B r3), none⟩, ⟨9, .br false, none⟩, ⟨14, .callV [] (B r6), none⟩, ⟨16, .br false, none⟩, ⟨21, .callV [] (B r9), none⟩, ⟨23, .br true, none⟩]) (rh := []) (ph := .raw) (ps := [Meets Try.prog 51 [(AV.ro 6 (p1.Threads.map r70)), (AV.ro 6 (p2.Threads.map r70))] (B r3), litA (B r3) = true, (!r3) = false, Meets Try.prog 52 [(AV.ro 1 (p1.Cells.map o83)), (AV.ro 1 (p2.Cells.map o83))] (B r6), litA (B r6) = true, (!r6) = false, Meets Try.prog 23 [(AV.ro 1 (p1.Owner.map o3)), (AV.ro 1 (p2.Owner.map o3))] (B r9), litA (B r9) = true, (!r9) = true, (B false) = (B false), litA (B false) = true]) (by kernel_rfl) ⟨(laws_eqThreadS_m hr3), rfl, c5, (laws_eqFloat64S_m hr6), rfl, c8, (laws_eqIntS_m hr9), rfl, c10, rfl, rfl, trivial⟩
      · rcases itS h with ⟨c12, h⟩ | ⟨c13, h⟩
        · have h := Option.some.inj h
          subst h
          exact go_ret hΘ hm hP hn (hs := [⟨0, .new 1001, none⟩, ⟨1, .new 1002, none⟩, ⟨7, .callV [] (B r3), none⟩, ⟨9, .br false, none⟩, ⟨14, .callV [] (B r6), none⟩, ⟨16, .br false, none⟩, ⟨21, .callV [] (B r9), none⟩, ⟨23, .br false, none⟩, ⟨29, .br true, none⟩]) (rh := []) (ph := .raw) (ps := [Meets Try.prog 51 [(AV.ro 6 (p1.Threads.map r70)), (AV.ro 6 (p2.Threads.map r70))] (B r3), litA (B r3) = true, (!r3) = false, Meets Try.prog 52 [(AV.ro 1 (p1.Cells.map o83)), (AV.ro 1 (p2.Cells.map o83))] (B r6), litA (B r6) = true, (!r6) = false, Meets Try.prog 23 [(AV.ro 1 (p1.Owner.map o3)), (AV.ro 1 (p2.Owner.map o3))] (B r9), litA (B r9) = true, (!r9) = false, (p1.Fault != p2.Fault) = true, (B false) = (B false), litA (B false) = true]) (by kernel_rfl) ⟨(laws_eqThreadS_m hr3), rfl, c5, (laws_eqFloat64S_m hr6), rfl, c8, (laws_eqIntS_m hr9), rfl, c11, c12, rfl, rfl, trivial⟩
        · have h := Option.some.inj h
          subst h
          exact go_ret hΘ hm hP hn (hs := [⟨0, .new 1001, none⟩, ⟨1, .new 1002, none⟩, ⟨7, .callV [] (B r3), none⟩, ⟨9, .br false, none⟩, ⟨14, .callV [] (B r6), none⟩, ⟨16, .br false, none⟩, ⟨21, .callV [] (B r9), none⟩, ⟨23, .br false, none⟩, ⟨29, .br false, none⟩]) (rh := []) (ph := .raw) (ps := [Meets Try.prog 51 [(AV.ro 6 (p1.Threads.map r70)), (AV.ro 6 (p2.Threads.map r70))] (B r3), litA (B r3) = true, (!r3) = false, Meets Try.prog 52 [(AV.ro 1 (p1.Cells.map o83)), (AV.ro 1 (p2.Cells.map o83))] (B r6), litA (B r6) = true, (!r6) = false, Meets Try.prog 23 [(AV.ro 1 (p1.Owner.map o3)), (AV.ro 1 (p2.Owner.map o3))] (B r9), litA (B r9) = true, (!r9) = false, (p1.Fault != p2.Fault) = false, (B true) = (B true), litA (B true) = true]) (by kernel_rfl) ⟨(laws_eqThreadS_m hr3), rfl, c5, (laws_eqFloat64S_m hr6), rfl, c8, (laws_eqIntS_m hr9), rfl, c11, c13, rfl, rfl, trivial⟩
noncomputable def body66 : Code := match Try.f66.body with | some c => c | none => .skip
noncomputable def laws_szOpS (p1 : (List GOp)) (p2 : Int) : Option Int :=
  if (decide ((w64 (p2 - (p1.length : Int))) < 0)) = true then
    some (-1)
  else
    some (w64 (p2 - (p1.length : Int)))
theorem laws_szOpS_m {p1 : (List GOp)} {p2 : Int} {r : Int} (h : laws_szOpS p1 p2 = some r) : Meets Try.prog 66 [(AV.ro 4 (p1.map o116)), (I p2)] (I r) := by
  refine meets_ofC Θ_ok Try.func66 rfl (c := body66) (by kernel_rfl) (Nat.le_of_ble_eq_true rfl) ?_
  intro E hP hn hx
  replace hn : E.n = 12 := hn
  have hm : E.P.follows .mixedOrders = true := by rw [hP]; exact mixed
  have hΘ : TOK E.P Θ := by rw [hP]; exact Θ_ok
  unfold laws_szOpS at h
  show WAt E body66 (FQ (RetE Θ Try.f66.results.toList [] [] (I r) E)) [] ⟨[(0, (AV.ro 4 (p1.map o116))), (1, (I p2))], [], [JJ]⟩
  rcases itS h with ⟨c3, h⟩ | ⟨c4, h⟩
  · have h := Option.some.inj h
    subst h
    exact go_ret hΘ hm hP hn (hs := [⟨3, .no, some (I (p1.length : Int))⟩, ⟨8, .br true, none⟩]) (rh := []) (ph := .raw) (ps := [AV.lit (.int .i64 (((p1.map o116).length : Nat) : Int)) = (I (p1.length : Int)), (decide ((w64 (p2 - (p1.length : Int))) < 0)) = true, (I (-1)) = (I (-1)), litA (I (-1)) = true]) (by kernel_rfl) ⟨(lenM o116), c3, rfl, rfl, trivial⟩
  · have h := Option.some.inj h
    subst h
    exact go_ret hΘ hm hP hn (hs := [⟨3, .no, some (I (p1.length : Int))⟩, ⟨8, .br false, none⟩]) (rh := []) (ph := .raw) (ps := [AV.lit (.int .i64 (((p1.map o116).length : Nat) : Int)) = (I (p1.length : Int)), (decide ((w64 (p2 - (p1.length : Int))) < 0)) = false, (I (w64 (p2 - (p1.length : Int)))) = (I (w64 (p2 - (p1.length : Int)))), litA (I (w64 (p2 - (p1.length : Int)))) = true]) (by kernel_rfl) ⟨(lenM o116), c4, rfl, rfl, trivial⟩
noncomputable def body33 : Code := match Try.f33.body with | some c => c | none => .skip
noncomputable def laws_szOpSS_l0  (p1 : (List (List GOp))) : Nat → Int → Int → Option Int
  | 0, _, _ => none
  | n + 1, v5, v6 =>
  if (decide (v6 < (p1.length : Int))) = true then
    Option.bind (rd p1 v6) fun x8 =>
    Option.bind (laws_szOpS x8 v5) fun r9 =>
    if (decide (r9 < 0)) = true then
      some (-1)
    else
      laws_szOpSS_l0 p1 n r9 (w64 (v6 + 1))
  else
    some v5
theorem laws_szOpSS_l0_m {E : Env} (hP : E.P = Try.prog) (hn : E.n = 27) (hx : ∀ p, p ∈ E.fx → p.1 ∈ ([] : List Nat)) (p1 : (List (List GOp)))  : ∀ (n : Nat) (v5 : Int) (v6 : Int) (r : Int), laws_szOpSS_l0 p1 n v5 v6 = some r → WAt E body33 (FQ (RetE Θ Try.f33.results.toList [] [] (I r) E)) [true, true, true, false, true, false] ⟨[(0, (AV.ro 1 (p1.map r90))), (1, (I v5)), (5, (I v6))], [], [JJ]⟩ := by
  have hm : E.P.follows .mixedOrders = true := by rw [hP]; exact mixed
  have hΘ : TOK E.P Θ := by rw [hP]; exact Θ_ok
  intro n
  induction n with
  | zero => intro v5 v6 r h; simp only [laws_szOpSS_l0] at h; cases h
  | succ n ih =>
    intro v5 v6 r h
    simp only [laws_szOpSS_l0] at h
    rcases itS h with ⟨c7, h⟩ | ⟨c12, h⟩
    · obtain ⟨x8, hx8, h⟩ := bnS h
      obtain ⟨r9, hr9, h⟩ := bnS h
      rcases itS h with ⟨c10, h⟩ | ⟨c11, h⟩
      · have h := Option.some.inj h
        subst h
        exact go_ret hΘ hm hP hn (hs := [⟨2, .no, some (I (p1.length : Int))⟩, ⟨4, .br true, none⟩, ⟨7, .row (r90 x8), none⟩, ⟨10, .callV [] (I r9), none⟩, ⟨14, .br true, none⟩]) (rh := []) (ph := .raw) (ps := [AV.lit (.int .i64 (((p1.map r90).length : Nat) : Int)) = (I (p1.length : Int)), (decide (v6 < (p1.length : Int))) = true, (0 : Int) ≤ v6, (p1.map r90)[(Int.toNat v6)]? = some (r90 x8), Meets Try.prog 66 [(AV.ro 4 (x8.map o116)), (I v5)] (I r9), litA (I r9) = true, (decide (r9 < 0)) = true, (I (-1)) = (I (-1)), litA (I (-1)) = true]) (by kernel_rfl) ⟨(lenM r90), c7, (rd0 hx8), (rdM r90 hx8), (laws_szOpS_m hr9), rfl, c10, rfl, rfl, trivial⟩
      · exact go_to hΘ hm hx hP hn (hs := [⟨2, .no, some (I (p1.length : Int))⟩, ⟨4, .br true, none⟩, ⟨7, .row (r90 x8), none⟩, ⟨10, .callV [] (I r9), none⟩, ⟨14, .br false, none⟩]) (π := []) (ts := [0, 1, 5]) (kp := []) (ps := [AV.lit (.int .i64 (((p1.map r90).length : Nat) : Int)) = (I (p1.length : Int)), (decide (v6 < (p1.length : Int))) = true, (0 : Int) ≤ v6, (p1.map r90)[(Int.toNat v6)]? = some (r90 x8), Meets Try.prog 66 [(AV.ro 4 (x8.map o116)), (I v5)] (I r9), litA (I r9) = true, (decide (r9 < 0)) = false]) (by kernel_rfl) ⟨(lenM r90), c7, (rd0 hx8), (rdM r90 hx8), (laws_szOpS_m hr9), rfl, c11, trivial⟩ (ih r9 (w64 (v6 + 1)) _ h)
    · have h := Option.some.inj h
      subst h
      exact go_ret hΘ hm hP hn (hs := [⟨2, .no, some (I (p1.length : Int))⟩, ⟨4, .br false, none⟩]) (rh := []) (ph := .raw) (ps := [AV.lit (.int .i64 (((p1.map r90).length : Nat) : Int)) = (I (p1.length : Int)), (decide (v6 < (p1.length : Int))) = false, (I v5) = (I v5), litA (I v5) = true]) (by kernel_rfl) ⟨(lenM r90), c12, rfl, rfl, trivial⟩
noncomputable def laws_szOpSS (p1 : (List (List GOp))) (p2 : Int) : Option Int :=
  if (decide ((w64 (p2 - (p1.length : Int))) < 0)) = true then
    some (-1)
  else
    laws_szOpSS_l0 p1 FU (w64 (p2 - (p1.length : Int))) 0
theorem laws_szOpSS_m {p1 : (List (List GOp))} {p2 : Int} {r : Int} (h : laws_szOpSS p1 p2 = some r) : Meets Try.prog 33 [(AV.ro 1 (p1.map r90)), (I p2)] (I r) := by
  refine meets_ofC Θ_ok Try.func33 rfl (c := body33) (by kernel_rfl) (Nat.le_of_ble_eq_true rfl) ?_
  intro E hP hn hx
  replace hn : E.n = 27 := hn
  have hm : E.P.follows .mixedOrders = true := by rw [hP]; exact mixed
  have hΘ : TOK E.P Θ := by rw [hP]; exact Θ_ok
  unfold laws_szOpSS at h
  show WAt E body33 (FQ (RetE Θ Try.f33.results.toList [] [] (I r) E)) [] ⟨[(0, (AV.ro 1 (p1.map r90))), (1, (I p2))], [], [JJ]⟩
  rcases itS h with ⟨c3, h⟩ | ⟨c4, h⟩
  · have h := Option.some.inj h
    subst h
    exact go_ret hΘ hm hP hn (hs := [⟨3, .no, some (I (p1.length : Int))⟩, ⟨8, .br true, none⟩]) (rh := []) (ph := .raw) (ps := [AV.lit (.int .i64 (((p1.map r90).length : Nat) : Int)) = (I (p1.length : Int)), (decide ((w64 (p2 - (p1.length : Int))) < 0)) = true, (I (-1)) = (I (-1)), litA (I (-1)) = true]) (by kernel_rfl) ⟨(lenM r90), c3, rfl, rfl, trivial⟩
  · exact go_to hΘ hm hx hP hn (hs := [⟨3, .no, some (I (p1.length : Int))⟩, ⟨8, .br false, none⟩]) (π := []) (ts := [0, 1, 5]) (kp := []) (ps := [AV.lit (.int .i64 (((p1.map r90).length : Nat) : Int)) = (I (p1.length : Int)), (decide ((w64 (p2 - (p1.length : Int))) < 0)) = false]) (by kernel_rfl) ⟨(lenM r90), c4, trivial⟩ (laws_szOpSS_l0_m hP hn hx p1 FU (w64 (p2 - (p1.length : Int))) 0 _ h)
noncomputable def body8 : Code := match Try.f8.body with | some c => c | none => .skip
noncomputable def laws_szProg (p1 : GProg) (p2 : Int) : Option Int :=
  Option.bind (laws_szOpSS p1.Routines p2) fun r3 =>
  if (decide (r3 < 0)) = true then
    some (-1)
  else
    some r3
theorem laws_szProg_m {p1 : GProg} {p2 : Int} {r : Int} (h : laws_szProg p1 p2 = some r) : Meets Try.prog 8 [(AV.agg ((r24 p1))), (I p2)] (I r) := by
  refine meets_ofC Θ_ok Try.func8 rfl (c := body8) (by kernel_rfl) (Nat.le_of_ble_eq_true rfl) ?_
  intro E hP hn hx
  replace hn : E.n = 12 := hn
  have hm : E.P.follows .mixedOrders = true := by rw [hP]; exact mixed
  have hΘ : TOK E.P Θ := by rw [hP]; exact Θ_ok
  unfold laws_szProg at h
  show WAt E body8 (FQ (RetE Θ Try.f8.results.toList [] [] (I r) E)) [] ⟨[(0, (AV.agg ((r24 p1)))), (1, (I p2))], [], [JJ]⟩
  obtain ⟨r3, hr3, h⟩ := bnS h
  rcases itS h with ⟨c4, h⟩ | ⟨c5, h⟩
  · have h := Option.some.inj h
    subst h
    exact go_ret hΘ hm hP hn (hs := [⟨0, .new 1001, none⟩, ⟨5, .callV [] (I r3), none⟩, ⟨9, .br true, none⟩]) (rh := []) (ph := .raw) (ps := [Meets Try.prog 33 [(AV.ro 1 (p1.Routines.map r90)), (I p2)] (I r3), litA (I r3) = true, (decide (r3 < 0)) = true, (I (-1)) = (I (-1)), litA (I (-1)) = true]) (by kernel_rfl) ⟨(laws_szOpSS_m hr3), rfl, c4, rfl, rfl, trivial⟩
  · have h := Option.some.inj h
    subst h
    exact go_ret hΘ hm hP hn (hs := [⟨0, .new 1001, none⟩, ⟨5, .callV [] (I r3), none⟩, ⟨9, .br false, none⟩]) (rh := []) (ph := .raw) (ps := [Meets Try.prog 33 [(AV.ro 1 (p1.Routines.map r90)), (I p2)] (I r3), litA (I r3) = true, (decide (r3 < 0)) = false, (I r3) = (I r3), litA (I r3) = true]) (by kernel_rfl) ⟨(laws_szOpSS_m hr3), rfl, c5, rfl, rfl, trivial⟩
noncomputable def body35 : Code := match Try.f35.body with | some c => c | none => .skip
noncomputable def laws_szFloat64S (p1 : (List Nat)) (p2 : Int) : Option Int :=
  if (decide ((w64 (p2 - (p1.length : Int))) < 0)) = true then
    some (-1)
  else
    some (w64 (p2 - (p1.length : Int)))
theorem laws_szFloat64S_m {p1 : (List Nat)} {p2 : Int} {r : Int} (h : laws_szFloat64S p1 p2 = some r) : Meets Try.prog 35 [(AV.ro 1 (p1.map o83)), (I p2)] (I r) := by
  refine meets_ofC Θ_ok Try.func35 rfl (c := body35) (by kernel_rfl) (Nat.le_of_ble_eq_true rfl) ?_
  intro E hP hn hx
  replace hn : E.n = 12 := hn
  have hm : E.P.follows .mixedOrders = true := by rw [hP]; exact mixed
  have hΘ : TOK E.P Θ := by rw [hP]; exact Θ_ok
  unfold laws_szFloat64S at h
  show WAt E body35 (FQ (RetE Θ Try.f35.results.toList [] [] (I r) E)) [] ⟨[(0, (AV.ro 1 (p1.map o83))), (1, (I p2))], [], [JJ]⟩
  rcases itS h with ⟨c3, h⟩ | ⟨c4, h⟩
  · have h := Option.some.inj h
    subst h
    exact go_ret hΘ hm hP hn (hs := [⟨3, .no, some (I (p1.length : Int))⟩, ⟨8, .br true, none⟩]) (rh := []) (ph := .raw) (ps := [AV.lit (.int .i64 (((p1.map o83).length : Nat) : Int)) = (I (p1.length : Int)), (decide ((w64 (p2 - (p1.length : Int))) < 0)) = true, (I (-1)) = (I (-1)), litA (I (-1)) = true]) (by kernel_rfl) ⟨(lenM o83), c3, rfl, rfl, trivial⟩
  · have h := Option.some.inj h
    subst h
    exact go_ret hΘ hm hP hn (hs := [⟨3, .no, some (I (p1.length : Int))⟩, ⟨8, .br false, none⟩]) (rh := []) (ph := .raw) (ps := [AV.lit (.int .i64 (((p1.map o83).length : Nat) : Int)) = (I (p1.length : Int)), (decide ((w64 (p2 - (p1.length : Int))) < 0)) = false, (I (w64 (p2 - (p1.length : Int)))) = (I (w64 (p2 - (p1.length : Int)))), litA (I (w64 (p2 - (p1.length : Int)))) = true]) (by kernel_rfl) ⟨(lenM o83), c4, rfl, rfl, trivial⟩
noncomputable def body36 : Code := match Try.f36.body with | some c => c | none => .skip
noncomputable def laws_szIntS (p1 : (List Int)) (p2 : Int) : Option Int :=
  if (decide ((w64 (p2 - (p1.length : Int))) < 0)) = true then
    some (-1)
  else
    some (w64 (p2 - (p1.length : Int)))
theorem laws_szIntS_m {p1 : (List Int)} {p2 : Int} {r : Int} (h : laws_szIntS p1 p2 = some r) : Meets Try.prog 36 [(AV.ro 1 (p1.map o3)), (I p2)] (I r) := by
  refine meets_ofC Θ_ok Try.func36 rfl (c := body36) (by kernel_rfl) (Nat.le_of_ble_eq_true rfl) ?_
  intro E hP hn hx
  replace hn : E.n = 12 := hn
  have hm : E.P.follows .mixedOrders = true := by rw [hP]; exact mixed
  have hΘ : TOK E.P Θ := by rw [hP]; exact Θ_ok
  unfold laws_szIntS at h
  show WAt E body36 (FQ (RetE Θ Try.f36.results.toList [] [] (I r) E)) [] ⟨[(0, (AV.ro 1 (p1.map o3))), (1, (I p2))], [], [JJ]⟩
  rcases itS h with ⟨c3, h⟩ | ⟨c4, h⟩
  · have h := Option.some.inj h
    subst h
    exact go_ret hΘ hm hP hn (hs := [⟨3, .no, some (I (p1.length : Int))⟩, ⟨8, .br true, none⟩]) (rh := []) (ph := .raw) (ps := [AV.lit (.int .i64 (((p1.map o3).length : Nat) : Int)) = (I (p1.length : Int)), (decide ((w64 (p2 - (p1.length : Int))) < 0)) = true, (I (-1)) = (I (-1)), litA (I (-1)) = true]) (by kernel_rfl) ⟨(lenM o3), c3, rfl, rfl, trivial⟩
  · have h := Option.some.inj h
    subst h
    exact go_ret hΘ hm hP hn (hs := [⟨3, .no, some (I (p1.length : Int))⟩, ⟨8, .br false, none⟩]) (rh := []) (ph := .raw) (ps := [AV.lit (.int .i64 (((p1.map o3).length : Nat) : Int)) = (I (p1.length : Int)), (decide ((w64 (p2 - (p1.length : Int))) < 0)) = false, (I (w64 (p2 - (p1.length : Int)))) = (I (w64 (p2 - (p1.length : Int)))), litA (I (w64 (p2 - (p1.length : Int)))) = true]) (by kernel_rfl) ⟨(lenM o3), c4, rfl, rfl, trivial⟩
noncomputable def body67 : Code := match Try.f67.body with | some c => c | none => .skip
noncomputable def laws_szThread (p1 : GThread) (p2 : Int) : Option Int :=
  Option.bind (laws_szFloat64S p1.Stack p2) fun r3 =>
  if (decide (r3 < 0)) = true then
    some (-1)
  else
    some r3
theorem laws_szThread_m {p1 : GThread} {p2 : Int} {r : Int} (h : laws_szThread p1 p2 = some r) : Meets Try.prog 67 [(AV.agg ((r92 p1))), (I p2)] (I r) := by
  refine meets_ofC Θ_ok Try.func67 rfl (c := body67) (by kernel_rfl) (Nat.le_of_ble_eq_true rfl) ?_
  intro E hP hn hx
  replace hn : E.n = 12 := hn
  have hm : E.P.follows .mixedOrders = true := by rw [hP]; exact mixed
  have hΘ : TOK E.P Θ := by rw [hP]; exact Θ_ok
  unfold laws_szThread at h
  show WAt E body67 (FQ (RetE Θ Try.f67.results.toList [] [] (I r) E)) [] ⟨[(0, (AV.agg ((r92 p1)))), (1, (I p2))], [], [JJ]⟩
  obtain ⟨r3, hr3, h⟩ := bnS h
  rcases itS h with ⟨c4, h⟩ | ⟨c5, h⟩
  · have h := Option.some.inj h
    subst h
    exact go_ret hΘ hm hP hn (hs := [⟨0, .new 1001, none⟩, ⟨5, .callV [] (I r3), none⟩, ⟨9, .br true, none⟩]) (rh := []) (ph := .raw) (ps := [Meets Try.prog 35 [(AV.ro 1 (p1.Stack.map o83)), (I p2)] (I r3), litA (I r3) = true, (decide (r3 < 0)) = true, (I (-1)) = (I (-1)), litA (I (-1)) = true]) (by kernel_rfl) ⟨(laws_szFloat64S_m hr3), rfl, c4, rfl, rfl, trivial⟩
  · have h := Option.some.inj h
    subst h
    exact go_ret hΘ hm hP hn (hs := [⟨0, .new 1001, none⟩, ⟨5, .callV [] (I r3), none⟩, ⟨9, .br false, none⟩]) (rh := []) (ph := .raw) (ps := [Meets Try.prog 35 [(AV.ro 1 (p1.Stack.map o83)), (I p2)] (I r3), litA (I r3) = true, (decide (r3 < 0)) = false, (I r3) = (I r3), litA (I r3) = true]) (by kernel_rfl) ⟨(laws_szFloat64S_m hr3), rfl, c5, rfl, rfl, trivial⟩
noncomputable def body34 : Code := match Try.f34.body with | some c => c | none => .skip
noncomputable def laws_szThreadS_l0  (p1 : (List GThread)) : Nat → Int → Int → Option Int
  | 0, _, _ => none
  | n + 1, v5, v6 =>
  if (decide (v6 < (p1.length : Int))) = true then
    Option.bind (rd p1 v6) fun x8 =>
    Option.bind (laws_szThread x8 v5) fun r9 =>
    if (decide (r9 < 0)) = true then
      some (-1)
    else
      laws_szThreadS_l0 p1 n r9 (w64 (v6 + 1))
  else
    some v5
theorem laws_szThreadS_l0_m {E : Env} (hP : E.P = Try.prog) (hn : E.n = 27) (hx : ∀ p, p ∈ E.fx → p.1 ∈ ([] : List Nat)) (p1 : (List GThread))  : ∀ (n : Nat) (v5 : Int) (v6 : Int) (r : Int), laws_szThreadS_l0 p1 n v5 v6 = some r → WAt E body34 (FQ (RetE Θ Try.f34.results.toList [] [] (I r) E)) [true, true, true, false, true, false] ⟨[(0, (AV.ro 6 (p1.map r92))), (1, (I v5)), (5, (I v6))], [], [JJ]⟩ := by
  have hm : E.P.follows .mixedOrders = true := by rw [hP]; exact mixed
  have hΘ : TOK E.P Θ := by rw [hP]; exact Θ_ok
  intro n
  induction n with
  | zero => intro v5 v6 r h; simp only [laws_szThreadS_l0] at h; cases h
  | succ n ih =>
    intro v5 v6 r h
    simp only [laws_szThreadS_l0] at h
    rcases itS h with ⟨c7, h⟩ | ⟨c12, h⟩
    · obtain ⟨x8, hx8, h⟩ := bnS h
      obtain ⟨r9, hr9, h⟩ := bnS h
      rcases itS h with ⟨c10, h⟩ | ⟨c11, h⟩
      · have h := Option.some.inj h
        subst h
        exact go_ret hΘ hm hP hn (hs := [⟨2, .no, some (I (p1.length : Int))⟩, ⟨4, .br true, none⟩, ⟨7, .row (r92 x8), none⟩, ⟨10, .callV [[]] (I r9), none⟩, ⟨14, .br true, none⟩]) (rh := []) (ph := .raw) (ps := [AV.lit (.int .i64 (((p1.map r92).length : Nat) : Int)) = (I (p1.length : Int)), (decide (v6 < (p1.length : Int))) = true, (0 : Int) ≤ v6, (p1.map r92)[(Int.toNat v6)]? = some (r92 x8), Meets Try.prog 67 [(AV.agg ((r92 x8))), (I v5)] (I r9), litA (I r9) = true, (decide (r9 < 0)) = true, (I (-1)) = (I (-1)), litA (I (-1)) = true]) (by kernel_rfl) ⟨(lenM r92), c7, (rd0 hx8), (rdM r92 hx8), (laws_szThread_m hr9), rfl, c10, rfl, rfl, trivial⟩
      · exact go_to hΘ hm hx hP hn (hs := [⟨2, .no, some (I (p1.length : Int))⟩, ⟨4, .br true, none⟩, ⟨7, .row (r92 x8), none⟩, ⟨10, .callV [[]] (I r9), none⟩, ⟨14, .br false, none⟩]) (π := []) (ts := [0, 1, 5]) (kp := []) (ps := [AV.lit (.int .i64 (((p1.map r92).length : Nat) : Int)) = (I (p1.length : Int)), (decide (v6 < (p1.length : Int))) = true, (0 : Int) ≤ v6, (p1.map r92)[(Int.toNat v6)]? = some (r92 x8), Meets Try.prog 67 [(AV.agg ((r92 x8))), (I v5)] (I r9), litA (I r9) = true, (decide (r9 < 0)) = false]) (by kernel_rfl) ⟨(lenM r92), c7, (rd0 hx8), (rdM r92 hx8), (laws_szThread_m hr9), rfl, c11, trivial⟩ (ih r9 (w64 (v6 + 1)) _ h)
    · have h := Option.some.inj h
      subst h
      exact go_ret hΘ hm hP hn (hs := [⟨2, .no, some (I (p1.length : Int))⟩, ⟨4, .br false, none⟩]) (rh := []) (ph := .raw) (ps := [AV.lit (.int .i64 (((p1.map r92).length : Nat) : Int)) = (I (p1.length : Int)), (decide (v6 < (p1.length : Int))) = false, (I v5) = (I v5), litA (I v5) = true]) (by kernel_rfl) ⟨(lenM r92), c12, rfl, rfl, trivial⟩
noncomputable def laws_szThreadS (p1 : (List GThread)) (p2 : Int) : Option Int :=
  if (decide ((w64 (p2 - (p1.length : Int))) < 0)) = true then
    some (-1)
  else
    laws_szThreadS_l0 p1 FU (w64 (p2 - (p1.length : Int))) 0
theorem laws_szThreadS_m {p1 : (List GThread)} {p2 : Int} {r : Int} (h : laws_szThreadS p1 p2 = some r) : Meets Try.prog 34 [(AV.ro 6 (p1.map r92)), (I p2)] (I r) := by
  refine meets_ofC Θ_ok Try.func34 rfl (c := body34) (by kernel_rfl) (Nat.le_of_ble_eq_true rfl) ?_
  intro E hP hn hx
  replace hn : E.n = 27 := hn
  have hm : E.P.follows .mixedOrders = true := by rw [hP]; exact mixed
  have hΘ : TOK E.P Θ := by rw [hP]; exact Θ_ok
  unfold laws_szThreadS at h
  show WAt E body34 (FQ (RetE Θ Try.f34.results.toList [] [] (I r) E)) [] ⟨[(0, (AV.ro 6 (p1.map r92))), (1, (I p2))], [], [JJ]⟩
  rcases itS h with ⟨c3, h⟩ | ⟨c4, h⟩
  · have h := Option.some.inj h
    subst h
    exact go_ret hΘ hm hP hn (hs := [⟨3, .no, some (I (p1.length : Int))⟩, ⟨8, .br true, none⟩]) (rh := []) (ph := .raw) (ps := [AV.lit (.int .i64 (((p1.map r92).length : Nat) : Int)) = (I (p1.length : Int)), (decide ((w64 (p2 - (p1.length : Int))) < 0)) = true, (I (-1)) = (I (-1)), litA (I (-1)) = true]) (by kernel_rfl) ⟨(lenM r92), c3, rfl, rfl, trivial⟩
  · exact go_to hΘ hm hx hP hn (hs := [⟨3, .no, some (I (p1.length : Int))⟩, ⟨8, .br false, none⟩]) (π := []) (ts := [0, 1, 5]) (kp := []) (ps := [AV.lit (.int .i64 (((p1.map r92).length : Nat) : Int)) = (I (p1.length : Int)), (decide ((w64 (p2 - (p1.length : Int))) < 0)) = false]) (by kernel_rfl) ⟨(lenM r92), c4, trivial⟩ (laws_szThreadS_l0_m hP hn hx p1 FU (w64 (p2 - (p1.length : Int))) 0 _ h)
noncomputable def body9 : Code := match Try.f9.body with | some c => c | none => .skip
noncomputable def laws_szState (p1 : GState) (p2 : Int) : Option Int :=
  Option.bind (laws_szThreadS p1.Threads p2) fun r3 =>
  if (decide (r3 < 0)) = true then
    some (-1)
  else
    Option.bind (laws_szFloat64S p1.Cells r3) fun r6 =>
    if (decide (r6 < 0)) = true then
      some (-1)
    else
      Option.bind (laws_szIntS p1.Owner r6) fun r9 =>
      if (decide (r9 < 0)) = true then
        some (-1)
      else
        some r9
theorem laws_szState_m {p1 : GState} {p2 : Int} {r : Int} (h : laws_szState p1 p2 = some r) : Meets Try.prog 9 [(AV.agg ((r29 p1))), (I p2)] (I r) := by
  refine meets_ofC Θ_ok Try.func9 rfl (c := body9) (by kernel_rfl) (Nat.le_of_ble_eq_true rfl) ?_
  intro E hP hn hx
  replace hn : E.n = 24 := hn
  have hm : E.P.follows .mixedOrders = true := by rw [hP]; exact mixed
  have hΘ : TOK E.P Θ := by rw [hP]; exact Θ_ok
  unfold laws_szState at h
  show WAt E body9 (FQ (RetE Θ Try.f9.results.toList [] [] (I r) E)) [] ⟨[(0, (AV.agg ((r29 p1)))), (1, (I p2))], [], [JJ]⟩
  obtain ⟨r3, hr3, h⟩ := bnS h
  rcases itS h with ⟨c4, h⟩ | ⟨c5, h⟩
  · have h := Option.some.inj h
    subst h
    exact go_ret hΘ hm hP hn (hs := [⟨0, .new 1001, none⟩, ⟨5, .callV [] (I r3), none⟩, ⟨9, .br true, none⟩]) (rh := []) (ph := .raw) (ps := [Meets Try.prog 34 [(AV.ro 6 (p1.Threads.map r92)), (I p2)] (I r3), litA (I r3) = true, (decide (r3 < 0)) = true, (I (-1)) = (I (-1)), litA (I (-1)) = true]) (by kernel_rfl) ⟨(laws_szThreadS_m hr3), rfl, c4, rfl, rfl, trivial⟩
  · obtain ⟨r6, hr6, h⟩ := bnS h
    rcases itS h with ⟨c7, h⟩ | ⟨c8, h⟩
    · have h := Option.some.inj h
      subst h
      exact go_ret hΘ hm hP hn (hs := [⟨0, .new 1001, none⟩, ⟨5, .callV [] (I r3), none⟩, ⟨9, .br false, none⟩, ⟨13, .callV [] (I r6), none⟩, ⟨17, .br true, none⟩]) (rh := []) (ph := .raw) (ps := [Meets Try.prog 34 [(AV.ro 6 (p1.Threads.map r92)), (I p2)] (I r3), litA (I r3) = true, (decide (r3 < 0)) = false, Meets Try.prog 35 [(AV.ro 1 (p1.Cells.map o83)), (I r3)] (I r6), litA (I r6) = true, (decide (r6 < 0)) = true, (I (-1)) = (I (-1)), litA (I (-1)) = true]) (by kernel_rfl) ⟨(laws_szThreadS_m hr3), rfl, c5, (laws_szFloat64S_m hr6), rfl, c7, rfl, rfl, trivial⟩
    · obtain ⟨r9, hr9, h⟩ := bnS h
      rcases itS h with ⟨c10, h⟩ | ⟨c11, h⟩
      · have h := Option.some.inj h
        subst h
        exact go_ret hΘ hm hP hn (hs := [⟨0, .new 1001, none⟩, ⟨5, .callV [] (I r3), none⟩, ⟨9, .br false, none⟩, ⟨13, .callV [] (I r6), none⟩, ⟨17, .br false, none⟩, ⟨21, .callV [] (I r9), none⟩, ⟨25, .br true, none⟩]) (rh := []) (ph := .raw) (ps := [Meets Try.prog 34 [(AV.ro 6 (p1.Threads.map r92)), (I p2)] (I r3), litA (I r3) = true, (decide (r3 < 0)) = false, Meets Try.prog 35 [(AV.ro 1 (p1.Cells.map o83)), (I r3)] (I r6), litA (I r6) = true, (decide (r6 < 0)) = false, Meets Try.prog 36 [(AV.ro 1 (p1.Owner.map o3)), (I r6)] (I r9), litA (I r9) = true, (decide (r9 < 0)) = true, (I (-1)) = (I (-1)), litA (I (-1)) = true]) (by kernel_rfl) ⟨(laws_szThreadS_m hr3), rfl, c5, (laws_szFloat64S_m hr6), rfl, c8, (laws_szIntS_m hr9), rfl, c10, rfl, rfl, trivial⟩
      · have h := Option.some.inj h
        subst h
        exact go_ret hΘ hm hP hn (hs := [⟨0, .new 1001, none⟩, ⟨5, .callV [] (I r3), none⟩, ⟨9, .br false, none⟩, ⟨13, .callV [] (I r6), none⟩, ⟨17, .br false, none⟩, ⟨21, .callV [] (I r9), none⟩, ⟨25, .br false, none⟩]) (rh := []) (ph := .raw) (ps := [Meets Try.prog 34 [(AV.ro 6 (p1.Threads.map r92)), (I p2)] (I r3), litA (I r3) = true, (decide (r3 < 0)) = false, Meets Try.prog 35 [(AV.ro 1 (p1.Cells.map o83)), (I r3)] (I r6), litA (I r6) = true, (decide (r6 < 0)) = false, Meets Try.prog 36 [(AV.ro 1 (p1.Owner.map o3)), (I r6)] (I r9), litA (I r9) = true, (decide (r9 < 0)) = false, (I r9) = (I r9), litA (I r9) = true]) (by kernel_rfl) ⟨(laws_szThreadS_m hr3), rfl, c5, (laws_szFloat64S_m hr6), rfl, c8, (laws_szIntS_m hr9), rfl, c11, rfl, rfl, trivial⟩
noncomputable def body91 : Code := match Try.f91.body with | some c => c | none => .skip
noncomputable def laws_toOp (p1 : GOp) : Option GOp :=
  some (GOp.mk p1.Code p1.A p1.B p1.V)
theorem laws_toOp_m {p1 : GOp} {r : GOp} (h : laws_toOp p1 = some r) : Meets Try.prog 91 [(AV.agg ((o116 p1)))] (AV.agg (o85 r)) := by
  refine meets_ofC Θ_ok Try.func91 rfl (c := body91) (by kernel_rfl) (Nat.le_of_ble_eq_true rfl) ?_
  intro E hP hn hx
  replace hn : E.n = 17 := hn
  have hm : E.P.follows .mixedOrders = true := by rw [hP]; exact mixed
  have hΘ : TOK E.P Θ := by rw [hP]; exact Θ_ok
  unfold laws_toOp at h
  show WAt E body91 (FQ (RetE Θ Try.f91.results.toList [] [] (AV.agg (o85 r)) E)) [] ⟨[(0, (AV.agg ((o116 p1))))], [], [JJ]⟩
  have h := Option.some.inj h
  subst h
  exact go_ret hΘ hm hP hn (hs := [⟨0, .new 1001, none⟩, ⟨1, .new 1002, none⟩, ⟨2, .new 1003, none⟩]) (rh := []) (ph := .raw) (ps := [(AV.agg [(I p1.Code), (I p1.A), (I p1.B), (FK p1.V)]) = (AV.agg [(I p1.Code), (I p1.A), (I p1.B), (FK p1.V)]), litA (AV.agg [(I p1.Code), (I p1.A), (I p1.B), (FK p1.V)]) = true]) (by kernel_rfl) ⟨rfl, rfl, trivial⟩
noncomputable def body72 : Code := match Try.f72.body with | some c => c | none => .skip
noncomputable def laws_toOpS_l0  (p1 : (List GOp)) : Nat → (List GOp) → Int → Option (List GOp)
  | 0, _, _ => none
  | n + 1, a3, v4 =>
  if (decide (v4 < (p1.length : Int))) = true then
    Option.bind (rd p1 v4) fun x6 =>
    Option.bind (laws_toOp x6) fun r7 =>
    Option.bind (rd a3 v4) fun x8 =>
    laws_toOpS_l0 p1 n (a3.set (Int.toNat v4) r7) (w64 (v4 + 1))
  else
    some a3
theorem laws_toOpS_l0_m {E : Env} (hP : E.P = Try.prog) (hn : E.n = 23) (hx : ∀ p, p ∈ E.fx → p.1 ∈ ([] : List Nat)) (p1 : (List GOp))  : ∀ (n : Nat) (a3 : (List GOp)) (v4 : Int) (r : (List GOp)), laws_toOpS_l0 p1 n a3 v4 = some r → WAt E body72 (FQ (RetE Θ Try.f72.results.toList [] [] (AV.own 85 4 (r.map o85)) E)) [true, true, false, true, false] ⟨[(0, (AV.ro 4 (p1.map o116))), (3, (AV.sl 1 0 (List.length (a3.map o85)))), (4, (I v4))], [(1, some ⟨85, 4, (a3.map o85)⟩)], [1, JJ]⟩ := by
  have hm : E.P.follows .mixedOrders = true := by rw [hP]; exact mixed
  have hΘ : TOK E.P Θ := by rw [hP]; exact Θ_ok
  intro n
  induction n with
  | zero => intro a3 v4 r h; simp only [laws_toOpS_l0] at h; cases h
  | succ n ih =>
    intro a3 v4 r h
    simp only [laws_toOpS_l0] at h
    rcases itS h with ⟨c5, h⟩ | ⟨c9, h⟩
    · obtain ⟨x6, hx6, h⟩ := bnS h
      obtain ⟨r7, hr7, h⟩ := bnS h
      obtain ⟨x8, hx8, h⟩ := bnS h
      exact go_to hΘ hm hx hP hn (hs := [⟨2, .no, some (I (p1.length : Int))⟩, ⟨4, .br true, none⟩, ⟨9, .row (o116 x6), none⟩, ⟨11, .callV [[]] (AV.agg (o85 r7)), none⟩, ⟨13, .sto ((o85 x8)) ((a3.set (Int.toNat v4) r7).map o85), none⟩, ⟨17, .slen 3 (List.length ((a3.set (Int.toNat v4) r7).map o85)), none⟩]) (π := [(1, 1)]) (ts := [0, 3, 4]) (kp := []) (ps := [AV.lit (.int .i64 (((p1.map o116).length : Nat) : Int)) = (I (p1.length : Int)), (decide (v4 < (p1.length : Int))) = true, (0 : Int) ≤ v4, (p1.map o116)[(Int.toNat v4)]? = some (o116 x6), Meets Try.prog 91 [(AV.agg ((o116 x6)))] (AV.agg (o85 r7)), litA (AV.agg (o85 r7)) = true, (0 : Int) ≤ v4, v4 < (((List.length (a3.map o85)) : Nat) : Int), (a3.map o85)[(Int.toNat v4)]? = some ((o85 x8)), (a3.map o85).set (Int.toNat v4) (wr ((o85 x8)) 0 ((o85 r7))) = ((a3.set (Int.toNat v4) r7).map o85), ((o85 r7)).length = 4, 0 + ((o85 r7)).length ≤ ((o85 x8)).length, (List.length (a3.map o85)) = (List.length ((a3.set (Int.toNat v4) r7).map o85)), RenOK [(1, 1)] ((a3.set (Int.toNat v4) r7).map o85)]) (by kernel_rfl) ⟨(lenM o116), c5, (rd0 hx6), (rdM o116 hx6), (laws_toOp_m hr7), rfl, (rd0 hx8), (rdL o85 hx8), (rdM o85 hx8), (setMr o85 (by kernel_rfl)), rfl, (Nat.le_of_ble_eq_true rfl), (by first | exact lnSet _ | exact lnSet2 _ | simp only [List.length_map, List.length_set, List.length_cons, List.length_nil]), (rok (treeM t85)), trivial⟩ (ih (a3.set (Int.toNat v4) r7) (w64 (v4 + 1)) _ h)
    · have h := Option.some.inj h
      subst h
      exact go_ret hΘ hm hP hn (hs := [⟨2, .no, some (I (p1.length : Int))⟩, ⟨4, .br false, none⟩]) (rh := []) (ph := .own) (ps := [AV.lit (.int .i64 (((p1.map o116).length : Nat) : Int)) = (I (p1.length : Int)), (decide (v4 < (p1.length : Int))) = false, treeLL ((a3.map o85).take (List.length (a3.map o85))) = true, (a3.map o85).take (List.length (a3.map o85)) = (a3.map o85), noRoLL (a3.map o85) = true]) (by kernel_rfl) ⟨(lenM o116), c9, (treeT t85), takeM, (noRoM n85), trivial⟩
noncomputable def laws_toOpS (p1 : (List GOp)) : Option (List GOp) :=
  Option.bind (mk (GOp.mk 0 0 0 0) (p1.length : Int)) fun l2 =>
  laws_toOpS_l0 p1 FU l2 0
theorem laws_toOpS_m {p1 : (List GOp)} {r : (List GOp)} (h : laws_toOpS p1 = some r) : Meets Try.prog 72 [(AV.ro 4 (p1.map o116))] (AV.own 85 4 (r.map o85)) := by
  refine meets_ofC Θ_ok Try.func72 rfl (c := body72) (by kernel_rfl) (Nat.le_of_ble_eq_true rfl) ?_
  intro E hP hn hx
  replace hn : E.n = 23 := hn
  have hm : E.P.follows .mixedOrders = true := by rw [hP]; exact mixed
  have hΘ : TOK E.P Θ := by rw [hP]; exact Θ_ok
  unfold laws_toOpS at h
  show WAt E body72 (FQ (RetE Θ Try.f72.results.toList [] [] (AV.own 85 4 (r.map o85)) E)) [] ⟨[(0, (AV.ro 4 (p1.map o116)))], [], [JJ]⟩
  obtain ⟨l2, hl2, h⟩ := bnS h
  exact go_to hΘ hm hx hP hn (hs := [⟨2, .no, some (I (p1.length : Int))⟩, ⟨3, .nw 1001 (l2.map o85), some (AV.sl 1001 0 (List.length (l2.map o85)))⟩]) (π := [(1001, 1)]) (ts := [0, 3, 4]) (kp := []) (ps := [AV.lit (.int .i64 (((p1.map o116).length : Nat) : Int)) = (I (p1.length : Int)), List.replicate (Int.toNat (p1.length : Int)) [.lit (.int .i64 0), .lit (.int .i64 0), .lit (.int .i64 0), .lit (.float .f64 0)] = (l2.map o85), AV.sl 1001 0 (Int.toNat (p1.length : Int)) = (AV.sl 1001 0 (List.length (l2.map o85))), (p1.length : Int) = (p1.length : Int), (0 : Int) ≤ (p1.length : Int), (p1.length : Int) * ((32 : Nat) : Int) ≤ 140737488355328, (p1.length : Int) ≤ 140737488355328, RenOK [(1001, 1)] (l2.map o85)]) (by kernel_rfl) ⟨(lenM o116), (mkM o85 hl2), (mkS o85 hl2), rfl, (mk0 hl2), (mkB hl2 (by decide)), (mkC hl2), (rok (treeM t85)), trivial⟩ (laws_toOpS_l0_m hP hn hx p1 FU l2 0 _ h)
noncomputable def body39 : Code := match Try.f39.body with | some c => c | none => .skip
noncomputable def laws_toOpSS_l0  (p1 : (List (List GOp))) : Nat → (List (List GOp)) → Int → Option (List (List GOp))
  | 0, _, _ => none
  | n + 1, a3, v4 =>
  if (decide (v4 < (p1.length : Int))) = true then
    Option.bind (rd p1 v4) fun x6 =>
    Option.bind (laws_toOpS x6) fun r7 =>
    Option.bind (rd a3 v4) fun x8 =>
    laws_toOpSS_l0 p1 n (a3.set (Int.toNat v4) r7) (w64 (v4 + 1))
  else
    some a3
theorem laws_toOpSS_l0_m {E : Env} (hP : E.P = Try.prog) (hn : E.n = 23) (hx : ∀ p, p ∈ E.fx → p.1 ∈ ([] : List Nat)) (p1 : (List (List GOp)))  : ∀ (n : Nat) (a3 : (List (List GOp))) (v4 : Int) (r : (List (List GOp))), laws_toOpSS_l0 p1 n a3 v4 = some r → WAt E body39 (FQ (RetE Θ Try.f39.results.toList [] [] (AV.own 82 1 (r.map o82)) E)) [true, true, false, true, false] ⟨[(0, (AV.ro 1 (p1.map r90))), (3, (AV.sl 1 0 (List.length (a3.map o82)))), (4, (I v4))], [(1, some ⟨82, 1, (a3.map o82)⟩)], [1, JJ]⟩ := by
  have hm : E.P.follows .mixedOrders = true := by rw [hP]; exact mixed
  have hΘ : TOK E.P Θ := by rw [hP]; exact Θ_ok
  intro n
  induction n with
  | zero => intro a3 v4 r h; simp only [laws_toOpSS_l0] at h; cases h
  | succ n ih =>
    intro a3 v4 r h
    simp only [laws_toOpSS_l0] at h
    rcases itS h with ⟨c5, h⟩ | ⟨c9, h⟩
    · obtain ⟨x6, hx6, h⟩ := bnS h
      obtain ⟨r7, hr7, h⟩ := bnS h
      obtain ⟨x8, hx8, h⟩ := bnS h
      exact go_to hΘ hm hx hP hn (hs := [⟨2, .no, some (I (p1.length : Int))⟩, ⟨4, .br true, none⟩, ⟨9, .row (r90 x6), none⟩, ⟨11, .call [] (AV.own 85 4 (r7.map o85)) [1001], none⟩, ⟨13, .sto [(AV.own 85 4 (x8.map o85))] ((a3.map o82).set (Int.toNat v4) [(AV.sl 1001 0 (List.length (r7.map o85)))]), none⟩, ⟨14, .pack 1 1001 (Int.toNat v4) 0 [(AV.sl 1001 0 (List.length (r7.map o85)))] ((a3.set (Int.toNat v4) r7).map o82), none⟩, ⟨17, .slen 3 (List.length ((a3.set (Int.toNat v4) r7).map o82)), none⟩]) (π := [(1, 1)]) (ts := [0, 3, 4]) (kp := []) (ps := [AV.lit (.int .i64 (((p1.map r90).length : Nat) : Int)) = (I (p1.length : Int)), (decide (v4 < (p1.length : Int))) = true, (0 : Int) ≤ v4, (p1.map r90)[(Int.toNat v4)]? = some (r90 x6), Meets Try.prog 72 [(AV.ro 4 (x6.map o116))] (AV.own 85 4 (r7.map o85)), noRo (AV.own 85 4 (r7.map o85)) = true, (0 : Int) ≤ v4, v4 < (((List.length (a3.map o82)) : Nat) : Int), (a3.map o82)[(Int.toNat v4)]? = some [(AV.own 85 4 (x8.map o85))], (a3.map o82).set (Int.toNat v4) (wr [(AV.own 85 4 (x8.map o85))] 0 [(AV.sl 1001 0 (List.length (r7.map o85)))]) = ((a3.map o82).set (Int.toNat v4) [(AV.sl 1001 0 (List.length (r7.map o85)))]), [(AV.sl 1001 0 (List.length (r7.map o85)))].length = 1, 0 + [(AV.sl 1001 0 (List.length (r7.map o85)))].length ≤ [(AV.own 85 4 (x8.map o85))].length, ((a3.map o82).set (Int.toNat v4) [(AV.sl 1001 0 (List.length (r7.map o85)))])[(Int.toNat v4)]? = some [(AV.sl 1001 0 (List.length (r7.map o85)))], [(AV.sl 1001 0 (List.length (r7.map o85)))][0]? = some (AV.sl 1001 0 (List.length (r7.map o85))), treeLL (r7.map o85) = true, ((a3.map o82).set (Int.toNat v4) [(AV.sl 1001 0 (List.length (r7.map o85)))]).set (Int.toNat v4) ([(AV.sl 1001 0 (List.length (r7.map o85)))].set 0 (AV.own 85 4 (r7.map o85))) = ((a3.set (Int.toNat v4) r7).map o82), (List.length (a3.map o82)) = (List.length ((a3.set (Int.toNat v4) r7).map o82)), RenOK [(1, 1)] ((a3.set (Int.toNat v4) r7).map o82)]) (by kernel_rfl) ⟨(lenM r90), c5, (rd0 hx6), (rdM r90 hx6), (laws_toOpS_m hr7), (by simp only [noRo, noRoL, noRoM n85, Bool.and_self]), (rd0 hx8), (rdL o82 hx8), (rdM o82 hx8), rfl, rfl, (Nat.le_of_ble_eq_true rfl), (setE (rdM o82 hx8)), rfl, (treeM t85), (setP o82), (by first | exact lnSet _ | exact lnSet2 _ | simp only [List.length_map, List.length_set, List.length_cons, List.length_nil]), (rok (treeM t82)), trivial⟩ (ih (a3.set (Int.toNat v4) r7) (w64 (v4 + 1)) _ h)
    · have h := Option.some.inj h
      subst h
      exact go_ret hΘ hm hP hn (hs := [⟨2, .no, some (I (p1.length : Int))⟩, ⟨4, .br false, none⟩]) (rh := []) (ph := .own) (ps := [AV.lit (.int .i64 (((p1.map r90).length : Nat) : Int)) = (I (p1.length : Int)), (decide (v4 < (p1.length : Int))) = false, treeLL ((a3.map o82).take (List.length (a3.map o82))) = true, (a3.map o82).take (List.length (a3.map o82)) = (a3.map o82), noRoLL (a3.map o82) = true]) (by kernel_rfl) ⟨(lenM r90), c9, (treeT t82), takeM, (noRoM n82), trivial⟩
noncomputable def laws_toOpSS (p1 : (List (List GOp))) : Option (List (List GOp)) :=
  Option.bind (mk [] (p1.length : Int)) fun l2 =>
  laws_toOpSS_l0 p1 FU l2 0
theorem laws_toOpSS_m {p1 : (List (List GOp))} {r : (List (List GOp))} (h : laws_toOpSS p1 = some r) : Meets Try.prog 39 [(AV.ro 1 (p1.map r90))] (AV.own 82 1 (r.map o82)) := by
  refine meets_ofC Θ_ok Try.func39 rfl (c := body39) (by kernel_rfl) (Nat.le_of_ble_eq_true rfl) ?_
  intro E hP hn hx
  replace hn : E.n = 23 := hn
  have hm : E.P.follows .mixedOrders = true := by rw [hP]; exact mixed
  have hΘ : TOK E.P Θ := by rw [hP]; exact Θ_ok
  unfold laws_toOpSS at h
  show WAt E body39 (FQ (RetE Θ Try.f39.results.toList [] [] (AV.own 82 1 (r.map o82)) E)) [] ⟨[(0, (AV.ro 1 (p1.map r90)))], [], [JJ]⟩
  obtain ⟨l2, hl2, h⟩ := bnS h
  exact go_to hΘ hm hx hP hn (hs := [⟨2, .no, some (I (p1.length : Int))⟩, ⟨3, .nw 1001 (List.replicate (Int.toNat (p1.length : Int)) [AV.lit (.slice none 0 0)]), some (AV.sl 1001 0 (List.length (l2.map o82)))⟩, ⟨4, .own0 1001 (Int.toNat (p1.length : Int)) [] [] 85 4 (l2.map o82), none⟩]) (π := [(1001, 1)]) (ts := [0, 3, 4]) (kp := []) (ps := [AV.lit (.int .i64 (((p1.map r90).length : Nat) : Int)) = (I (p1.length : Int)), List.replicate (Int.toNat (p1.length : Int)) [.lit (.slice none 0 0)] = (List.replicate (Int.toNat (p1.length : Int)) [AV.lit (.slice none 0 0)]), AV.sl 1001 0 (Int.toNat (p1.length : Int)) = (AV.sl 1001 0 (List.length (l2.map o82))), (p1.length : Int) = (p1.length : Int), (0 : Int) ≤ (p1.length : Int), (p1.length : Int) * ((24 : Nat) : Int) ≤ 140737488355328, (p1.length : Int) ≤ 140737488355328, (List.replicate (Int.toNat (p1.length : Int)) [AV.lit (.slice none 0 0)]) = List.replicate (Int.toNat (p1.length : Int)) ([] ++ AV.lit (.slice none 0 0) :: []), List.replicate (Int.toNat (p1.length : Int)) ([] ++ AV.own 85 4 [] :: []) = (l2.map o82), RenOK [(1001, 1)] (l2.map o82)]) (by kernel_rfl) ⟨(lenM r90), rfl, (mkS o82 hl2), rfl, (mk0 hl2), (mkB hl2 (by decide)), (mkC hl2), rfl, (mkM o82 hl2), (rok (treeM t82)), trivial⟩ (laws_toOpSS_l0_m hP hn hx p1 FU l2 0 _ h)
noncomputable def body11 : Code := match Try.f11.body with | some c => c | none => .skip
noncomputable def laws_toProg (p1 : GProg) : Option GProg :=
  Option.bind (laws_toOpSS p1.Routines) fun r2 =>
  some (GProg.mk p1.Cells p1.Locks p1.Conds r2)
theorem laws_toProg_m {p1 : GProg} {r : GProg} (h : laws_toProg p1 = some r) : Meets Try.prog 11 [(AV.agg ((r24 p1)))] (AV.agg (o35 r)) := by
  refine meets_ofC Θ_ok Try.func11 rfl (c := body11) (by kernel_rfl) (Nat.le_of_ble_eq_true rfl) ?_
  intro E hP hn hx
  replace hn : E.n = 18 := hn
  have hm : E.P.follows .mixedOrders = true := by rw [hP]; exact mixed
  have hΘ : TOK E.P Θ := by rw [hP]; exact Θ_ok
  unfold laws_toProg at h
  show WAt E body11 (FQ (RetE Θ Try.f11.results.toList [] [] (AV.agg (o35 r)) E)) [] ⟨[(0, (AV.agg ((r24 p1))))], [], [JJ]⟩
  obtain ⟨r2, hr2, h⟩ := bnS h
  have h := Option.some.inj h
  subst h
  exact go_ret hΘ hm hP hn (hs := [⟨0, .new 1001, none⟩, ⟨1, .new 1002, none⟩, ⟨2, .new 1003, none⟩, ⟨17, .call [] (AV.own 82 1 (r2.map o82)) [1004], none⟩]) (rh := []) (ph := .agg [.raw, .raw, .raw, .own]) (ps := [Meets Try.prog 39 [(AV.ro 1 (p1.Routines.map r90))] (AV.own 82 1 (r2.map o82)), noRo (AV.own 82 1 (r2.map o82)) = true, (I p1.Cells) = (I p1.Cells), litA (I p1.Cells) = true, (I p1.Locks) = (I p1.Locks), litA (I p1.Locks) = true, (I p1.Conds) = (I p1.Conds), litA (I p1.Conds) = true, treeLL ((r2.map o82).take (List.length (r2.map o82))) = true, (r2.map o82).take (List.length (r2.map o82)) = (r2.map o82), noRoLL (r2.map o82) = true]) (by kernel_rfl) ⟨(laws_toOpSS_m hr2), (by simp only [noRo, noRoL, noRoM n82, Bool.and_self]), rfl, rfl, rfl, rfl, rfl, rfl, (treeT t82), takeM, (noRoM n82), trivial⟩
noncomputable def body41 : Code := match Try.f41.body with | some c => c | none => .skip
noncomputable def laws_toFloat64S_l0  (p1 : (List Nat)) : Nat → (List Nat) → Int → Option (List Nat)
  | 0, _, _ => none
  | n + 1, a3, v4 =>
  if (decide (v4 < (p1.length : Int))) = true then
    Option.bind (rd p1 v4) fun x6 =>
    Option.bind (rd a3 v4) fun x7 =>
    laws_toFloat64S_l0 p1 n (a3.set (Int.toNat v4) x6) (w64 (v4 + 1))
  else
    some a3
theorem laws_toFloat64S_l0_m {E : Env} (hP : E.P = Try.prog) (hn : E.n = 22) (hx : ∀ p, p ∈ E.fx → p.1 ∈ ([] : List Nat)) (p1 : (List Nat))  : ∀ (n : Nat) (a3 : (List Nat)) (v4 : Int) (r : (List Nat)), laws_toFloat64S_l0 p1 n a3 v4 = some r → WAt E body41 (FQ (RetE Θ Try.f41.results.toList [] [] (AV.own 83 1 (r.map o83)) E)) [true, true, false, true, false] ⟨[(0, (AV.ro 1 (p1.map o83))), (3, (AV.sl 1 0 (List.length (a3.map o83)))), (4, (I v4))], [(1, some ⟨83, 1, (a3.map o83)⟩)], [1, JJ]⟩ := by
  have hm : E.P.follows .mixedOrders = true := by rw [hP]; exact mixed
  have hΘ : TOK E.P Θ := by rw [hP]; exact Θ_ok
  intro n
  induction n with
  | zero => intro a3 v4 r h; simp only [laws_toFloat64S_l0] at h; cases h
  | succ n ih =>
    intro a3 v4 r h
    simp only [laws_toFloat64S_l0] at h
    rcases itS h with ⟨c5, h⟩ | ⟨c8, h⟩
    · obtain ⟨x6, hx6, h⟩ := bnS h
      obtain ⟨x7, hx7, h⟩ := bnS h
      exact go_to hΘ hm hx hP hn (hs := [⟨2, .no, some (I (p1.length : Int))⟩, ⟨4, .br true, none⟩, ⟨9, .row (o83 x6), none⟩, ⟨12, .sto [(FK x7)] ((a3.set (Int.toNat v4) x6).map o83), none⟩, ⟨16, .slen 3 (List.length ((a3.set (Int.toNat v4) x6).map o83)), none⟩]) (π := [(1, 1)]) (ts := [0, 3, 4]) (kp := []) (ps := [AV.lit (.int .i64 (((p1.map o83).length : Nat) : Int)) = (I (p1.length : Int)), (decide (v4 < (p1.length : Int))) = true, (0 : Int) ≤ v4, (p1.map o83)[(Int.toNat v4)]? = some (o83 x6), (0 : Int) ≤ v4, v4 < (((List.length (a3.map o83)) : Nat) : Int), (a3.map o83)[(Int.toNat v4)]? = some [(FK x7)], (a3.map o83).set (Int.toNat v4) (wr [(FK x7)] 0 [(FK x6)]) = ((a3.set (Int.toNat v4) x6).map o83), [(FK x6)].length = 1, 0 + [(FK x6)].length ≤ [(FK x7)].length, (List.length (a3.map o83)) = (List.length ((a3.set (Int.toNat v4) x6).map o83)), RenOK [(1, 1)] ((a3.set (Int.toNat v4) x6).map o83)]) (by kernel_rfl) ⟨(lenM o83), c5, (rd0 hx6), (rdM o83 hx6), (rd0 hx7), (rdL o83 hx7), (rdM o83 hx7), (setM o83), rfl, (Nat.le_of_ble_eq_true rfl), (by first | exact lnSet _ | exact lnSet2 _ | simp only [List.length_map, List.length_set, List.length_cons, List.length_nil]), (rok (treeM t83)), trivial⟩ (ih (a3.set (Int.toNat v4) x6) (w64 (v4 + 1)) _ h)
    · have h := Option.some.inj h
      subst h
      exact go_ret hΘ hm hP hn (hs := [⟨2, .no, some (I (p1.length : Int))⟩, ⟨4, .br false, none⟩]) (rh := []) (ph := .own) (ps := [AV.lit (.int .i64 (((p1.map o83).length : Nat) : Int)) = (I (p1.length : Int)), (decide (v4 < (p1.length : Int))) = false, treeLL ((a3.map o83).take (List.length (a3.map o83))) = true, (a3.map o83).take (List.length (a3.map o83)) = (a3.map o83), noRoLL (a3.map o83) = true]) (by kernel_rfl) ⟨(lenM o83), c8, (treeT t83), takeM, (noRoM n83), trivial⟩
noncomputable def laws_toFloat64S (p1 : (List Nat)) : Option (List Nat) :=
  Option.bind (mk 0 (p1.length : Int)) fun l2 =>
  laws_toFloat64S_l0 p1 FU l2 0
theorem laws_toFloat64S_m {p1 : (List Nat)} {r : (List Nat)} (h : laws_toFloat64S p1 = some r) : Meets Try.prog 41 [(AV.ro 1 (p1.map o83))] (AV.own 83 1 (r.map o83)) := by
  refine meets_ofC Θ_ok Try.func41 rfl (c := body41) (by kernel_rfl) (Nat.le_of_ble_eq_true rfl) ?_
  intro E hP hn hx
  replace hn : E.n = 22 := hn
  have hm : E.P.follows .mixedOrders = true := by rw [hP]; exact mixed
  have hΘ : TOK E.P Θ := by rw [hP]; exact Θ_ok
  unfold laws_toFloat64S at h
  show WAt E body41 (FQ (RetE Θ Try.f41.results.toList [] [] (AV.own 83 1 (r.map o83)) E)) [] ⟨[(0, (AV.ro 1 (p1.map o83)))], [], [JJ]⟩
  obtain ⟨l2, hl2, h⟩ := bnS h
  exact go_to hΘ hm hx hP hn (hs := [⟨2, .no, some (I (p1.length : Int))⟩, ⟨3, .nw 1001 (l2.map o83), some (AV.sl 1001 0 (List.length (l2.map o83)))⟩]) (π := [(1001, 1)]) (ts := [0, 3, 4]) (kp := []) (ps := [AV.lit (.int .i64 (((p1.map o83).length : Nat) : Int)) = (I (p1.length : Int)), List.replicate (Int.toNat (p1.length : Int)) [.lit (.float .f64 0)] = (l2.map o83), AV.sl 1001 0 (Int.toNat (p1.length : Int)) = (AV.sl 1001 0 (List.length (l2.map o83))), (p1.length : Int) = (p1.length : Int), (0 : Int) ≤ (p1.length : Int), (p1.length : Int) * ((8 : Nat) : Int) ≤ 140737488355328, (p1.length : Int) ≤ 140737488355328, RenOK [(1001, 1)] (l2.map o83)]) (by kernel_rfl) ⟨(lenM o83), (mkM o83 hl2), (mkS o83 hl2), rfl, (mk0 hl2), (mkB hl2 (by decide)), (mkC hl2), (rok (treeM t83)), trivial⟩ (laws_toFloat64S_l0_m hP hn hx p1 FU l2 0 _ h)
noncomputable def body42 : Code := match Try.f42.body with | some c => c | none => .skip
noncomputable def laws_toIntS_l0  (p1 : (List Int)) : Nat → (List Int) → Int → Option (List Int)
  | 0, _, _ => none
  | n + 1, a3, v4 =>
  if (decide (v4 < (p1.length : Int))) = true then
    Option.bind (rd p1 v4) fun x6 =>
    Option.bind (rd a3 v4) fun x7 =>
    laws_toIntS_l0 p1 n (a3.set (Int.toNat v4) x6) (w64 (v4 + 1))
  else
    some a3
theorem laws_toIntS_l0_m {E : Env} (hP : E.P = Try.prog) (hn : E.n = 22) (hx : ∀ p, p ∈ E.fx → p.1 ∈ ([] : List Nat)) (p1 : (List Int))  : ∀ (n : Nat) (a3 : (List Int)) (v4 : Int) (r : (List Int)), laws_toIntS_l0 p1 n a3 v4 = some r → WAt E body42 (FQ (RetE Θ Try.f42.results.toList [] [] (AV.own 3 1 (r.map o3)) E)) [true, true, false, true, false] ⟨[(0, (AV.ro 1 (p1.map o3))), (3, (AV.sl 1 0 (List.length (a3.map o3)))), (4, (I v4))], [(1, some ⟨3, 1, (a3.map o3)⟩)], [1, JJ]⟩ := by
  have hm : E.P.follows .mixedOrders = true := by rw [hP]; exact mixed
  have hΘ : TOK E.P Θ := by rw [hP]; exact Θ_ok
  intro n
  induction n with
  | zero => intro a3 v4 r h; simp only [laws_toIntS_l0] at h; cases h
  | succ n ih =>
    intro a3 v4 r h
    simp only [laws_toIntS_l0] at h
    rcases itS h with ⟨c5, h⟩ | ⟨c8, h⟩
    · obtain ⟨x6, hx6, h⟩ := bnS h
      obtain ⟨x7, hx7, h⟩ := bnS h
      exact go_to hΘ hm hx hP hn (hs := [⟨2, .no, some (I (p1.length : Int))⟩, ⟨4, .br true, none⟩, ⟨9, .row (o3 x6), none⟩, ⟨12, .sto [(I x7)] ((a3.set (Int.toNat v4) x6).map o3), none⟩, ⟨16, .slen 3 (List.length ((a3.set (Int.toNat v4) x6).map o3)), none⟩]) (π := [(1, 1)]) (ts := [0, 3, 4]) (kp := []) (ps := [AV.lit (.int .i64 (((p1.map o3).length : Nat) : Int)) = (I (p1.length : Int)), (decide (v4 < (p1.length : Int))) = true, (0 : Int) ≤ v4, (p1.map o3)[(Int.toNat v4)]? = some (o3 x6), (0 : Int) ≤ v4, v4 < (((List.length (a3.map o3)) : Nat) : Int), (a3.map o3)[(Int.toNat v4)]? = some [(I x7)], (a3.map o3).set (Int.toNat v4) (wr [(I x7)] 0 [(I x6)]) = ((a3.set (Int.toNat v4) x6).map o3), [(I x6)].length = 1, 0 + [(I x6)].length ≤ [(I x7)].length, (List.length (a3.map o3)) = (List.length ((a3.set (Int.toNat v4) x6).map o3)), RenOK [(1, 1)] ((a3.set (Int.toNat v4) x6).map o3)]) (by kernel_rfl) ⟨(lenM o3), c5, (rd0 hx6), (rdM o3 hx6), (rd0 hx7), (rdL o3 hx7), (rdM o3 hx7), (setM o3), rfl, (Nat.le_of_ble_eq_true rfl), (by first | exact lnSet _ | exact lnSet2 _ | simp only [List.length_map, List.length_set, List.length_cons, List.length_nil]), (rok (treeM t3)), trivial⟩ (ih (a3.set (Int.toNat v4) x6) (w64 (v4 + 1)) _ h)
    · have h := Option.some.inj h
      subst h
      exact go_ret hΘ hm hP hn (hs := [⟨2, .no, some (I (p1.length : Int))⟩, ⟨4, .br false, none⟩]) (rh := []) (ph := .own) (ps := [AV.lit (.int .i64 (((p1.map o3).length : Nat) : Int)) = (I (p1.length : Int)), (decide (v4 < (p1.length : Int))) = false, treeLL ((a3.map o3).take (List.length (a3.map o3))) = true, (a3.map o3).take (List.length (a3.map o3)) = (a3.map o3), noRoLL (a3.map o3) = true]) (by kernel_rfl) ⟨(lenM o3), c8, (treeT t3), takeM, (noRoM n3), trivial⟩
noncomputable def laws_toIntS (p1 : (List Int)) : Option (List Int) :=
  Option.bind (mk 0 (p1.length : Int)) fun l2 =>
  laws_toIntS_l0 p1 FU l2 0
theorem laws_toIntS_m {p1 : (List Int)} {r : (List Int)} (h : laws_toIntS p1 = some r) : Meets Try.prog 42 [(AV.ro 1 (p1.map o3))] (AV.own 3 1 (r.map o3)) := by
  refine meets_ofC Θ_ok Try.func42 rfl (c := body42) (by kernel_rfl) (Nat.le_of_ble_eq_true rfl) ?_
  intro E hP hn hx
  replace hn : E.n = 22 := hn
  have hm : E.P.follows .mixedOrders = true := by rw [hP]; exact mixed
  have hΘ : TOK E.P Θ := by rw [hP]; exact Θ_ok
  unfold laws_toIntS at h
  show WAt E body42 (FQ (RetE Θ Try.f42.results.toList [] [] (AV.own 3 1 (r.map o3)) E)) [] ⟨[(0, (AV.ro 1 (p1.map o3)))], [], [JJ]⟩
  obtain ⟨l2, hl2, h⟩ := bnS h
  exact go_to hΘ hm hx hP hn (hs := [⟨2, .no, some (I (p1.length : Int))⟩, ⟨3, .nw 1001 (l2.map o3), some (AV.sl 1001 0 (List.length (l2.map o3)))⟩]) (π := [(1001, 1)]) (ts := [0, 3, 4]) (kp := []) (ps := [AV.lit (.int .i64 (((p1.map o3).length : Nat) : Int)) = (I (p1.length : Int)), List.replicate (Int.toNat (p1.length : Int)) [.lit (.int .i64 0)] = (l2.map o3), AV.sl 1001 0 (Int.toNat (p1.length : Int)) = (AV.sl 1001 0 (List.length (l2.map o3))), (p1.length : Int) = (p1.length : Int), (0 : Int) ≤ (p1.length : Int), (p1.length : Int) * ((8 : Nat) : Int) ≤ 140737488355328, (p1.length : Int) ≤ 140737488355328, RenOK [(1001, 1)] (l2.map o3)]) (by kernel_rfl) ⟨(lenM o3), (mkM o3 hl2), (mkS o3 hl2), rfl, (mk0 hl2), (mkB hl2 (by decide)), (mkC hl2), (rok (treeM t3)), trivial⟩ (laws_toIntS_l0_m hP hn hx p1 FU l2 0 _ h)
noncomputable def body73 : Code := match Try.f73.body with | some c => c | none => .skip
noncomputable def laws_toThread (p1 : GThread) : Option GThread :=
  Option.bind (laws_toFloat64S p1.Stack) fun r2 =>
  some (GThread.mk p1.Routine p1.Pc p1.State p1.Cond p1.Lock r2)
theorem laws_toThread_m {p1 : GThread} {r : GThread} (h : laws_toThread p1 = some r) : Meets Try.prog 73 [(AV.agg ((r92 p1)))] (AV.agg (o70 r)) := by
  refine meets_ofC Θ_ok Try.func73 rfl (c := body73) (by kernel_rfl) (Nat.le_of_ble_eq_true rfl) ?_
  intro E hP hn hx
  replace hn : E.n = 24 := hn
  have hm : E.P.follows .mixedOrders = true := by rw [hP]; exact mixed
  have hΘ : TOK E.P Θ := by rw [hP]; exact Θ_ok
  unfold laws_toThread at h
  show WAt E body73 (FQ (RetE Θ Try.f73.results.toList [] [] (AV.agg (o70 r)) E)) [] ⟨[(0, (AV.agg ((r92 p1))))], [], [JJ]⟩
  obtain ⟨r2, hr2, h⟩ := bnS h
  have h := Option.some.inj h
  subst h
  exact go_ret hΘ hm hP hn (hs := [⟨0, .new 1001, none⟩, ⟨1, .new 1002, none⟩, ⟨2, .new 1003, none⟩, ⟨25, .call [] (AV.own 83 1 (r2.map o83)) [1004], none⟩]) (rh := []) (ph := .agg [.raw, .raw, .raw, .raw, .raw, .own]) (ps := [Meets Try.prog 41 [(AV.ro 1 (p1.Stack.map o83))] (AV.own 83 1 (r2.map o83)), noRo (AV.own 83 1 (r2.map o83)) = true, (I p1.Routine) = (I p1.Routine), litA (I p1.Routine) = true, (I p1.Pc) = (I p1.Pc), litA (I p1.Pc) = true, (I p1.State) = (I p1.State), litA (I p1.State) = true, (I p1.Cond) = (I p1.Cond), litA (I p1.Cond) = true, (I p1.Lock) = (I p1.Lock), litA (I p1.Lock) = true, treeLL ((r2.map o83).take (List.length (r2.map o83))) = true, (r2.map o83).take (List.length (r2.map o83)) = (r2.map o83), noRoLL (r2.map o83) = true]) (by kernel_rfl) ⟨(laws_toFloat64S_m hr2), (by simp only [noRo, noRoL, noRoM n83, Bool.and_self]), rfl, rfl, rfl, rfl, rfl, rfl, rfl, rfl, rfl, rfl, (treeT t83), takeM, (noRoM n83), trivial⟩
noncomputable def body40 : Code := match Try.f40.body with | some c => c | none => .skip
noncomputable def laws_toThreadS_l0  (p1 : (List GThread)) : Nat → (List GThread) → Int → Option (List GThread)
  | 0, _, _ => none
  | n + 1, a3, v4 =>
  if (decide (v4 < (p1.length : Int))) = true then
    Option.bind (rd p1 v4) fun x6 =>
    Option.bind (laws_toThread x6) fun r7 =>
    Option.bind (rd a3 v4) fun x8 =>
    laws_toThreadS_l0 p1 n (a3.set (Int.toNat v4) (GThread.mk r7.Routine r7.Pc r7.State r7.Cond r7.Lock r7.Stack)) (w64 (v4 + 1))
  else
    some a3
theorem laws_toThreadS_l0_m {E : Env} (hP : E.P = Try.prog) (hn : E.n = 23) (hx : ∀ p, p ∈ E.fx → p.1 ∈ ([] : List Nat)) (p1 : (List GThread))  : ∀ (n : Nat) (a3 : (List GThread)) (v4 : Int) (r : (List GThread)), laws_toThreadS_l0 p1 n a3 v4 = some r → WAt E body40 (FQ (RetE Θ Try.f40.results.toList [] [] (AV.own 70 6 (r.map o70)) E)) [true, true, false, true, false] ⟨[(0, (AV.ro 6 (p1.map r92))), (3, (AV.sl 1 0 (List.length (a3.map o70)))), (4, (I v4))], [(1, some ⟨70, 6, (a3.map o70)⟩)], [1, JJ]⟩ := by
  have hm : E.P.follows .mixedOrders = true := by rw [hP]; exact mixed
  have hΘ : TOK E.P Θ := by rw [hP]; exact Θ_ok
  intro n
  induction n with
  | zero => intro a3 v4 r h; simp only [laws_toThreadS_l0] at h; cases h
  | succ n ih =>
    intro a3 v4 r h
    simp only [laws_toThreadS_l0] at h
    rcases itS h with ⟨c5, h⟩ | ⟨c9, h⟩
    · obtain ⟨x6, hx6, h⟩ := bnS h
      obtain ⟨r7, hr7, h⟩ := bnS h
      obtain ⟨x8, hx8, h⟩ := bnS h
      exact go_to hΘ hm hx hP hn (hs := [⟨2, .no, some (I (p1.length : Int))⟩, ⟨4, .br true, none⟩, ⟨9, .row (r92 x6), none⟩, ⟨11, .call [[]] (AV.agg (o70 r7)) [1001], none⟩, ⟨13, .sto ((o70 x8)) ((a3.map o70).set (Int.toNat v4) [(I r7.Routine), (I r7.Pc), (I r7.State), (I r7.Cond), (I r7.Lock), (AV.sl 1001 0 (List.length (r7.Stack.map o83)))]), none⟩, ⟨14, .pack 1 1001 (Int.toNat v4) 5 [(I r7.Routine), (I r7.Pc), (I r7.State), (I r7.Cond), (I r7.Lock), (AV.sl 1001 0 (List.length (r7.Stack.map o83)))] ((a3.set (Int.toNat v4) (GThread.mk r7.Routine r7.Pc r7.State r7.Cond r7.Lock r7.Stack)).map o70), none⟩, ⟨17, .slen 3 (List.length ((a3.set (Int.toNat v4) (GThread.mk r7.Routine r7.Pc r7.State r7.Cond r7.Lock r7.Stack)).map o70)), none⟩]) (π := [(1, 1)]) (ts := [0, 3, 4]) (kp := []) (ps := [AV.lit (.int .i64 (((p1.map r92).length : Nat) : Int)) = (I (p1.length : Int)), (decide (v4 < (p1.length : Int))) = true, (0 : Int) ≤ v4, (p1.map r92)[(Int.toNat v4)]? = some (r92 x6), Meets Try.prog 73 [(AV.agg ((r92 x6)))] (AV.agg (o70 r7)), noRo (AV.agg (o70 r7)) = true, (0 : Int) ≤ v4, v4 < (((List.length (a3.map o70)) : Nat) : Int), (a3.map o70)[(Int.toNat v4)]? = some ((o70 x8)), (a3.map o70).set (Int.toNat v4) (wr ((o70 x8)) 0 [(I r7.Routine), (I r7.Pc), (I r7.State), (I r7.Cond), (I r7.Lock), (AV.sl 1001 0 (List.length (r7.Stack.map o83)))]) = ((a3.map o70).set (Int.toNat v4) [(I r7.Routine), (I r7.Pc), (I r7.State), (I r7.Cond), (I r7.Lock), (AV.sl 1001 0 (List.length (r7.Stack.map o83)))]), [(I r7.Routine), (I r7.Pc), (I r7.State), (I r7.Cond), (I r7.Lock), (AV.sl 1001 0 (List.length (r7.Stack.map o83)))].length = 6, 0 + [(I r7.Routine), (I r7.Pc), (I r7.State), (I r7.Cond), (I r7.Lock), (AV.sl 1001 0 (List.length (r7.Stack.map o83)))].length ≤ ((o70 x8)).length, ((a3.map o70).set (Int.toNat v4) [(I r7.Routine), (I r7.Pc), (I r7.State), (I r7.Cond), (I r7.Lock), (AV.sl 1001 0 (List.length (r7.Stack.map o83)))])[(Int.toNat v4)]? = some [(I r7.Routine), (I r7.Pc), (I r7.State), (I r7.Cond), (I r7.Lock), (AV.sl 1001 0 (List.length (r7.Stack.map o83)))], [(I r7.Routine), (I r7.Pc), (I r7.State), (I r7.Cond), (I r7.Lock), (AV.sl 1001 0 (List.length (r7.Stack.map o83)))][5]? = some (AV.sl 1001 0 (List.length (r7.Stack.map o83))), treeLL (r7.Stack.map o83) = true, ((a3.map o70).set (Int.toNat v4) [(I r7.Routine), (I r7.Pc), (I r7.State), (I r7.Cond), (I r7.Lock), (AV.sl 1001 0 (List.length (r7.Stack.map o83)))]).set (Int.toNat v4) ([(I r7.Routine), (I r7.Pc), (I r7.State), (I r7.Cond), (I r7.Lock), (AV.sl 1001 0 (List.length (r7.Stack.map o83)))].set 5 (AV.own 83 1 (r7.Stack.map o83))) = ((a3.set (Int.toNat v4) (GThread.mk r7.Routine r7.Pc r7.State r7.Cond r7.Lock r7.Stack)).map o70), (List.length (a3.map o70)) = (List.length ((a3.set (Int.toNat v4) (GThread.mk r7.Routine r7.Pc r7.State r7.Cond r7.Lock r7.Stack)).map o70)), RenOK [(1, 1)] ((a3.set (Int.toNat v4) (GThread.mk r7.Routine r7.Pc r7.State r7.Cond r7.Lock r7.Stack)).map o70)]) (by kernel_rfl) ⟨(lenM r92), c5, (rd0 hx6), (rdM r92 hx6), (laws_toThread_m hr7), (by simp only [noRo, noRoL, noRoM n83, o70, Bool.and_self]), (rd0 hx8), (rdL o70 hx8), (rdM o70 hx8), rfl, rfl, (Nat.le_of_ble_eq_true rfl), (setE (rdM o70 hx8)), rfl, (treeM t83), (setP o70), (by first | exact lnSet _ | exact lnSet2 _ | simp only [List.length_map, List.length_set, List.length_cons, List.length_nil]), (rok (treeM t70)), trivial⟩ (ih (a3.set (Int.toNat v4) (GThread.mk r7.Routine r7.Pc r7.State r7.Cond r7.Lock r7.Stack)) (w64 (v4 + 1)) _ h)
    · have h := Option.some.inj h
      subst h
      exact go_ret hΘ hm hP hn (hs := [⟨2, .no, some (I (p1.length : Int))⟩, ⟨4, .br false, none⟩]) (rh := []) (ph := .own) (ps := [AV.lit (.int .i64 (((p1.map r92).length : Nat) : Int)) = (I (p1.length : Int)), (decide (v4 < (p1.length : Int))) = false, treeLL ((a3.map o70).take (List.length (a3.map o70))) = true, (a3.map o70).take (List.length (a3.map o70)) = (a3.map o70), noRoLL (a3.map o70) = true]) (by kernel_rfl) ⟨(lenM r92), c9, (treeT t70), takeM, (noRoM n70), trivial⟩
noncomputable def laws_toThreadS (p1 : (List GThread)) : Option (List GThread) :=
  Option.bind (mk (GThread.mk 0 0 0 0 0 []) (p1.length : Int)) fun l2 =>
  laws_toThreadS_l0 p1 FU l2 0
theorem laws_toThreadS_m {p1 : (List GThread)} {r : (List GThread)} (h : laws_toThreadS p1 = some r) : Meets Try.prog 40 [(AV.ro 6 (p1.map r92))] (AV.own 70 6 (r.map o70)) := by
  refine meets_ofC Θ_ok Try.func40 rfl (c := body40) (by kernel_rfl) (Nat.le_of_ble_eq_true rfl) ?_
  intro E hP hn hx
  replace hn : E.n = 23 := hn
  have hm : E.P.follows .mixedOrders = true := by rw [hP]; exact mixed
  have hΘ : TOK E.P Θ := by rw [hP]; exact Θ_ok
  unfold laws_toThreadS at h
  show WAt E body40 (FQ (RetE Θ Try.f40.results.toList [] [] (AV.own 70 6 (r.map o70)) E)) [] ⟨[(0, (AV.ro 6 (p1.map r92)))], [], [JJ]⟩
  obtain ⟨l2, hl2, h⟩ := bnS h
  exact go_to hΘ hm hx hP hn (hs := [⟨2, .no, some (I (p1.length : Int))⟩, ⟨3, .nw 1001 (List.replicate (Int.toNat (p1.length : Int)) [AV.lit (.int .i64 0), AV.lit (.int .i64 0), AV.lit (.int .i64 0), AV.lit (.int .i64 0), AV.lit (.int .i64 0), AV.lit (.slice none 0 0)]), some (AV.sl 1001 0 (List.length (l2.map o70)))⟩, ⟨4, .own0 1001 (Int.toNat (p1.length : Int)) [AV.lit (.int .i64 0), AV.lit (.int .i64 0), AV.lit (.int .i64 0), AV.lit (.int .i64 0), AV.lit (.int .i64 0)] [] 83 1 (l2.map o70), none⟩]) (π := [(1001, 1)]) (ts := [0, 3, 4]) (kp := []) (ps := [AV.lit (.int .i64 (((p1.map r92).length : Nat) : Int)) = (I (p1.length : Int)), List.replicate (Int.toNat (p1.length : Int)) [.lit (.int .i64 0), .lit (.int .i64 0), .lit (.int .i64 0), .lit (.int .i64 0), .lit (.int .i64 0), .lit (.slice none 0 0)] = (List.replicate (Int.toNat (p1.length : Int)) [AV.lit (.int .i64 0), AV.lit (.int .i64 0), AV.lit (.int .i64 0), AV.lit (.int .i64 0), AV.lit (.int .i64 0), AV.lit (.slice none 0 0)]), AV.sl 1001 0 (Int.toNat (p1.length : Int)) = (AV.sl 1001 0 (List.length (l2.map o70))), (p1.length : Int) = (p1.length : Int), (0 : Int) ≤ (p1.length : Int), (p1.length : Int) * ((64 : Nat) : Int) ≤ 140737488355328, (p1.length : Int) ≤ 140737488355328, (List.replicate (Int.toNat (p1.length : Int)) [AV.lit (.int .i64 0), AV.lit (.int .i64 0), AV.lit (.int .i64 0), AV.lit (.int .i64 0), AV.lit (.int .i64 0), AV.lit (.slice none 0 0)]) = List.replicate (Int.toNat (p1.length : Int)) ([AV.lit (.int .i64 0), AV.lit (.int .i64 0), AV.lit (.int .i64 0), AV.lit (.int .i64 0), AV.lit (.int .i64 0)] ++ AV.lit (.slice none 0 0) :: []), List.replicate (Int.toNat (p1.length : Int)) ([AV.lit (.int .i64 0), AV.lit (.int .i64 0), AV.lit (.int .i64 0), AV.lit (.int .i64 0), AV.lit (.int .i64 0)] ++ AV.own 83 1 [] :: []) = (l2.map o70), RenOK [(1001, 1)] (l2.map o70)]) (by kernel_rfl) ⟨(lenM r92), rfl, (mkS o70 hl2), rfl, (mk0 hl2), (mkB hl2 (by decide)), (mkC hl2), rfl, (mkM o70 hl2), (rok (treeM t70)), trivial⟩ (laws_toThreadS_l0_m hP hn hx p1 FU l2 0 _ h)
noncomputable def body12 : Code := match Try.f12.body with | some c => c | none => .skip
noncomputable def laws_toState (p1 : GState) : Option GState :=
  Option.bind (laws_toThreadS p1.Threads) fun r2 =>
  Option.bind (laws_toFloat64S p1.Cells) fun r3 =>
  Option.bind (laws_toIntS p1.Owner) fun r4 =>
  some (GState.mk r2 r3 r4 p1.Fault)
theorem laws_toState_m {p1 : GState} {r : GState} (h : laws_toState p1 = some r) : Meets Try.prog 12 [(AV.agg ((r29 p1)))] (AV.agg (o39 r)) := by
  refine meets_ofC Θ_ok Try.func12 rfl (c := body12) (by kernel_rfl) (Nat.le_of_ble_eq_true rfl) ?_
  intro E hP hn hx
  replace hn : E.n = 20 := hn
  have hm : E.P.follows .mixedOrders = true := by rw [hP]; exact mixed
  have hΘ : TOK E.P Θ := by rw [hP]; exact Θ_ok
  unfold laws_toState at h
  show WAt E body12 (FQ (RetE Θ Try.f12.results.toList [] [] (AV.agg (o39 r)) E)) [] ⟨[(0, (AV.agg ((r29 p1))))], [], [JJ]⟩
  obtain ⟨r2, hr2, h⟩ := bnS h
  obtain ⟨r3, hr3, h⟩ := bnS h
  obtain ⟨r4, hr4, h⟩ := bnS h
  have h := Option.some.inj h
  subst h
  exact go_ret hΘ hm hP hn (hs := [⟨0, .new 1001, none⟩, ⟨1, .new 1002, none⟩, ⟨2, .new 1003, none⟩, ⟨5, .call [] (AV.own 70 6 (r2.map o70)) [1004], none⟩, ⟨10, .call [] (AV.own 83 1 (r3.map o83)) [1005], none⟩, ⟨15, .call [] (AV.own 3 1 (r4.map o3)) [1006], none⟩]) (rh := []) (ph := .agg [.own, .own, .own, .raw]) (ps := [Meets Try.prog 40 [(AV.ro 6 (p1.Threads.map r92))] (AV.own 70 6 (r2.map o70)), noRo (AV.own 70 6 (r2.map o70)) = true, Meets Try.prog 41 [(AV.ro 1 (p1.Cells.map o83))] (AV.own 83 1 (r3.map o83)), noRo (AV.own 83 1 (r3.map o83)) = true, Meets Try.prog 42 [(AV.ro 1 (p1.Owner.map o3))] (AV.own 3 1 (r4.map o3)), noRo (AV.own 3 1 (r4.map o3)) = true, treeLL ((r2.map o70).take (List.length (r2.map o70))) = true, (r2.map o70).take (List.length (r2.map o70)) = (r2.map o70), noRoLL (r2.map o70) = true, treeLL ((r3.map o83).take (List.length (r3.map o83))) = true, (r3.map o83).take (List.length (r3.map o83)) = (r3.map o83), noRoLL (r3.map o83) = true, treeLL ((r4.map o3).take (List.length (r4.map o3))) = true, (r4.map o3).take (List.length (r4.map o3)) = (r4.map o3), noRoLL (r4.map o3) = true, (I p1.Fault) = (I p1.Fault), litA (I p1.Fault) = true]) (by kernel_rfl) ⟨(laws_toThreadS_m hr2), (by simp only [noRo, noRoL, noRoM n70, Bool.and_self]), (laws_toFloat64S_m hr3), (by simp only [noRo, noRoL, noRoM n83, Bool.and_self]), (laws_toIntS_m hr4), (by simp only [noRo, noRoL, noRoM n3, Bool.and_self]), (treeT t70), takeM, (noRoM n70), (treeT t83), takeM, (noRoM n83), (treeT t3), takeM, (noRoM n3), rfl, rfl, trivial⟩
noncomputable def body68 : Code := match Try.f68.body with | some c => c | none => .skip
noncomputable def spec_l1In (p1 : Int) (p2 : Int) (p3 : Int) : Option Bool :=
  if (decide (p1 ≥ p2)) = true then
    some (decide (p1 ≤ p3))
  else
    some false
theorem spec_l1In_m {p1 : Int} {p2 : Int} {p3 : Int} {r : Bool} (h : spec_l1In p1 p2 p3 = some r) : Meets Try.prog 68 [(I p1), (I p2), (I p3)] (B r) := by
  refine meets_ofC Θ_ok Try.func68 rfl (c := body68) (by kernel_rfl) (Nat.le_of_ble_eq_true rfl) ?_
  intro E hP hn hx
  replace hn : E.n = 15 := hn
  have hm : E.P.follows .mixedOrders = true := by rw [hP]; exact mixed
  have hΘ : TOK E.P Θ := by rw [hP]; exact Θ_ok
  unfold spec_l1In at h
  show WAt E body68 (FQ (RetE Θ Try.f68.results.toList [] [] (B r) E)) [] ⟨[(0, (I p1)), (1, (I p2)), (2, (I p3))], [], [JJ]⟩
  rcases itS h with ⟨c4, h⟩ | ⟨c5, h⟩
  · have h := Option.some.inj h
    subst h
    exact go_ret hΘ hm hP hn (hs := [⟨4, .no, some (B true)⟩]) (rh := []) (ph := .raw) (ps := [(B (decide (p1 ≥ p2))) = (B true), (B (decide (p1 ≤ p3))) = (B (decide (p1 ≤ p3))), litA (B (decide (p1 ≤ p3))) = true]) (by kernel_rfl) ⟨(litB c4), rfl, rfl, trivial⟩
  · have h := Option.some.inj h
    subst h
    exact go_ret hΘ hm hP hn (hs := [⟨4, .no, some (B false)⟩]) (rh := []) (ph := .raw) (ps := [(B (decide (p1 ≥ p2))) = (B false), (B false) = (B false), litA (B false) = true]) (by kernel_rfl) ⟨(litB c5), rfl, rfl, trivial⟩
noncomputable def body117 : Code := match Try.f117.body with | some c => c | none => .skip
noncomputable def spec_IsMinus (p1 : Nat) : Option Bool :=
  if ((fcmp p1 0) == some .lt) = true then
    some true
  else
    if ((fcmp p1 0) == some .eq) = true then
      Option.bind (fdv 4607182418800017408 p1) fun x5 =>
      some ((fcmp x5 0) == some .lt)
    else
      some false
theorem spec_IsMinus_m {p1 : Nat} {r : Bool} (h : spec_IsMinus p1 = some r) : Meets Try.prog 117 [(FK p1)] (B r) := by
  refine meets_ofC Θ_ok Try.func117 rfl (c := body117) (by kernel_rfl) (Nat.le_of_ble_eq_true rfl) ?_
  intro E hP hn hx
  replace hn : E.n = 14 := hn
  have hm : E.P.follows .mixedOrders = true := by rw [hP]; exact mixed
  have hΘ : TOK E.P Θ := by rw [hP]; exact Θ_ok
  unfold spec_IsMinus at h
  show WAt E body117 (FQ (RetE Θ Try.f117.results.toList [] [] (B r) E)) [] ⟨[(0, (FK p1))], [], [JJ]⟩
  rcases itS h with ⟨c2, h⟩ | ⟨c3, h⟩
  · have h := Option.some.inj h
    subst h
    exact go_ret hΘ hm hP hn (hs := [⟨2, .bin (B ((fcmp p1 0) == some .lt)), none⟩, ⟨3, .no, some (B true)⟩]) (rh := []) (ph := .raw) (ps := [BinS Try.prog .lss 83 (FK p1) (FK 0) (B ((fcmp p1 0) == some .lt)), (B ((fcmp p1 0) == some .lt)) = (B true), (B true) = (B true), litA (B true) = true]) (by kernel_rfl) ⟨fLss, (litB c2), rfl, rfl, trivial⟩
  · rcases itS h with ⟨c4, h⟩ | ⟨c6, h⟩
    · obtain ⟨x5, hx5, h⟩ := bnS h
      have h := Option.some.inj h
      subst h
      exact go_ret hΘ hm hP hn (hs := [⟨2, .bin (B ((fcmp p1 0) == some .lt)), none⟩, ⟨3, .no, some (B false)⟩, ⟨5, .bin (B ((fcmp p1 0) == some .eq)), none⟩, ⟨6, .no, some (B true)⟩, ⟨8, .bin (FK x5), none⟩, ⟨9, .bin (B ((fcmp x5 0) == some .lt)), none⟩]) (rh := []) (ph := .raw) (ps := [BinS Try.prog .lss 83 (FK p1) (FK 0) (B ((fcmp p1 0) == some .lt)), (B ((fcmp p1 0) == some .lt)) = (B false), BinS Try.prog .eql 83 (FK p1) (FK 0) (B ((fcmp p1 0) == some .eq)), (B ((fcmp p1 0) == some .eq)) = (B true), BinS Try.prog .quo 83 (FK 4607182418800017408) (FK p1) (FK x5), BinS Try.prog .lss 83 (FK x5) (FK 0) (B ((fcmp x5 0) == some .lt)), (B ((fcmp x5 0) == some .lt)) = (B ((fcmp x5 0) == some .lt)), litA (B ((fcmp x5 0) == some .lt)) = true]) (by kernel_rfl) ⟨fLss, (litB c3), fEql, (litB c4), (fQuo hx5), fLss, rfl, rfl, trivial⟩
    · have h := Option.some.inj h
      subst h
      exact go_ret hΘ hm hP hn (hs := [⟨2, .bin (B ((fcmp p1 0) == some .lt)), none⟩, ⟨3, .no, some (B false)⟩, ⟨5, .bin (B ((fcmp p1 0) == some .eq)), none⟩, ⟨6, .no, some (B false)⟩]) (rh := []) (ph := .raw) (ps := [BinS Try.prog .lss 83 (FK p1) (FK 0) (B ((fcmp p1 0) == some .lt)), (B ((fcmp p1 0) == some .lt)) = (B false), BinS Try.prog .eql 83 (FK p1) (FK 0) (B ((fcmp p1 0) == some .eq)), (B ((fcmp p1 0) == some .eq)) = (B false), (B false) = (B false), litA (B false) = true]) (by kernel_rfl) ⟨fLss, (litB c3), fEql, (litB c6), rfl, rfl, trivial⟩
noncomputable def body116 : Code := match Try.f116.body with | some c => c | none => .skip
noncomputable def spec_l1Nan (p1 : Nat) : Option Bool :=
  some ((fcmp p1 p1) != some .eq)
theorem spec_l1Nan_m {p1 : Nat} {r : Bool} (h : spec_l1Nan p1 = some r) : Meets Try.prog 116 [(FK p1)] (B r) := by
  refine meets_ofC Θ_ok Try.func116 rfl (c := body116) (by kernel_rfl) (Nat.le_of_ble_eq_true rfl) ?_
  intro E hP hn hx
  replace hn : E.n = 6 := hn
  have hm : E.P.follows .mixedOrders = true := by rw [hP]; exact mixed
  have hΘ : TOK E.P Θ := by rw [hP]; exact Θ_ok
  unfold spec_l1Nan at h
  show WAt E body116 (FQ (RetE Θ Try.f116.results.toList [] [] (B r) E)) [] ⟨[(0, (FK p1))], [], [JJ]⟩
  have h := Option.some.inj h
  subst h
  exact go_ret hΘ hm hP hn (hs := [⟨3, .bin (B ((fcmp p1 p1) != some .eq)), none⟩]) (rh := []) (ph := .raw) (ps := [BinS Try.prog .neq 83 (FK p1) (FK p1) (B ((fcmp p1 p1) != some .eq)), (B ((fcmp p1 p1) != some .eq)) = (B ((fcmp p1 p1) != some .eq)), litA (B ((fcmp p1 p1) != some .eq)) = true]) (by kernel_rfl) ⟨fNeq, rfl, rfl, trivial⟩
noncomputable def body101 : Code := match Try.f101.body with | some c => c | none => .skip
noncomputable def spec_l1SameNum_j0  (p1 : Nat) (p2 : Nat)  : Option Bool :=
  if ((fcmp p1 p2) == some .eq) = true then
    Option.bind (spec_IsMinus p1) fun r18 =>
    Option.bind (spec_IsMinus p2) fun r19 =>
    some (r18 == r19)
  else
    some false
theorem spec_l1SameNum_j0_m {E : Env} (hP : E.P = Try.prog) (hn : E.n = 27) (hx : ∀ p, p ∈ E.fx → p.1 ∈ ([] : List Nat)) (p1 : Nat) (p2 : Nat)   (r : Bool) (h : spec_l1SameNum_j0 p1 p2  = some r) : WAt E body101 (FQ (RetE Θ Try.f101.results.toList [] [] (B r) E)) [true, false, true, true] ⟨[(0, (FK p1)), (1, (FK p2))], [], [JJ]⟩ := by
  have hm : E.P.follows .mixedOrders = true := by rw [hP]; exact mixed
  have hΘ : TOK E.P Θ := by rw [hP]; exact Θ_ok
  unfold spec_l1SameNum_j0 at h
  rcases itS h with ⟨c17, h⟩ | ⟨c20, h⟩
  · obtain ⟨r18, hr18, h⟩ := bnS h
    obtain ⟨r19, hr19, h⟩ := bnS h
    have h := Option.some.inj h
    subst h
    exact go_ret hΘ hm hP hn (hs := [⟨2, .bin (B ((fcmp p1 p2) == some .eq)), none⟩, ⟨3, .no, some (B true)⟩, ⟨5, .callV [] (B r18), none⟩, ⟨7, .callV [] (B r19), none⟩]) (rh := []) (ph := .raw) (ps := [BinS Try.prog .eql 83 (FK p1) (FK p2) (B ((fcmp p1 p2) == some .eq)), (B ((fcmp p1 p2) == some .eq)) = (B true), Meets Try.prog 117 [(FK p1)] (B r18), litA (B r18) = true, Meets Try.prog 117 [(FK p2)] (B r19), litA (B r19) = true, (B (r18 == r19)) = (B (r18 == r19)), litA (B (r18 == r19)) = true]) (by kernel_rfl) ⟨fEql, (litB c17), (spec_IsMinus_m hr18), rfl, (spec_IsMinus_m hr19), rfl, rfl, rfl, trivial⟩
  · have h := Option.some.inj h
    subst h
    exact go_ret hΘ hm hP hn (hs := [⟨2, .bin (B ((fcmp p1 p2) == some .eq)), none⟩, ⟨3, .no, some (B false)⟩]) (rh := []) (ph := .raw) (ps := [BinS Try.prog .eql 83 (FK p1) (FK p2) (B ((fcmp p1 p2) == some .eq)), (B ((fcmp p1 p2) == some .eq)) = (B false), (B false) = (B false), litA (B false) = true]) (by kernel_rfl) ⟨fEql, (litB c20), rfl, rfl, trivial⟩
noncomputable def spec_l1SameNum (p1 : Nat) (p2 : Nat) : Option Bool :=
  Option.bind (spec_l1Nan p1) fun r3 =>
  if r3 = true then
    Option.bind (spec_l1Nan p1) fun r5 =>
    if r5 = true then
      Option.bind (spec_l1Nan p2) fun r7 =>
      some r7
    else
      some false
  else
    Option.bind (spec_l1Nan p2) fun r10 =>
    if r10 = true then
      Option.bind (spec_l1Nan p1) fun r12 =>
      if r12 = true then
        Option.bind (spec_l1Nan p2) fun r14 =>
        some r14
      else
        some false
    else
      spec_l1SameNum_j0 p1 p2
theorem spec_l1SameNum_m {p1 : Nat} {p2 : Nat} {r : Bool} (h : spec_l1SameNum p1 p2 = some r) : Meets Try.prog 101 [(FK p1), (FK p2)] (B r) := by
  refine meets_ofC Θ_ok Try.func101 rfl (c := body101) (by kernel_rfl) (Nat.le_of_ble_eq_true rfl) ?_
  intro E hP hn hx
  replace hn : E.n = 27 := hn
  have hm : E.P.follows .mixedOrders = true := by rw [hP]; exact mixed
  have hΘ : TOK E.P Θ := by rw [hP]; exact Θ_ok
  unfold spec_l1SameNum at h
  show WAt E body101 (FQ (RetE Θ Try.f101.results.toList [] [] (B r) E)) [] ⟨[(0, (FK p1)), (1, (FK p2))], [], [JJ]⟩
  obtain ⟨r3, hr3, h⟩ := bnS h
  rcases itS h with ⟨c4, h⟩ | ⟨c9, h⟩
  · obtain ⟨r5, hr5, h⟩ := bnS h
    rcases itS h with ⟨c6, h⟩ | ⟨c8, h⟩
    · obtain ⟨r7, hr7, h⟩ := bnS h
      have h := Option.some.inj h
      subst h
      exact go_ret hΘ hm hP hn (hs := [⟨2, .callV [] (B r3), none⟩, ⟨3, .no, some (B true)⟩, ⟨9, .callV [] (B r5), none⟩, ⟨10, .no, some (B true)⟩, ⟨12, .callV [] (B r7), none⟩]) (rh := []) (ph := .raw) (ps := [Meets Try.prog 116 [(FK p1)] (B r3), litA (B r3) = true, (B r3) = (B true), Meets Try.prog 116 [(FK p1)] (B r5), litA (B r5) = true, (B r5) = (B true), Meets Try.prog 116 [(FK p2)] (B r7), litA (B r7) = true, (B r7) = (B r7), litA (B r7) = true]) (by kernel_rfl) ⟨(spec_l1Nan_m hr3), rfl, (litB c4), (spec_l1Nan_m hr5), rfl, (litB c6), (spec_l1Nan_m hr7), rfl, rfl, rfl, trivial⟩
    · have h := Option.some.inj h
      subst h
      exact go_ret hΘ hm hP hn (hs := [⟨2, .callV [] (B r3), none⟩, ⟨3, .no, some (B true)⟩, ⟨9, .callV [] (B r5), none⟩, ⟨10, .no, some (B false)⟩]) (rh := []) (ph := .raw) (ps := [Meets Try.prog 116 [(FK p1)] (B r3), litA (B r3) = true, (B r3) = (B true), Meets Try.prog 116 [(FK p1)] (B r5), litA (B r5) = true, (B r5) = (B false), (B false) = (B false), litA (B false) = true]) (by kernel_rfl) ⟨(spec_l1Nan_m hr3), rfl, (litB c4), (spec_l1Nan_m hr5), rfl, (litB c8), rfl, rfl, trivial⟩
  · obtain ⟨r10, hr10, h⟩ := bnS h
    rcases itS h with ⟨c11, h⟩ | ⟨c16, h⟩
    · obtain ⟨r12, hr12, h⟩ := bnS h
      rcases itS h with ⟨c13, h⟩ | ⟨c15, h⟩
      · obtain ⟨r14, hr14, h⟩ := bnS h
        have h := Option.some.inj h
        subst h
        exact go_ret hΘ hm hP hn (hs := [⟨2, .callV [] (B r3), none⟩, ⟨3, .no, some (B false)⟩, ⟨5, .callV [] (B r10), none⟩, ⟨7, .br true, none⟩, ⟨9, .callV [] (B r12), none⟩, ⟨10, .no, some (B true)⟩, ⟨12, .callV [] (B r14), none⟩]) (rh := []) (ph := .raw) (ps := [Meets Try.prog 116 [(FK p1)] (B r3), litA (B r3) = true, (B r3) = (B false), Meets Try.prog 116 [(FK p2)] (B r10), litA (B r10) = true, r10 = true, Meets Try.prog 116 [(FK p1)] (B r12), litA (B r12) = true, (B r12) = (B true), Meets Try.prog 116 [(FK p2)] (B r14), litA (B r14) = true, (B r14) = (B r14), litA (B r14) = true]) (by kernel_rfl) ⟨(spec_l1Nan_m hr3), rfl, (litB c9), (spec_l1Nan_m hr10), rfl, c11, (spec_l1Nan_m hr12), rfl, (litB c13), (spec_l1Nan_m hr14), rfl, rfl, rfl, trivial⟩
      · have h := Option.some.inj h
        subst h
        exact go_ret hΘ hm hP hn (hs := [⟨2, .callV [] (B r3), none⟩, ⟨3, .no, some (B false)⟩, ⟨5, .callV [] (B r10), none⟩, ⟨7, .br true, none⟩, ⟨9, .callV [] (B r12), none⟩, ⟨10, .no, some (B false)⟩]) (rh := []) (ph := .raw) (ps := [Meets Try.prog 116 [(FK p1)] (B r3), litA (B r3) = true, (B r3) = (B false), Meets Try.prog 116 [(FK p2)] (B r10), litA (B r10) = true, r10 = true, Meets Try.prog 116 [(FK p1)] (B r12), litA (B r12) = true, (B r12) = (B false), (B false) = (B false), litA (B false) = true]) (by kernel_rfl) ⟨(spec_l1Nan_m hr3), rfl, (litB c9), (spec_l1Nan_m hr10), rfl, c11, (spec_l1Nan_m hr12), rfl, (litB c15), rfl, rfl, trivial⟩
    · exact go_to hΘ hm hx hP hn (hs := [⟨2, .callV [] (B r3), none⟩, ⟨3, .no, some (B false)⟩, ⟨5, .callV [] (B r10), none⟩, ⟨7, .br false, none⟩]) (π := []) (ts := [0, 1]) (kp := []) (ps := [Meets Try.prog 116 [(FK p1)] (B r3), litA (B r3) = true, (B r3) = (B false), Meets Try.prog 116 [(FK p2)] (B r10), litA (B r10) = true, r10 = false]) (by kernel_rfl) ⟨(spec_l1Nan_m hr3), rfl, (litB c9), (spec_l1Nan_m hr10), rfl, c16, trivial⟩ (spec_l1SameNum_j0_m hP hn hx p1 p2  _ h)
end Go.Proofs.Ytgofeoobgpadiaa
