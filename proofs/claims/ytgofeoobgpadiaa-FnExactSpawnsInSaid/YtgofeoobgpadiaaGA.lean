/- Functions as plain data, and that the code comes to them; no condition. -/

import Derived.Test.YtgofeoobgpadiaaGT
import Derived.Test.YtgofeoobgpadiaaSA
import Derived.Ground.SlgmProg
set_option linter.unusedVariables false
set_option maxRecDepth 100000
namespace Go.Proofs.Ytgofeoobgpadiaa
open Go Go.T
noncomputable def body44 : Code := match Try.f44.body with | some c => c | none => .skip
noncomputable def impl_in (p1 : Int) (p2 : Int) (p3 : Int) : Option Bool :=
  if (decide (p2 ≤ p1)) = true then
    some (decide (p1 ≤ p3))
  else
    some false
theorem impl_in_m {p1 : Int} {p2 : Int} {p3 : Int} {r : Bool} (h : impl_in p1 p2 p3 = some r) : Meets Try.prog 44 [(I p1), (I p2), (I p3)] (B r) := by
  refine meets_ofC Θ_ok Try.func44 rfl (c := body44) (by kernel_rfl) (Nat.le_of_ble_eq_true rfl) ?_
  intro E hP hn hx
  replace hn : E.n = 15 := hn
  have hm : E.P.follows .mixedOrders = true := by rw [hP]; exact mixed
  have hΘ : TOK E.P Θ := by rw [hP]; exact Θ_ok
  unfold impl_in at h
  show WAt E body44 (FQ (RetE Θ Try.f44.results.toList [] [] (B r) E)) [] ⟨[(0, (I p1)), (1, (I p2)), (2, (I p3))], [], [JJ]⟩
  rcases itS h with ⟨c4, h⟩ | ⟨c5, h⟩
  · have h := Option.some.inj h
    subst h
    exact go_ret hΘ hm hP hn (hs := [⟨4, .no, some (B true)⟩]) (rh := []) (ph := .raw) (ps := [(B (decide (p2 ≤ p1))) = (B true), (B (decide (p1 ≤ p3))) = (B (decide (p1 ≤ p3))), litA (B (decide (p1 ≤ p3))) = true]) (by kernel_rfl) ⟨(litB c4), rfl, rfl, trivial⟩
  · have h := Option.some.inj h
    subst h
    exact go_ret hΘ hm hP hn (hs := [⟨4, .no, some (B false)⟩]) (rh := []) (ph := .raw) (ps := [(B (decide (p2 ≤ p1))) = (B false), (B false) = (B false), litA (B false) = true]) (by kernel_rfl) ⟨(litB c5), rfl, rfl, trivial⟩
noncomputable def body102 : Code := match Try.f102.body with | some c => c | none => .skip
noncomputable def impl_Op_names_j0  (p1 : GOp) (v3 : Bool) : Option Int :=
  if v3 = true then
    some 1
  else
    if (p1.Code == 16) = true then
      some 2
    else
      some 0
theorem impl_Op_names_j0_m {E : Env} (hP : E.P = Try.prog) (hn : E.n = 16) (hx : ∀ p, p ∈ E.fx → p.1 ∈ ([] : List Nat)) (p1 : GOp)  (v3 : Bool) (r : Int) (h : impl_Op_names_j0 p1 v3 = some r) : WAt E body102 (FQ (RetE Θ Try.f102.results.toList [] [] (I r) E)) [true, false, true, false, true] ⟨[(4, (I p1.Code)), (5, (B v3))], [], [JJ]⟩ := by
  have hm : E.P.follows .mixedOrders = true := by rw [hP]; exact mixed
  have hΘ : TOK E.P Θ := by rw [hP]; exact Θ_ok
  unfold impl_Op_names_j0 at h
  rcases itS h with ⟨c4, h⟩ | ⟨c5, h⟩
  · have h := Option.some.inj h
    subst h
    exact go_ret hΘ hm hP hn (hs := [⟨0, .br true, none⟩]) (rh := []) (ph := .raw) (ps := [v3 = true, (I 1) = (I 1), litA (I 1) = true]) (by kernel_rfl) ⟨c4, rfl, rfl, trivial⟩
  · rcases itS h with ⟨c6, h⟩ | ⟨c7, h⟩
    · have h := Option.some.inj h
      subst h
      exact go_ret hΘ hm hP hn (hs := [⟨0, .br false, none⟩, ⟨3, .br true, none⟩]) (rh := []) (ph := .raw) (ps := [v3 = false, (p1.Code == 16) = true, (I 2) = (I 2), litA (I 2) = true]) (by kernel_rfl) ⟨c5, c6, rfl, rfl, trivial⟩
    · have h := Option.some.inj h
      subst h
      exact go_ret hΘ hm hP hn (hs := [⟨0, .br false, none⟩, ⟨3, .br false, none⟩]) (rh := []) (ph := .raw) (ps := [v3 = false, (p1.Code == 16) = false, (I 0) = (I 0), litA (I 0) = true]) (by kernel_rfl) ⟨c5, c7, rfl, rfl, trivial⟩
noncomputable def impl_Op_names (p1 : GOp) : Option Int :=
  if (p1.Code == 2) = true then
    impl_Op_names_j0 p1 (p1.Code == 2)
  else
    if (p1.Code == 3) = true then
      impl_Op_names_j0 p1 (p1.Code == 3)
    else
      if (p1.Code == 10) = true then
        impl_Op_names_j0 p1 (p1.Code == 10)
      else
        if (p1.Code == 11) = true then
          impl_Op_names_j0 p1 (p1.Code == 11)
        else
          if (p1.Code == 12) = true then
            impl_Op_names_j0 p1 (p1.Code == 12)
          else
            if (p1.Code == 13) = true then
              impl_Op_names_j0 p1 (p1.Code == 13)
            else
              if (p1.Code == 14) = true then
                impl_Op_names_j0 p1 (p1.Code == 14)
              else
                impl_Op_names_j0 p1 (p1.Code == 17)
theorem impl_Op_names_m {p1 : GOp} {r : Int} (h : impl_Op_names p1 = some r) : Meets Try.prog 102 [(AV.agg ((o85 p1)))] (I r) := by
  refine meets_ofC Θ_ok Try.func102 rfl (c := body102) (by kernel_rfl) (Nat.le_of_ble_eq_true rfl) ?_
  intro E hP hn hx
  replace hn : E.n = 16 := hn
  have hm : E.P.follows .mixedOrders = true := by rw [hP]; exact mixed
  have hΘ : TOK E.P Θ := by rw [hP]; exact Θ_ok
  unfold impl_Op_names at h
  show WAt E body102 (FQ (RetE Θ Try.f102.results.toList [] [] (I r) E)) [] ⟨[(0, (AV.agg ((o85 p1))))], [], [JJ]⟩
  rcases itS h with ⟨c2, h⟩ | ⟨c8, h⟩
  · exact go_to hΘ hm hx hP hn (hs := [⟨0, .new 1001, none⟩, ⟨6, .br true, none⟩]) (π := []) (ts := [4, 5]) (kp := []) (ps := [(p1.Code == 2) = true]) (by kernel_rfl) ⟨c2, trivial⟩ (impl_Op_names_j0_m hP hn hx p1 (p1.Code == 2) _ h)
  · rcases itS h with ⟨c9, h⟩ | ⟨c10, h⟩
    · exact go_to hΘ hm hx hP hn (hs := [⟨0, .new 1001, none⟩, ⟨6, .br false, none⟩, ⟨9, .br true, none⟩]) (π := []) (ts := [4, 5]) (kp := []) (ps := [(p1.Code == 2) = false, (p1.Code == 3) = true]) (by kernel_rfl) ⟨c8, c9, trivial⟩ (impl_Op_names_j0_m hP hn hx p1 (p1.Code == 3) _ h)
    · rcases itS h with ⟨c11, h⟩ | ⟨c12, h⟩
      · exact go_to hΘ hm hx hP hn (hs := [⟨0, .new 1001, none⟩, ⟨6, .br false, none⟩, ⟨9, .br false, none⟩, ⟨12, .br true, none⟩]) (π := []) (ts := [4, 5]) (kp := []) (ps := [(p1.Code == 2) = false, (p1.Code == 3) = false, (p1.Code == 10) = true]) (by kernel_rfl) ⟨c8, c10, c11, trivial⟩ (impl_Op_names_j0_m hP hn hx p1 (p1.Code == 10) _ h)
      · rcases itS h with ⟨c13, h⟩ | ⟨c14, h⟩
        · exact go_to hΘ hm hx hP hn (hs := [⟨0, .new 1001, none⟩, ⟨6, .br false, none⟩, ⟨9, .br false, none⟩, ⟨12, .br false, none⟩, ⟨15, .br true, none⟩]) (π := []) (ts := [4, 5]) (kp := []) (ps := [(p1.Code == 2) = false, (p1.Code == 3) = false, (p1.Code == 10) = false, (p1.Code == 11) = true]) (by kernel_rfl) ⟨c8, c10, c12, c13, trivial⟩ (impl_Op_names_j0_m hP hn hx p1 (p1.Code == 11) _ h)
        · rcases itS h with ⟨c15, h⟩ | ⟨c16, h⟩
          · exact go_to hΘ hm hx hP hn (hs := [⟨0, .new 1001, none⟩, ⟨6, .br false, none⟩, ⟨9, .br false, none⟩, ⟨12, .br false, none⟩, ⟨15, .br false, none⟩, ⟨18, .br true, none⟩]) (π := []) (ts := [4, 5]) (kp := []) (ps := [(p1.Code == 2) = false, (p1.Code == 3) = false, (p1.Code == 10) = false, (p1.Code == 11) = false, (p1.Code == 12) = true]) (by kernel_rfl) ⟨c8, c10, c12, c14, c15, trivial⟩ (impl_Op_names_j0_m hP hn hx p1 (p1.Code == 12) _ h)
          · rcases itS h with ⟨c17, h⟩ | ⟨c18, h⟩
            · exact go_to hΘ hm hx hP hn (hs := [⟨0, .new 1001, none⟩, ⟨6, .br false, none⟩, ⟨9, .br false, none⟩, ⟨12, .br false, none⟩, ⟨15, .br false, none⟩, ⟨18, .br false, none⟩, ⟨21, .br true, none⟩]) (π := []) (ts := [4, 5]) (kp := []) (ps := [(p1.Code == 2) = false, (p1.Code == 3) = false, (p1.Code == 10) = false, (p1.Code == 11) = false, (p1.Code == 12) = false, (p1.Code == 13) = true]) (by kernel_rfl) ⟨c8, c10, c12, c14, c16, c17, trivial⟩ (impl_Op_names_j0_m hP hn hx p1 (p1.Code == 13) _ h)
            · rcases itS h with ⟨c19, h⟩ | ⟨c20, h⟩
              · exact go_to hΘ hm hx hP hn (hs := [⟨0, .new 1001, none⟩, ⟨6, .br false, none⟩, ⟨9, .br false, none⟩, ⟨12, .br false, none⟩, ⟨15, .br false, none⟩, ⟨18, .br false, none⟩, ⟨21, .br false, none⟩, ⟨24, .br true, none⟩]) (π := []) (ts := [4, 5]) (kp := []) (ps := [(p1.Code == 2) = false, (p1.Code == 3) = false, (p1.Code == 10) = false, (p1.Code == 11) = false, (p1.Code == 12) = false, (p1.Code == 13) = false, (p1.Code == 14) = true]) (by kernel_rfl) ⟨c8, c10, c12, c14, c16, c18, c19, trivial⟩ (impl_Op_names_j0_m hP hn hx p1 (p1.Code == 14) _ h)
              · exact go_to hΘ hm hx hP hn (hs := [⟨0, .new 1001, none⟩, ⟨6, .br false, none⟩, ⟨9, .br false, none⟩, ⟨12, .br false, none⟩, ⟨15, .br false, none⟩, ⟨18, .br false, none⟩, ⟨21, .br false, none⟩, ⟨24, .br false, none⟩]) (π := []) (ts := [4, 5]) (kp := []) (ps := [(p1.Code == 2) = false, (p1.Code == 3) = false, (p1.Code == 10) = false, (p1.Code == 11) = false, (p1.Code == 12) = false, (p1.Code == 13) = false, (p1.Code == 14) = false]) (by kernel_rfl) ⟨c8, c10, c12, c14, c16, c18, c20, trivial⟩ (impl_Op_names_j0_m hP hn hx p1 (p1.Code == 17) _ h)
noncomputable def body118 : Code := match Try.f118.body with | some c => c | none => .skip
noncomputable def math_IsNaN (p1 : Nat) : Option Bool :=
  some ((fcmp p1 p1) != some .eq)
theorem math_IsNaN_m {p1 : Nat} {r : Bool} (h : math_IsNaN p1 = some r) : Meets Try.prog 118 [(FK p1)] (B r) := by
  refine meets_ofC Θ_ok Try.func118 rfl (c := body118) (by kernel_rfl) (Nat.le_of_ble_eq_true rfl) ?_
  intro E hP hn hx
  replace hn : E.n = 6 := hn
  have hm : E.P.follows .mixedOrders = true := by rw [hP]; exact mixed
  have hΘ : TOK E.P Θ := by rw [hP]; exact Θ_ok
  unfold math_IsNaN at h
  show WAt E body118 (FQ (RetE Θ Try.f118.results.toList [] [] (B r) E)) [] ⟨[(0, (FK p1))], [], [JJ]⟩
  have h := Option.some.inj h
  subst h
  exact go_ret hΘ hm hP hn (hs := [⟨3, .bin (B ((fcmp p1 p1) != some .eq)), none⟩]) (rh := []) (ph := .raw) (ps := [BinS Try.prog .neq 83 (FK p1) (FK p1) (B ((fcmp p1 p1) != some .eq)), (B ((fcmp p1 p1) != some .eq)) = (B ((fcmp p1 p1) != some .eq)), litA (B ((fcmp p1 p1) != some .eq)) = true]) (by kernel_rfl) ⟨fNeq, rfl, rfl, trivial⟩
noncomputable def body103 : Code := match Try.f103.body with | some c => c | none => .skip
noncomputable def impl_SameNum (p1 : Nat) (p2 : Nat) : Option Bool :=
  Option.bind (math_IsNaN p1) fun r3 =>
  if r3 = true then
    Option.bind (math_IsNaN p2) fun r5 =>
    if r5 = true then
      some true
    else
      some (((p1 : Nat) : Int) == ((p2 : Nat) : Int))
  else
    some (((p1 : Nat) : Int) == ((p2 : Nat) : Int))
theorem impl_SameNum_m {p1 : Nat} {p2 : Nat} {r : Bool} (h : impl_SameNum p1 p2 = some r) : Meets Try.prog 103 [(FK p1), (FK p2)] (B r) := by
  refine meets_ofC Θ_ok Try.func103 rfl (c := body103) (by kernel_rfl) (Nat.le_of_ble_eq_true rfl) ?_
  intro E hP hn hx
  replace hn : E.n = 18 := hn
  have hm : E.P.follows .mixedOrders = true := by rw [hP]; exact mixed
  have hΘ : TOK E.P Θ := by rw [hP]; exact Θ_ok
  unfold impl_SameNum at h
  show WAt E body103 (FQ (RetE Θ Try.f103.results.toList [] [] (B r) E)) [] ⟨[(0, (FK p1)), (1, (FK p2))], [], [JJ]⟩
  obtain ⟨r3, hr3, h⟩ := bnS h
  rcases itS h with ⟨c4, h⟩ | ⟨c8, h⟩
  · obtain ⟨r5, hr5, h⟩ := bnS h
    rcases itS h with ⟨c6, h⟩ | ⟨c7, h⟩
    · have h := Option.some.inj h
      subst h
      exact go_ret hΘ hm hP hn (hs := [⟨2, .callV [] (B r3), none⟩, ⟨3, .no, some (B true)⟩, ⟨5, .callV [] (B r5), none⟩, ⟨7, .no, some (B true)⟩]) (rh := []) (ph := .raw) (ps := [Meets Try.prog 118 [(FK p1)] (B r3), litA (B r3) = true, (B r3) = (B true), Meets Try.prog 118 [(FK p2)] (B r5), litA (B r5) = true, (B r5) = (B true), (B true) = (B true), litA (B true) = true]) (by kernel_rfl) ⟨(math_IsNaN_m hr3), rfl, (litB c4), (math_IsNaN_m hr5), rfl, (litB c6), rfl, rfl, trivial⟩
    · have h := Option.some.inj h
      subst h
      exact go_ret hΘ hm hP hn (hs := [⟨2, .callV [] (B r3), none⟩, ⟨3, .no, some (B true)⟩, ⟨5, .callV [] (B r5), none⟩, ⟨7, .no, some (B false)⟩, ⟨9, .xt (IK .u64 ((p1 : Nat) : Int)), none⟩, ⟨11, .xt (IK .u64 ((p2 : Nat) : Int)), none⟩]) (rh := []) (ph := .raw) (ps := [Meets Try.prog 118 [(FK p1)] (B r3), litA (B r3) = true, (B r3) = (B true), Meets Try.prog 118 [(FK p2)] (B r5), litA (B r5) = true, (B r5) = (B false), ExtS Try.prog 119 (FK p1) (IK .u64 ((p1 : Nat) : Int)), ExtS Try.prog 119 (FK p2) (IK .u64 ((p2 : Nat) : Int)), (B (((p1 : Nat) : Int) == ((p2 : Nat) : Int))) = (B (((p1 : Nat) : Int) == ((p2 : Nat) : Int))), litA (B (((p1 : Nat) : Int) == ((p2 : Nat) : Int))) = true]) (by kernel_rfl) ⟨(math_IsNaN_m hr3), rfl, (litB c4), (math_IsNaN_m hr5), rfl, (litB c7), (xBits Try.func119 (by kernel_rfl) (by kernel_rfl) (by kernel_rfl) (by kernel_rfl)), (xBits Try.func119 (by kernel_rfl) (by kernel_rfl) (by kernel_rfl) (by kernel_rfl)), rfl, rfl, trivial⟩
  · have h := Option.some.inj h
    subst h
    exact go_ret hΘ hm hP hn (hs := [⟨2, .callV [] (B r3), none⟩, ⟨3, .no, some (B false)⟩, ⟨9, .xt (IK .u64 ((p1 : Nat) : Int)), none⟩, ⟨11, .xt (IK .u64 ((p2 : Nat) : Int)), none⟩]) (rh := []) (ph := .raw) (ps := [Meets Try.prog 118 [(FK p1)] (B r3), litA (B r3) = true, (B r3) = (B false), ExtS Try.prog 119 (FK p1) (IK .u64 ((p1 : Nat) : Int)), ExtS Try.prog 119 (FK p2) (IK .u64 ((p2 : Nat) : Int)), (B (((p1 : Nat) : Int) == ((p2 : Nat) : Int))) = (B (((p1 : Nat) : Int) == ((p2 : Nat) : Int))), litA (B (((p1 : Nat) : Int) == ((p2 : Nat) : Int))) = true]) (by kernel_rfl) ⟨(math_IsNaN_m hr3), rfl, (litB c8), (xBits Try.func119 (by kernel_rfl) (by kernel_rfl) (by kernel_rfl) (by kernel_rfl)), (xBits Try.func119 (by kernel_rfl) (by kernel_rfl) (by kernel_rfl) (by kernel_rfl)), rfl, rfl, trivial⟩
noncomputable def body93 : Code := match Try.f93.body with | some c => c | none => .skip
noncomputable def impl_Op_fits (p1 : GOp) : Option Bool :=
  Option.bind (impl_Op_names p1) fun r2 =>
  Option.bind (impl_in p1.Code 1 17) fun r3 =>
  if r3 = true then
    if (decide (r2 > 0)) = true then
      if (decide (r2 > 1)) = true then
        if (p1.Code == 1) = true then
          some true
        else
          Option.bind (impl_SameNum p1.V 0) fun r9 =>
          some r9
      else
        if (p1.B == 0) = true then
          if (p1.Code == 1) = true then
            some true
          else
            Option.bind (impl_SameNum p1.V 0) fun r14 =>
            some r14
        else
          some false
    else
      if (p1.A == 0) = true then
        if (decide (r2 > 1)) = true then
          if (p1.Code == 1) = true then
            some true
          else
            Option.bind (impl_SameNum p1.V 0) fun r21 =>
            some r21
        else
          if (p1.B == 0) = true then
            if (p1.Code == 1) = true then
              some true
            else
              Option.bind (impl_SameNum p1.V 0) fun r26 =>
              some r26
          else
            some false
      else
        some false
  else
    some false
theorem impl_Op_fits_m {p1 : GOp} {r : Bool} (h : impl_Op_fits p1 = some r) : Meets Try.prog 93 [(AV.agg ((o85 p1)))] (B r) := by
  refine meets_ofC Θ_ok Try.func93 rfl (c := body93) (by kernel_rfl) (Nat.le_of_ble_eq_true rfl) ?_
  intro E hP hn hx
  replace hn : E.n = 37 := hn
  have hm : E.P.follows .mixedOrders = true := by rw [hP]; exact mixed
  have hΘ : TOK E.P Θ := by rw [hP]; exact Θ_ok
  unfold impl_Op_fits at h
  show WAt E body93 (FQ (RetE Θ Try.f93.results.toList [] [] (B r) E)) [] ⟨[(0, (AV.agg ((o85 p1))))], [], [JJ]⟩
  obtain ⟨r2, hr2, h⟩ := bnS h
  obtain ⟨r3, hr3, h⟩ := bnS h
  rcases itS h with ⟨c4, h⟩ | ⟨c29, h⟩
  · rcases itS h with ⟨c5, h⟩ | ⟨c16, h⟩
    · rcases itS h with ⟨c6, h⟩ | ⟨c10, h⟩
      · rcases itS h with ⟨c7, h⟩ | ⟨c8, h⟩
        · have h := Option.some.inj h
          subst h
          exact go_ret hΘ hm hP hn (hs := [⟨0, .new 1001, none⟩, ⟨3, .callV [[]] (I r2), none⟩, ⟨7, .callV [] (B r3), none⟩, ⟨8, .no, some (B true)⟩, ⟨11, .no, some (B true)⟩, ⟨20, .no, some (B true)⟩, ⟨30, .no, some (B true)⟩]) (rh := []) (ph := .raw) (ps := [Meets Try.prog 102 [(AV.agg ((o85 p1)))] (I r2), litA (I r2) = true, Meets Try.prog 44 [(I p1.Code), (I 1), (I 17)] (B r3), litA (B r3) = true, (B r3) = (B true), (B (decide (r2 > 0))) = (B true), (B (decide (r2 > 1))) = (B true), (B (p1.Code == 1)) = (B true), (B true) = (B true), litA (B true) = true]) (by kernel_rfl) ⟨(impl_Op_names_m hr2), rfl, (impl_in_m hr3), rfl, (litB c4), (litB c5), (litB c6), (litB c7), rfl, rfl, trivial⟩
        · obtain ⟨r9, hr9, h⟩ := bnS h
          have h := Option.some.inj h
          subst h
          exact go_ret hΘ hm hP hn (hs := [⟨0, .new 1001, none⟩, ⟨3, .callV [[]] (I r2), none⟩, ⟨7, .callV [] (B r3), none⟩, ⟨8, .no, some (B true)⟩, ⟨11, .no, some (B true)⟩, ⟨20, .no, some (B true)⟩, ⟨30, .no, some (B false)⟩, ⟨33, .callV [] (B r9), none⟩]) (rh := []) (ph := .raw) (ps := [Meets Try.prog 102 [(AV.agg ((o85 p1)))] (I r2), litA (I r2) = true, Meets Try.prog 44 [(I p1.Code), (I 1), (I 17)] (B r3), litA (B r3) = true, (B r3) = (B true), (B (decide (r2 > 0))) = (B true), (B (decide (r2 > 1))) = (B true), (B (p1.Code == 1)) = (B false), Meets Try.prog 103 [(FK p1.V), (FK 0)] (B r9), litA (B r9) = true, (B r9) = (B r9), litA (B r9) = true]) (by kernel_rfl) ⟨(impl_Op_names_m hr2), rfl, (impl_in_m hr3), rfl, (litB c4), (litB c5), (litB c6), (litB c8), (impl_SameNum_m hr9), rfl, rfl, rfl, trivial⟩
      · rcases itS h with ⟨c11, h⟩ | ⟨c15, h⟩
        · rcases itS h with ⟨c12, h⟩ | ⟨c13, h⟩
          · have h := Option.some.inj h
            subst h
            exact go_ret hΘ hm hP hn (hs := [⟨0, .new 1001, none⟩, ⟨3, .callV [[]] (I r2), none⟩, ⟨7, .callV [] (B r3), none⟩, ⟨8, .no, some (B true)⟩, ⟨11, .no, some (B true)⟩, ⟨20, .no, some (B false)⟩, ⟨26, .no, some (B true)⟩, ⟨30, .no, some (B true)⟩]) (rh := []) (ph := .raw) (ps := [Meets Try.prog 102 [(AV.agg ((o85 p1)))] (I r2), litA (I r2) = true, Meets Try.prog 44 [(I p1.Code), (I 1), (I 17)] (B r3), litA (B r3) = true, (B r3) = (B true), (B (decide (r2 > 0))) = (B true), (B (decide (r2 > 1))) = (B false), (B (p1.B == 0)) = (B true), (B (p1.Code == 1)) = (B true), (B true) = (B true), litA (B true) = true]) (by kernel_rfl) ⟨(impl_Op_names_m hr2), rfl, (impl_in_m hr3), rfl, (litB c4), (litB c5), (litB c10), (litB c11), (litB c12), rfl, rfl, trivial⟩
          · obtain ⟨r14, hr14, h⟩ := bnS h
            have h := Option.some.inj h
            subst h
            exact go_ret hΘ hm hP hn (hs := [⟨0, .new 1001, none⟩, ⟨3, .callV [[]] (I r2), none⟩, ⟨7, .callV [] (B r3), none⟩, ⟨8, .no, some (B true)⟩, ⟨11, .no, some (B true)⟩, ⟨20, .no, some (B false)⟩, ⟨26, .no, some (B true)⟩, ⟨30, .no, some (B false)⟩, ⟨33, .callV [] (B r14), none⟩]) (rh := []) (ph := .raw) (ps := [Meets Try.prog 102 [(AV.agg ((o85 p1)))] (I r2), litA (I r2) = true, Meets Try.prog 44 [(I p1.Code), (I 1), (I 17)] (B r3), litA (B r3) = true, (B r3) = (B true), (B (decide (r2 > 0))) = (B true), (B (decide (r2 > 1))) = (B false), (B (p1.B == 0)) = (B true), (B (p1.Code == 1)) = (B false), Meets Try.prog 103 [(FK p1.V), (FK 0)] (B r14), litA (B r14) = true, (B r14) = (B r14), litA (B r14) = true]) (by kernel_rfl) ⟨(impl_Op_names_m hr2), rfl, (impl_in_m hr3), rfl, (litB c4), (litB c5), (litB c10), (litB c11), (litB c13), (impl_SameNum_m hr14), rfl, rfl, rfl, trivial⟩
        · have h := Option.some.inj h
          subst h
          exact go_ret hΘ hm hP hn (hs := [⟨0, .new 1001, none⟩, ⟨3, .callV [[]] (I r2), none⟩, ⟨7, .callV [] (B r3), none⟩, ⟨8, .no, some (B true)⟩, ⟨11, .no, some (B true)⟩, ⟨20, .no, some (B false)⟩, ⟨26, .no, some (B false)⟩]) (rh := []) (ph := .raw) (ps := [Meets Try.prog 102 [(AV.agg ((o85 p1)))] (I r2), litA (I r2) = true, Meets Try.prog 44 [(I p1.Code), (I 1), (I 17)] (B r3), litA (B r3) = true, (B r3) = (B true), (B (decide (r2 > 0))) = (B true), (B (decide (r2 > 1))) = (B false), (B (p1.B == 0)) = (B false), (B false) = (B false), litA (B false) = true]) (by kernel_rfl) ⟨(impl_Op_names_m hr2), rfl, (impl_in_m hr3), rfl, (litB c4), (litB c5), (litB c10), (litB c15), rfl, rfl, trivial⟩
    · rcases itS h with ⟨c17, h⟩ | ⟨c28, h⟩
      · rcases itS h with ⟨c18, h⟩ | ⟨c22, h⟩
        · rcases itS h with ⟨c19, h⟩ | ⟨c20, h⟩
          · have h := Option.some.inj h
            subst h
            exact go_ret hΘ hm hP hn (hs := [⟨0, .new 1001, none⟩, ⟨3, .callV [[]] (I r2), none⟩, ⟨7, .callV [] (B r3), none⟩, ⟨8, .no, some (B true)⟩, ⟨11, .no, some (B false)⟩, ⟨17, .no, some (B true)⟩, ⟨20, .no, some (B true)⟩, ⟨30, .no, some (B true)⟩]) (rh := []) (ph := .raw) (ps := [Meets Try.prog 102 [(AV.agg ((o85 p1)))] (I r2), litA (I r2) = true, Meets Try.prog 44 [(I p1.Code), (I 1), (I 17)] (B r3), litA (B r3) = true, (B r3) = (B true), (B (decide (r2 > 0))) = (B false), (B (p1.A == 0)) = (B true), (B (decide (r2 > 1))) = (B true), (B (p1.Code == 1)) = (B true), (B true) = (B true), litA (B true) = true]) (by kernel_rfl) ⟨(impl_Op_names_m hr2), rfl, (impl_in_m hr3), rfl, (litB c4), (litB c16), (litB c17), (litB c18), (litB c19), rfl, rfl, trivial⟩
          · obtain ⟨r21, hr21, h⟩ := bnS h
            have h := Option.some.inj h
            subst h
            exact go_ret hΘ hm hP hn (hs := [⟨0, .new 1001, none⟩, ⟨3, .callV [[]] (I r2), none⟩, ⟨7, .callV [] (B r3), none⟩, ⟨8, .no, some (B true)⟩, ⟨11, .no, some (B false)⟩, ⟨17, .no, some (B true)⟩, ⟨20, .no, some (B true)⟩, ⟨30, .no, some (B false)⟩, ⟨33, .callV [] (B r21), none⟩]) (rh := []) (ph := .raw) (ps := [Meets Try.prog 102 [(AV.agg ((o85 p1)))] (I r2), litA (I r2) = true, Meets Try.prog 44 [(I p1.Code), (I 1), (I 17)] (B r3), litA (B r3) = true, (B r3) = (B true), (B (decide (r2 > 0))) = (B false), (B (p1.A == 0)) = (B true), (B (decide (r2 > 1))) = (B true), (B (p1.Code == 1)) = (B false), Meets Try.prog 103 [(FK p1.V), (FK 0)] (B r21), litA (B r21) = true, (B r21) = (B r21), litA (B r21) = true]) (by kernel_rfl) ⟨(impl_Op_names_m hr2), rfl, (impl_in_m hr3), rfl, (litB c4), (litB c16), (litB c17), (litB c18), (litB c20), (impl_SameNum_m hr21), rfl, rfl, rfl, trivial⟩
        · rcases itS h with ⟨c23, h⟩ | ⟨c27, h⟩
          · rcases itS h with ⟨c24, h⟩ | ⟨c25, h⟩
            · have h := Option.some.inj h
              subst h
              exact go_ret hΘ hm hP hn (hs := [⟨0, .new 1001, none⟩, ⟨3, .callV [[]] (I r2), none⟩, ⟨7, .callV [] (B r3), none⟩, ⟨8, .no, some (B true)⟩, ⟨11, .no, some (B false)⟩, ⟨17, .no, some (B true)⟩, ⟨20, .no, some (B false)⟩, ⟨26, .no, some (B true)⟩, ⟨30, .no, some (B true)⟩]) (rh := []) (ph := .raw) (ps := [Meets Try.prog 102 [(AV.agg ((o85 p1)))] (I r2), litA (I r2) = true, Meets Try.prog 44 [(I p1.Code), (I 1), (I 17)] (B r3), litA (B r3) = true, (B r3) = (B true), (B (decide (r2 > 0))) = (B false), (B (p1.A == 0)) = (B true), (B (decide (r2 > 1))) = (B false), (B (p1.B == 0)) = (B true), (B (p1.Code == 1)) = (B true), (B true) = (B true), litA (B true) = true]) (by kernel_rfl) ⟨(impl_Op_names_m hr2), rfl, (impl_in_m hr3), rfl, (litB c4), (litB c16), (litB c17), (litB c22), (litB c23), (litB c24), rfl, rfl, trivial⟩
            · obtain ⟨r26, hr26, h⟩ := bnS h
              have h := Option.some.inj h
              subst h
              exact go_ret hΘ hm hP hn (hs := [⟨0, .new 1001, none⟩, ⟨3, .callV [[]] (I r2), none⟩, ⟨7, .callV [] (B r3), none⟩, ⟨8, .no, some (B true)⟩, ⟨11, .no, some (B false)⟩, ⟨17, .no, some (B true)⟩, ⟨20, .no, some (B false)⟩, ⟨26, .no, some (B true)⟩, ⟨30, .no, some (B false)⟩, ⟨33, .callV [] (B r26), none⟩]) (rh := []) (ph := .raw) (ps := [Meets Try.prog 102 [(AV.agg ((o85 p1)))] (I r2), litA (I r2) = true, Meets Try.prog 44 [(I p1.Code), (I 1), (I 17)] (B r3), litA (B r3) = true, (B r3) = (B true), (B (decide (r2 > 0))) = (B false), (B (p1.A == 0)) = (B true), (B (decide (r2 > 1))) = (B false), (B (p1.B == 0)) = (B true), (B (p1.Code == 1)) = (B false), Meets Try.prog 103 [(FK p1.V), (FK 0)] (B r26), litA (B r26) = true, (B r26) = (B r26), litA (B r26) = true]) (by kernel_rfl) ⟨(impl_Op_names_m hr2), rfl, (impl_in_m hr3), rfl, (litB c4), (litB c16), (litB c17), (litB c22), (litB c23), (litB c25), (impl_SameNum_m hr26), rfl, rfl, rfl, trivial⟩
          · have h := Option.some.inj h
            subst h
            exact go_ret hΘ hm hP hn (hs := [⟨0, .new 1001, none⟩, ⟨3, .callV [[]] (I r2), none⟩, ⟨7, .callV [] (B r3), none⟩, ⟨8, .no, some (B true)⟩, ⟨11, .no, some (B false)⟩, ⟨17, .no, some (B true)⟩, ⟨20, .no, some (B false)⟩, ⟨26, .no, some (B false)⟩]) (rh := []) (ph := .raw) (ps := [Meets Try.prog 102 [(AV.agg ((o85 p1)))] (I r2), litA (I r2) = true, Meets Try.prog 44 [(I p1.Code), (I 1), (I 17)] (B r3), litA (B r3) = true, (B r3) = (B true), (B (decide (r2 > 0))) = (B false), (B (p1.A == 0)) = (B true), (B (decide (r2 > 1))) = (B false), (B (p1.B == 0)) = (B false), (B false) = (B false), litA (B false) = true]) (by kernel_rfl) ⟨(impl_Op_names_m hr2), rfl, (impl_in_m hr3), rfl, (litB c4), (litB c16), (litB c17), (litB c22), (litB c27), rfl, rfl, trivial⟩
      · have h := Option.some.inj h
        subst h
        exact go_ret hΘ hm hP hn (hs := [⟨0, .new 1001, none⟩, ⟨3, .callV [[]] (I r2), none⟩, ⟨7, .callV [] (B r3), none⟩, ⟨8, .no, some (B true)⟩, ⟨11, .no, some (B false)⟩, ⟨17, .no, some (B false)⟩]) (rh := []) (ph := .raw) (ps := [Meets Try.prog 102 [(AV.agg ((o85 p1)))] (I r2), litA (I r2) = true, Meets Try.prog 44 [(I p1.Code), (I 1), (I 17)] (B r3), litA (B r3) = true, (B r3) = (B true), (B (decide (r2 > 0))) = (B false), (B (p1.A == 0)) = (B false), (B false) = (B false), litA (B false) = true]) (by kernel_rfl) ⟨(impl_Op_names_m hr2), rfl, (impl_in_m hr3), rfl, (litB c4), (litB c16), (litB c28), rfl, rfl, trivial⟩
  · have h := Option.some.inj h
    subst h
    exact go_ret hΘ hm hP hn (hs := [⟨0, .new 1001, none⟩, ⟨3, .callV [[]] (I r2), none⟩, ⟨7, .callV [] (B r3), none⟩, ⟨8, .no, some (B false)⟩]) (rh := []) (ph := .raw) (ps := [Meets Try.prog 102 [(AV.agg ((o85 p1)))] (I r2), litA (I r2) = true, Meets Try.prog 44 [(I p1.Code), (I 1), (I 17)] (B r3), litA (B r3) = true, (B r3) = (B false), (B false) = (B false), litA (B false) = true]) (by kernel_rfl) ⟨(impl_Op_names_m hr2), rfl, (impl_in_m hr3), rfl, (litB c29), rfl, rfl, trivial⟩
noncomputable def body76 : Code := match Try.f76.body with | some c => c | none => .skip
noncomputable def impl_Prog_isGood_j2  (p1 : GProg) (p2 : GOp) (v18 : Bool) : Option Bool :=
  if v18 = true then
    Option.bind (impl_in p2.A 0 (w64 (p1.Locks - 1))) fun r20 =>
    some r20
  else
    if (p2.Code == 14) = true then
      Option.bind (impl_in p2.A 0 (w64 ((p1.Routines.length : Int) - 1))) fun r23 =>
      some r23
    else
      if (p2.Code == 16) = true then
        Option.bind (impl_in p2.A 0 (w64 (p1.Conds - 1))) fun r26 =>
        if r26 = true then
          Option.bind (impl_in p2.B 0 (w64 (p1.Locks - 1))) fun r28 =>
          some r28
        else
          some false
      else
        if (p2.Code == 17) = true then
          Option.bind (impl_in p2.A 0 (w64 (p1.Conds - 1))) fun r32 =>
          some r32
        else
          some true
theorem impl_Prog_isGood_j2_m {E : Env} (hP : E.P = Try.prog) (hn : E.n = 70) (hx : ∀ p, p ∈ E.fx → p.1 ∈ ([] : List Nat)) (p1 : GProg) (p2 : GOp)  (v18 : Bool) (r : Bool) (h : impl_Prog_isGood_j2 p1 p2 v18 = some r) : WAt E body76 (FQ (RetE Θ Try.f76.results.toList [] [] (B r) E)) [true, true, false, true, false, true, true, true, true, true] ⟨[(3, (AV.ptr 1 0 0)), (4, (AV.ptr 2 0 0)), (11, (I p2.Code)), (28, (B v18))], [(1, some ⟨35, 4, [((r35 p1))]⟩), (2, some ⟨85, 4, [((o85 p2))]⟩)], [1, 2, JJ]⟩ := by
  have hm : E.P.follows .mixedOrders = true := by rw [hP]; exact mixed
  have hΘ : TOK E.P Θ := by rw [hP]; exact Θ_ok
  unfold impl_Prog_isGood_j2 at h
  rcases itS h with ⟨c19, h⟩ | ⟨c21, h⟩
  · obtain ⟨r20, hr20, h⟩ := bnS h
    have h := Option.some.inj h
    subst h
    exact go_ret hΘ hm hP hn (hs := [⟨0, .br true, none⟩, ⟨6, .callV [] (B r20), none⟩]) (rh := []) (ph := .raw) (ps := [v18 = true, Meets Try.prog 44 [(I p2.A), (I 0), (I (w64 (p1.Locks - 1)))] (B r20), litA (B r20) = true, (B r20) = (B r20), litA (B r20) = true]) (by kernel_rfl) ⟨c19, (impl_in_m hr20), rfl, rfl, rfl, trivial⟩
  · rcases itS h with ⟨c22, h⟩ | ⟨c24, h⟩
    · obtain ⟨r23, hr23, h⟩ := bnS h
      have h := Option.some.inj h
      subst h
      exact go_ret hΘ hm hP hn (hs := [⟨0, .br false, none⟩, ⟨3, .br true, none⟩, ⟨8, .no, some (I (p1.Routines.length : Int))⟩, ⟨10, .callV [] (B r23), none⟩]) (rh := []) (ph := .raw) (ps := [v18 = false, (p2.Code == 14) = true, AV.lit (.int .i64 (((p1.Routines.map r82).length : Nat) : Int)) = (I (p1.Routines.length : Int)), Meets Try.prog 44 [(I p2.A), (I 0), (I (w64 ((p1.Routines.length : Int) - 1)))] (B r23), litA (B r23) = true, (B r23) = (B r23), litA (B r23) = true]) (by kernel_rfl) ⟨c21, c22, (lenM r82), (impl_in_m hr23), rfl, rfl, rfl, trivial⟩
    · rcases itS h with ⟨c25, h⟩ | ⟨c30, h⟩
      · obtain ⟨r26, hr26, h⟩ := bnS h
        rcases itS h with ⟨c27, h⟩ | ⟨c29, h⟩
        · obtain ⟨r28, hr28, h⟩ := bnS h
          have h := Option.some.inj h
          subst h
          exact go_ret hΘ hm hP hn (hs := [⟨0, .br false, none⟩, ⟨3, .br false, none⟩, ⟨6, .br true, none⟩, ⟨12, .callV [] (B r26), none⟩, ⟨13, .no, some (B true)⟩, ⟨19, .callV [] (B r28), none⟩]) (rh := []) (ph := .raw) (ps := [v18 = false, (p2.Code == 14) = false, (p2.Code == 16) = true, Meets Try.prog 44 [(I p2.A), (I 0), (I (w64 (p1.Conds - 1)))] (B r26), litA (B r26) = true, (B r26) = (B true), Meets Try.prog 44 [(I p2.B), (I 0), (I (w64 (p1.Locks - 1)))] (B r28), litA (B r28) = true, (B r28) = (B r28), litA (B r28) = true]) (by kernel_rfl) ⟨c21, c24, c25, (impl_in_m hr26), rfl, (litB c27), (impl_in_m hr28), rfl, rfl, rfl, trivial⟩
        · have h := Option.some.inj h
          subst h
          exact go_ret hΘ hm hP hn (hs := [⟨0, .br false, none⟩, ⟨3, .br false, none⟩, ⟨6, .br true, none⟩, ⟨12, .callV [] (B r26), none⟩, ⟨13, .no, some (B false)⟩]) (rh := []) (ph := .raw) (ps := [v18 = false, (p2.Code == 14) = false, (p2.Code == 16) = true, Meets Try.prog 44 [(I p2.A), (I 0), (I (w64 (p1.Conds - 1)))] (B r26), litA (B r26) = true, (B r26) = (B false), (B false) = (B false), litA (B false) = true]) (by kernel_rfl) ⟨c21, c24, c25, (impl_in_m hr26), rfl, (litB c29), rfl, rfl, trivial⟩
      · rcases itS h with ⟨c31, h⟩ | ⟨c33, h⟩
        · obtain ⟨r32, hr32, h⟩ := bnS h
          have h := Option.some.inj h
          subst h
          exact go_ret hΘ hm hP hn (hs := [⟨0, .br false, none⟩, ⟨3, .br false, none⟩, ⟨6, .br false, none⟩, ⟨9, .br true, none⟩, ⟨15, .callV [] (B r32), none⟩]) (rh := []) (ph := .raw) (ps := [v18 = false, (p2.Code == 14) = false, (p2.Code == 16) = false, (p2.Code == 17) = true, Meets Try.prog 44 [(I p2.A), (I 0), (I (w64 (p1.Conds - 1)))] (B r32), litA (B r32) = true, (B r32) = (B r32), litA (B r32) = true]) (by kernel_rfl) ⟨c21, c24, c30, c31, (impl_in_m hr32), rfl, rfl, rfl, trivial⟩
        · have h := Option.some.inj h
          subst h
          exact go_ret hΘ hm hP hn (hs := [⟨0, .br false, none⟩, ⟨3, .br false, none⟩, ⟨6, .br false, none⟩, ⟨9, .br false, none⟩]) (rh := []) (ph := .raw) (ps := [v18 = false, (p2.Code == 14) = false, (p2.Code == 16) = false, (p2.Code == 17) = false, (B true) = (B true), litA (B true) = true]) (by kernel_rfl) ⟨c21, c24, c30, c33, rfl, rfl, trivial⟩
noncomputable def impl_Prog_isGood_j1  (p1 : GProg) (p2 : GOp) (p3 : Int) (v13 : Bool) : Option Bool :=
  if v13 = true then
    Option.bind (impl_in p2.A 0 p3) fun r15 =>
    some r15
  else
    if (p2.Code == 12) = true then
      impl_Prog_isGood_j2 p1 p2 (p2.Code == 12)
    else
      impl_Prog_isGood_j2 p1 p2 (p2.Code == 13)
theorem impl_Prog_isGood_j1_m {E : Env} (hP : E.P = Try.prog) (hn : E.n = 70) (hx : ∀ p, p ∈ E.fx → p.1 ∈ ([] : List Nat)) (p1 : GProg) (p2 : GOp) (p3 : Int)  (v13 : Bool) (r : Bool) (h : impl_Prog_isGood_j1 p1 p2 p3 v13 = some r) : WAt E body76 (FQ (RetE Θ Try.f76.results.toList [] [] (B r) E)) [true, true, false, true, false, true, true, true] ⟨[(2, (I p3)), (3, (AV.ptr 1 0 0)), (4, (AV.ptr 2 0 0)), (11, (I p2.Code)), (21, (B v13))], [(1, some ⟨35, 4, [((r35 p1))]⟩), (2, some ⟨85, 4, [((o85 p2))]⟩)], [1, 2, JJ]⟩ := by
  have hm : E.P.follows .mixedOrders = true := by rw [hP]; exact mixed
  have hΘ : TOK E.P Θ := by rw [hP]; exact Θ_ok
  unfold impl_Prog_isGood_j1 at h
  rcases itS h with ⟨c14, h⟩ | ⟨c16, h⟩
  · obtain ⟨r15, hr15, h⟩ := bnS h
    have h := Option.some.inj h
    subst h
    exact go_ret hΘ hm hP hn (hs := [⟨0, .br true, none⟩, ⟨4, .callV [] (B r15), none⟩]) (rh := []) (ph := .raw) (ps := [v13 = true, Meets Try.prog 44 [(I p2.A), (I 0), (I p3)] (B r15), litA (B r15) = true, (B r15) = (B r15), litA (B r15) = true]) (by kernel_rfl) ⟨c14, (impl_in_m hr15), rfl, rfl, rfl, trivial⟩
  · rcases itS h with ⟨c17, h⟩ | ⟨c34, h⟩
    · exact go_to hΘ hm hx hP hn (hs := [⟨0, .br false, none⟩, ⟨3, .br true, none⟩]) (π := [(1, 1), (2, 2)]) (ts := [3, 4, 11, 28]) (kp := []) (ps := [v13 = false, (p2.Code == 12) = true, RenOK [(1, 1), (2, 2)] [((r35 p1))], RenOK [(1, 1), (2, 2)] [((o85 p2))]]) (by kernel_rfl) ⟨c16, c17, (rok (treeB t35 p1)), (rok rfl), trivial⟩ (impl_Prog_isGood_j2_m hP hn hx p1 p2 (p2.Code == 12) _ h)
    · exact go_to hΘ hm hx hP hn (hs := [⟨0, .br false, none⟩, ⟨3, .br false, none⟩]) (π := [(1, 1), (2, 2)]) (ts := [3, 4, 11, 28]) (kp := []) (ps := [v13 = false, (p2.Code == 12) = false, RenOK [(1, 1), (2, 2)] [((r35 p1))], RenOK [(1, 1), (2, 2)] [((o85 p2))]]) (by kernel_rfl) ⟨c16, c34, (rok (treeB t35 p1)), (rok rfl), trivial⟩ (impl_Prog_isGood_j2_m hP hn hx p1 p2 (p2.Code == 13) _ h)
noncomputable def impl_Prog_isGood_j0  (p1 : GProg) (p2 : GOp) (p3 : Int) (v8 : Bool) : Option Bool :=
  if v8 = true then
    Option.bind (impl_in p2.A 0 (w64 (p1.Cells - 1))) fun r10 =>
    some r10
  else
    if (p2.Code == 10) = true then
      impl_Prog_isGood_j1 p1 p2 p3 (p2.Code == 10)
    else
      impl_Prog_isGood_j1 p1 p2 p3 (p2.Code == 11)
theorem impl_Prog_isGood_j0_m {E : Env} (hP : E.P = Try.prog) (hn : E.n = 70) (hx : ∀ p, p ∈ E.fx → p.1 ∈ ([] : List Nat)) (p1 : GProg) (p2 : GOp) (p3 : Int)  (v8 : Bool) (r : Bool) (h : impl_Prog_isGood_j0 p1 p2 p3 v8 = some r) : WAt E body76 (FQ (RetE Θ Try.f76.results.toList [] [] (B r) E)) [true, true, false, true, false, true] ⟨[(2, (I p3)), (3, (AV.ptr 1 0 0)), (4, (AV.ptr 2 0 0)), (11, (I p2.Code)), (12, (B v8))], [(1, some ⟨35, 4, [((r35 p1))]⟩), (2, some ⟨85, 4, [((o85 p2))]⟩)], [1, 2, JJ]⟩ := by
  have hm : E.P.follows .mixedOrders = true := by rw [hP]; exact mixed
  have hΘ : TOK E.P Θ := by rw [hP]; exact Θ_ok
  unfold impl_Prog_isGood_j0 at h
  rcases itS h with ⟨c9, h⟩ | ⟨c11, h⟩
  · obtain ⟨r10, hr10, h⟩ := bnS h
    have h := Option.some.inj h
    subst h
    exact go_ret hΘ hm hP hn (hs := [⟨0, .br true, none⟩, ⟨6, .callV [] (B r10), none⟩]) (rh := []) (ph := .raw) (ps := [v8 = true, Meets Try.prog 44 [(I p2.A), (I 0), (I (w64 (p1.Cells - 1)))] (B r10), litA (B r10) = true, (B r10) = (B r10), litA (B r10) = true]) (by kernel_rfl) ⟨c9, (impl_in_m hr10), rfl, rfl, rfl, trivial⟩
  · rcases itS h with ⟨c12, h⟩ | ⟨c35, h⟩
    · exact go_to hΘ hm hx hP hn (hs := [⟨0, .br false, none⟩, ⟨3, .br true, none⟩]) (π := [(1, 1), (2, 2)]) (ts := [2, 3, 4, 11, 21]) (kp := []) (ps := [v8 = false, (p2.Code == 10) = true, RenOK [(1, 1), (2, 2)] [((r35 p1))], RenOK [(1, 1), (2, 2)] [((o85 p2))]]) (by kernel_rfl) ⟨c11, c12, (rok (treeB t35 p1)), (rok rfl), trivial⟩ (impl_Prog_isGood_j1_m hP hn hx p1 p2 p3 (p2.Code == 10) _ h)
    · exact go_to hΘ hm hx hP hn (hs := [⟨0, .br false, none⟩, ⟨3, .br false, none⟩]) (π := [(1, 1), (2, 2)]) (ts := [2, 3, 4, 11, 21]) (kp := []) (ps := [v8 = false, (p2.Code == 10) = false, RenOK [(1, 1), (2, 2)] [((r35 p1))], RenOK [(1, 1), (2, 2)] [((o85 p2))]]) (by kernel_rfl) ⟨c11, c35, (rok (treeB t35 p1)), (rok rfl), trivial⟩ (impl_Prog_isGood_j1_m hP hn hx p1 p2 p3 (p2.Code == 11) _ h)
noncomputable def impl_Prog_isGood (p1 : GProg) (p2 : GOp) (p3 : Int) : Option Bool :=
  Option.bind (impl_Op_fits p2) fun r4 =>
  if (!r4) = true then
    some false
  else
    if (p2.Code == 2) = true then
      impl_Prog_isGood_j0 p1 p2 p3 (p2.Code == 2)
    else
      impl_Prog_isGood_j0 p1 p2 p3 (p2.Code == 3)
theorem impl_Prog_isGood_m {p1 : GProg} {p2 : GOp} {p3 : Int} {r : Bool} (h : impl_Prog_isGood p1 p2 p3 = some r) : Meets Try.prog 76 [(AV.agg ((r35 p1))), (AV.agg ((o85 p2))), (I p3)] (B r) := by
  refine meets_ofC Θ_ok Try.func76 rfl (c := body76) (by kernel_rfl) (Nat.le_of_ble_eq_true rfl) ?_
  intro E hP hn hx
  replace hn : E.n = 70 := hn
  have hm : E.P.follows .mixedOrders = true := by rw [hP]; exact mixed
  have hΘ : TOK E.P Θ := by rw [hP]; exact Θ_ok
  unfold impl_Prog_isGood at h
  show WAt E body76 (FQ (RetE Θ Try.f76.results.toList [] [] (B r) E)) [] ⟨[(0, (AV.agg ((r35 p1)))), (1, (AV.agg ((o85 p2)))), (2, (I p3))], [], [JJ]⟩
  obtain ⟨r4, hr4, h⟩ := bnS h
  rcases itS h with ⟨c5, h⟩ | ⟨c6, h⟩
  · have h := Option.some.inj h
    subst h
    exact go_ret hΘ hm hP hn (hs := [⟨0, .new 1001, none⟩, ⟨1, .new 1002, none⟩, ⟨4, .callV [[]] (B r4), none⟩, ⟨6, .br true, none⟩]) (rh := []) (ph := .raw) (ps := [Meets Try.prog 93 [(AV.agg ((o85 p2)))] (B r4), litA (B r4) = true, (!r4) = true, (B false) = (B false), litA (B false) = true]) (by kernel_rfl) ⟨(impl_Op_fits_m hr4), rfl, c5, rfl, rfl, trivial⟩
  · rcases itS h with ⟨c7, h⟩ | ⟨c36, h⟩
    · exact go_to hΘ hm hx hP hn (hs := [⟨0, .new 1001, none⟩, ⟨1, .new 1002, none⟩, ⟨4, .callV [[]] (B r4), none⟩, ⟨6, .br false, none⟩, ⟨11, .br true, none⟩]) (π := [(1001, 1), (1002, 2)]) (ts := [2, 3, 4, 11, 12]) (kp := []) (ps := [Meets Try.prog 93 [(AV.agg ((o85 p2)))] (B r4), litA (B r4) = true, (!r4) = false, (p2.Code == 2) = true, RenOK [(1001, 1), (1002, 2)] [((r35 p1))], RenOK [(1001, 1), (1002, 2)] [((o85 p2))]]) (by kernel_rfl) ⟨(impl_Op_fits_m hr4), rfl, c6, c7, (rok (treeB t35 p1)), (rok rfl), trivial⟩ (impl_Prog_isGood_j0_m hP hn hx p1 p2 p3 (p2.Code == 2) _ h)
    · exact go_to hΘ hm hx hP hn (hs := [⟨0, .new 1001, none⟩, ⟨1, .new 1002, none⟩, ⟨4, .callV [[]] (B r4), none⟩, ⟨6, .br false, none⟩, ⟨11, .br false, none⟩]) (π := [(1001, 1), (1002, 2)]) (ts := [2, 3, 4, 11, 12]) (kp := []) (ps := [Meets Try.prog 93 [(AV.agg ((o85 p2)))] (B r4), litA (B r4) = true, (!r4) = false, (p2.Code == 2) = false, RenOK [(1001, 1), (1002, 2)] [((r35 p1))], RenOK [(1001, 1), (1002, 2)] [((o85 p2))]]) (by kernel_rfl) ⟨(impl_Op_fits_m hr4), rfl, c6, c36, (rok (treeB t35 p1)), (rok rfl), trivial⟩ (impl_Prog_isGood_j0_m hP hn hx p1 p2 p3 (p2.Code == 3) _ h)
noncomputable def body75 : Code := match Try.f75.body with | some c => c | none => .skip
noncomputable def impl_GoodProg_1 (p1 : GOp) (p2 : GProg) (p3 : (List GOp)) : Option Bool :=
  Option.bind (impl_Prog_isGood p2 p1 (p3.length : Int)) fun r4 =>
  some (!r4)
theorem impl_GoodProg_1_m {p1 : GOp} {p2 : GProg} {p3 : (List GOp)} {r : Bool} (h : impl_GoodProg_1 p1 p2 p3 = some r) : Meets Try.prog 75 [(AV.agg ((o85 p1))), (AV.rop (r35 p2) 0), (AV.rop (r82 p3) 0)] (B r) := by
  refine meets_ofC Θ_ok Try.func75 rfl (c := body75) (by kernel_rfl) (Nat.le_of_ble_eq_true rfl) ?_
  intro E hP hn hx
  replace hn : E.n = 11 := hn
  have hm : E.P.follows .mixedOrders = true := by rw [hP]; exact mixed
  have hΘ : TOK E.P Θ := by rw [hP]; exact Θ_ok
  unfold impl_GoodProg_1 at h
  show WAt E body75 (FQ (RetE Θ Try.f75.results.toList [] [] (B r) E)) [] ⟨[(0, (AV.agg ((o85 p1)))), (1, (AV.rop (r35 p2) 0)), (2, (AV.rop (r82 p3) 0))], [], [JJ]⟩
  obtain ⟨r4, hr4, h⟩ := bnS h
  have h := Option.some.inj h
  subst h
  exact go_ret hΘ hm hP hn (hs := [⟨0, .new 1001, none⟩, ⟨5, .no, some (I (p3.length : Int))⟩, ⟨6, .callV [[], []] (B r4), none⟩]) (rh := []) (ph := .raw) (ps := [AV.lit (.int .i64 (((p3.map o85).length : Nat) : Int)) = (I (p3.length : Int)), Meets Try.prog 76 [(AV.agg ((r35 p2))), (AV.agg ((o85 p1))), (I (p3.length : Int))] (B r4), litA (B r4) = true, (B (!r4)) = (B (!r4)), litA (B (!r4)) = true]) (by kernel_rfl) ⟨(lenM o85), (impl_Prog_isGood_m hr4), rfl, rfl, rfl, trivial⟩
noncomputable def body92 : Code := match Try.f92.body with | some c => c | none => .skip
noncomputable def slices_IndexFunc_Op_Op__impl_GoodProg_1_l0  (p1 : (List GOp)) (p2 : GProg) (p3 : (List GOp)) : Nat → Int → Option Int
  | 0, _ => none
  | n + 1, v4 =>
  if (decide (v4 < (p1.length : Int))) = true then
    Option.bind (rd p1 v4) fun x6 =>
    Option.bind (impl_GoodProg_1 x6 p2 p3) fun r7 =>
    if r7 = true then
      some v4
    else
      slices_IndexFunc_Op_Op__impl_GoodProg_1_l0 p1 p2 p3 n (w64 (v4 + 1))
  else
    some (-1)
theorem slices_IndexFunc_Op_Op__impl_GoodProg_1_l0_m {E : Env} (hP : E.P = Try.prog) (hn : E.n = 19) (hx : ∀ p, p ∈ E.fx → p.1 ∈ ([] : List Nat)) (p1 : (List GOp)) (p2 : GProg) (p3 : (List GOp))  : ∀ (n : Nat) (v4 : Int) (r : Int), slices_IndexFunc_Op_Op__impl_GoodProg_1_l0 p1 p2 p3 n v4 = some r → WAt E body92 (FQ (RetE Θ Try.f92.results.toList [] [] (I r) E)) [true, false, true, false] ⟨[(0, (AV.ro 4 (p1.map o85))), (1, (AV.fn 75 [(AV.rop (r35 p2) 0), (AV.rop (r82 p3) 0)])), (7, (I (p1.length : Int))), (8, (I v4))], [], [JJ]⟩ := by
  have hm : E.P.follows .mixedOrders = true := by rw [hP]; exact mixed
  have hΘ : TOK E.P Θ := by rw [hP]; exact Θ_ok
  intro n
  induction n with
  | zero => intro v4 r h; simp only [slices_IndexFunc_Op_Op__impl_GoodProg_1_l0] at h; cases h
  | succ n ih =>
    intro v4 r h
    simp only [slices_IndexFunc_Op_Op__impl_GoodProg_1_l0] at h
    rcases itS h with ⟨c5, h⟩ | ⟨c10, h⟩
    · obtain ⟨x6, hx6, h⟩ := bnS h
      obtain ⟨r7, hr7, h⟩ := bnS h
      rcases itS h with ⟨c8, h⟩ | ⟨c9, h⟩
      · have h := Option.some.inj h
        subst h
        exact go_ret hΘ hm hP hn (hs := [⟨1, .br true, none⟩, ⟨7, .row (o85 x6), none⟩, ⟨9, .callV [[]] (B r7), none⟩, ⟨10, .br true, none⟩]) (rh := []) (ph := .raw) (ps := [(decide (v4 < (p1.length : Int))) = true, (0 : Int) ≤ v4, (p1.map o85)[(Int.toNat v4)]? = some (o85 x6), Meets Try.prog 75 [(AV.agg ((o85 x6))), (AV.rop (r35 p2) 0), (AV.rop (r82 p3) 0)] (B r7), litA (B r7) = true, r7 = true, (I v4) = (I v4), litA (I v4) = true]) (by kernel_rfl) ⟨c5, (rd0 hx6), (rdM o85 hx6), (impl_GoodProg_1_m hr7), rfl, c8, rfl, rfl, trivial⟩
      · exact go_to hΘ hm hx hP hn (hs := [⟨1, .br true, none⟩, ⟨7, .row (o85 x6), none⟩, ⟨9, .callV [[]] (B r7), none⟩, ⟨10, .br false, none⟩]) (π := []) (ts := [0, 1, 7, 8]) (kp := []) (ps := [(decide (v4 < (p1.length : Int))) = true, (0 : Int) ≤ v4, (p1.map o85)[(Int.toNat v4)]? = some (o85 x6), Meets Try.prog 75 [(AV.agg ((o85 x6))), (AV.rop (r35 p2) 0), (AV.rop (r82 p3) 0)] (B r7), litA (B r7) = true, r7 = false]) (by kernel_rfl) ⟨c5, (rd0 hx6), (rdM o85 hx6), (impl_GoodProg_1_m hr7), rfl, c9, trivial⟩ (ih (w64 (v4 + 1)) _ h)
    · have h := Option.some.inj h
      subst h
      exact go_ret hΘ hm hP hn (hs := [⟨1, .br false, none⟩]) (rh := []) (ph := .raw) (ps := [(decide (v4 < (p1.length : Int))) = false, (I (-1)) = (I (-1)), litA (I (-1)) = true]) (by kernel_rfl) ⟨c10, rfl, rfl, trivial⟩
noncomputable def slices_IndexFunc_Op_Op__impl_GoodProg_1 (p1 : (List GOp)) (p2 : GProg) (p3 : (List GOp)) : Option Int :=
  slices_IndexFunc_Op_Op__impl_GoodProg_1_l0 p1 p2 p3 FU 0
theorem slices_IndexFunc_Op_Op__impl_GoodProg_1_m {p1 : (List GOp)} {p2 : GProg} {p3 : (List GOp)} {r : Int} (h : slices_IndexFunc_Op_Op__impl_GoodProg_1 p1 p2 p3 = some r) : Meets Try.prog 92 [(AV.ro 4 (p1.map o85)), (AV.fn 75 [(AV.rop (r35 p2) 0), (AV.rop (r82 p3) 0)])] (I r) := by
  refine meets_ofC Θ_ok Try.func92 rfl (c := body92) (by kernel_rfl) (Nat.le_of_ble_eq_true rfl) ?_
  intro E hP hn hx
  replace hn : E.n = 19 := hn
  have hm : E.P.follows .mixedOrders = true := by rw [hP]; exact mixed
  have hΘ : TOK E.P Θ := by rw [hP]; exact Θ_ok
  unfold slices_IndexFunc_Op_Op__impl_GoodProg_1 at h
  show WAt E body92 (FQ (RetE Θ Try.f92.results.toList [] [] (I r) E)) [] ⟨[(0, (AV.ro 4 (p1.map o85))), (1, (AV.fn 75 [(AV.rop (r35 p2) 0), (AV.rop (r82 p3) 0)]))], [], [JJ]⟩
  exact go_to hΘ hm hx hP hn (hs := [⟨2, .no, some (I (p1.length : Int))⟩]) (π := []) (ts := [0, 1, 7, 8]) (kp := []) (ps := [AV.lit (.int .i64 (((p1.map o85).length : Nat) : Int)) = (I (p1.length : Int))]) (by kernel_rfl) ⟨(lenM o85), trivial⟩ (slices_IndexFunc_Op_Op__impl_GoodProg_1_l0_m hP hn hx p1 p2 p3 FU 0 _ h)
noncomputable def body74 : Code := match Try.f74.body with | some c => c | none => .skip
noncomputable def slices_ContainsFunc_Op_Op__impl_GoodProg_1 (p1 : (List GOp)) (p2 : GProg) (p3 : (List GOp)) : Option Bool :=
  Option.bind (slices_IndexFunc_Op_Op__impl_GoodProg_1 p1 p2 p3) fun r4 =>
  some (decide (r4 ≥ 0))
theorem slices_ContainsFunc_Op_Op__impl_GoodProg_1_m {p1 : (List GOp)} {p2 : GProg} {p3 : (List GOp)} {r : Bool} (h : slices_ContainsFunc_Op_Op__impl_GoodProg_1 p1 p2 p3 = some r) : Meets Try.prog 74 [(AV.ro 4 (p1.map o85)), (AV.fn 75 [(AV.rop (r35 p2) 0), (AV.rop (r82 p3) 0)])] (B r) := by
  refine meets_ofC Θ_ok Try.func74 rfl (c := body74) (by kernel_rfl) (Nat.le_of_ble_eq_true rfl) ?_
  intro E hP hn hx
  replace hn : E.n = 9 := hn
  have hm : E.P.follows .mixedOrders = true := by rw [hP]; exact mixed
  have hΘ : TOK E.P Θ := by rw [hP]; exact Θ_ok
  unfold slices_ContainsFunc_Op_Op__impl_GoodProg_1 at h
  show WAt E body74 (FQ (RetE Θ Try.f74.results.toList [] [] (B r) E)) [] ⟨[(0, (AV.ro 4 (p1.map o85))), (1, (AV.fn 75 [(AV.rop (r35 p2) 0), (AV.rop (r82 p3) 0)]))], [], [JJ]⟩
  obtain ⟨r4, hr4, h⟩ := bnS h
  have h := Option.some.inj h
  subst h
  exact go_ret hΘ hm hP hn (hs := [⟨3, .callV [] (I r4), none⟩]) (rh := []) (ph := .raw) (ps := [Meets Try.prog 92 [(AV.ro 4 (p1.map o85)), (AV.fn 75 [(AV.rop (r35 p2) 0), (AV.rop (r82 p3) 0)])] (I r4), litA (I r4) = true, (B (decide (r4 ≥ 0))) = (B (decide (r4 ≥ 0))), litA (B (decide (r4 ≥ 0))) = true]) (by kernel_rfl) ⟨(slices_IndexFunc_Op_Op__impl_GoodProg_1_m hr4), rfl, rfl, rfl, trivial⟩
noncomputable def body43 : Code := match Try.f43.body with | some c => c | none => .skip
noncomputable def impl_GoodProg_l0  (p1 : GProg) : Nat → GProg → Int → Option Bool
  | 0, _, _ => none
  | n + 1, a14, v15 =>
  if (decide (v15 < (p1.Routines.length : Int))) = true then
    Option.bind (rd p1.Routines v15) fun x17 =>
    if (decide ((x17.length : Int) > 24)) = true then
      some false
    else
      Option.bind (slices_ContainsFunc_Op_Op__impl_GoodProg_1 x17 a14 x17) fun r20 =>
      if r20 = true then
        some false
      else
        impl_GoodProg_l0 p1 n a14 (w64 (v15 + 1))
  else
    some true
theorem impl_GoodProg_l0_m {E : Env} (hP : E.P = Try.prog) (hn : E.n = 44) (hx : ∀ p, p ∈ E.fx → p.1 ∈ ([] : List Nat)) (p1 : GProg)  : ∀ (n : Nat) (a14 : GProg) (v15 : Int) (r : Bool), impl_GoodProg_l0 p1 n a14 v15 = some r → WAt E body43 (FQ (RetE Θ Try.f43.results.toList [] [] (B r) E)) [true, true, false, true, false] ⟨[(1, (AV.ptr 1 0 0)), (29, (AV.ro 1 (p1.Routines.map r82))), (30, (I (p1.Routines.length : Int))), (31, (I v15))], [(1, some ⟨35, 4, [((r35 a14))]⟩)], [1, JJ]⟩ := by
  have hm : E.P.follows .mixedOrders = true := by rw [hP]; exact mixed
  have hΘ : TOK E.P Θ := by rw [hP]; exact Θ_ok
  intro n
  induction n with
  | zero => intro a14 v15 r h; simp only [impl_GoodProg_l0] at h; cases h
  | succ n ih =>
    intro a14 v15 r h
    simp only [impl_GoodProg_l0] at h
    rcases itS h with ⟨c16, h⟩ | ⟨c23, h⟩
    · obtain ⟨x17, hx17, h⟩ := bnS h
      rcases itS h with ⟨c18, h⟩ | ⟨c19, h⟩
      · have h := Option.some.inj h
        subst h
        exact go_ret hΘ hm hP hn (hs := [⟨1, .br true, none⟩, ⟨2, .row (r82 x17), none⟩, ⟨4, .new 1001, none⟩, ⟨7, .no, some (I (x17.length : Int))⟩, ⟨9, .no, some (B true)⟩]) (rh := []) (ph := .raw) (ps := [(decide (v15 < (p1.Routines.length : Int))) = true, (0 : Int) ≤ v15, (p1.Routines.map r82)[(Int.toNat v15)]? = some (r82 x17), AV.lit (.int .i64 (((x17.map o85).length : Nat) : Int)) = (I (x17.length : Int)), (B (decide ((x17.length : Int) > 24))) = (B true), (B false) = (B false), litA (B false) = true]) (by kernel_rfl) ⟨c16, (rd0 hx17), (rdM r82 hx17), (lenM o85), (litB c18), rfl, rfl, trivial⟩
      · obtain ⟨r20, hr20, h⟩ := bnS h
        rcases itS h with ⟨c21, h⟩ | ⟨c22, h⟩
        · have h := Option.some.inj h
          subst h
          exact go_ret hΘ hm hP hn (hs := [⟨1, .br true, none⟩, ⟨2, .row (r82 x17), none⟩, ⟨4, .new 1001, none⟩, ⟨7, .no, some (I (x17.length : Int))⟩, ⟨9, .no, some (B false)⟩, ⟨12, .callV [[((r35 a14)), (r35 a14)], [[(AV.ro 4 (x17.map o85))], (r82 x17)]] (B r20), none⟩, ⟨14, .br true, none⟩]) (rh := []) (ph := .raw) (ps := [(decide (v15 < (p1.Routines.length : Int))) = true, (0 : Int) ≤ v15, (p1.Routines.map r82)[(Int.toNat v15)]? = some (r82 x17), AV.lit (.int .i64 (((x17.map o85).length : Nat) : Int)) = (I (x17.length : Int)), (B (decide ((x17.length : Int) > 24))) = (B false), Meets Try.prog 74 [(AV.ro 4 (x17.map o85)), (AV.fn 75 [(AV.rop (r35 a14) 0), (AV.rop (r82 x17) 0)])] (B r20), litA (B r20) = true, [((r35 a14))][0]? = some ((r35 a14)), treeL ((r35 a14)) = true, frzL ((r35 a14)) = (r35 a14), [[(AV.ro 4 (x17.map o85))]][0]? = some [(AV.ro 4 (x17.map o85))], treeL [(AV.ro 4 (x17.map o85))] = true, frzL [(AV.ro 4 (x17.map o85))] = (r82 x17), r20 = true, (B false) = (B false), litA (B false) = true]) (by kernel_rfl) ⟨c16, (rd0 hx17), (rdM r82 hx17), (lenM o85), (litB c19), (slices_ContainsFunc_Op_Op__impl_GoodProg_1_m hr20), rfl, rfl, rfl, rfl, rfl, rfl, rfl, c21, rfl, rfl, trivial⟩
        · exact go_to hΘ hm hx hP hn (hs := [⟨1, .br true, none⟩, ⟨2, .row (r82 x17), none⟩, ⟨4, .new 1001, none⟩, ⟨7, .no, some (I (x17.length : Int))⟩, ⟨9, .no, some (B false)⟩, ⟨12, .callV [[((r35 a14)), (r35 a14)], [[(AV.ro 4 (x17.map o85))], (r82 x17)]] (B r20), none⟩, ⟨14, .br false, none⟩]) (π := [(1, 1)]) (ts := [1, 29, 30, 31]) (kp := []) (ps := [(decide (v15 < (p1.Routines.length : Int))) = true, (0 : Int) ≤ v15, (p1.Routines.map r82)[(Int.toNat v15)]? = some (r82 x17), AV.lit (.int .i64 (((x17.map o85).length : Nat) : Int)) = (I (x17.length : Int)), (B (decide ((x17.length : Int) > 24))) = (B false), Meets Try.prog 74 [(AV.ro 4 (x17.map o85)), (AV.fn 75 [(AV.rop (r35 a14) 0), (AV.rop (r82 x17) 0)])] (B r20), litA (B r20) = true, [((r35 a14))][0]? = some ((r35 a14)), treeL ((r35 a14)) = true, frzL ((r35 a14)) = (r35 a14), [[(AV.ro 4 (x17.map o85))]][0]? = some [(AV.ro 4 (x17.map o85))], treeL [(AV.ro 4 (x17.map o85))] = true, frzL [(AV.ro 4 (x17.map o85))] = (r82 x17), r20 = false, RenOK [(1, 1)] [((r35 a14))]]) (by kernel_rfl) ⟨c16, (rd0 hx17), (rdM r82 hx17), (lenM o85), (litB c19), (slices_ContainsFunc_Op_Op__impl_GoodProg_1_m hr20), rfl, rfl, rfl, rfl, rfl, rfl, rfl, c22, (rok (treeB t35 a14)), trivial⟩ (ih a14 (w64 (v15 + 1)) _ h)
    · have h := Option.some.inj h
      subst h
      exact go_ret hΘ hm hP hn (hs := [⟨1, .br false, none⟩]) (rh := []) (ph := .raw) (ps := [(decide (v15 < (p1.Routines.length : Int))) = false, (B true) = (B true), litA (B true) = true]) (by kernel_rfl) ⟨c23, rfl, rfl, trivial⟩
noncomputable def impl_GoodProg (p1 : GProg) : Option Bool :=
  Option.bind (impl_in p1.Cells 0 4) fun r2 =>
  if (!r2) = true then
    some false
  else
    Option.bind (impl_in p1.Locks 0 4) fun r5 =>
    if (!r5) = true then
      some false
    else
      Option.bind (impl_in p1.Conds 0 2) fun r8 =>
      if (!r8) = true then
        some false
      else
        Option.bind (impl_in (p1.Routines.length : Int) 1 4) fun r11 =>
        if (!r11) = true then
          some false
        else
          impl_GoodProg_l0 p1 FU p1 0
theorem impl_GoodProg_m {p1 : GProg} {r : Bool} (h : impl_GoodProg p1 = some r) : Meets Try.prog 43 [(AV.agg ((r35 p1)))] (B r) := by
  refine meets_ofC Θ_ok Try.func43 rfl (c := body43) (by kernel_rfl) (Nat.le_of_ble_eq_true rfl) ?_
  intro E hP hn hx
  replace hn : E.n = 44 := hn
  have hm : E.P.follows .mixedOrders = true := by rw [hP]; exact mixed
  have hΘ : TOK E.P Θ := by rw [hP]; exact Θ_ok
  unfold impl_GoodProg at h
  show WAt E body43 (FQ (RetE Θ Try.f43.results.toList [] [] (B r) E)) [] ⟨[(0, (AV.agg ((r35 p1))))], [], [JJ]⟩
  obtain ⟨r2, hr2, h⟩ := bnS h
  rcases itS h with ⟨c3, h⟩ | ⟨c4, h⟩
  · have h := Option.some.inj h
    subst h
    exact go_ret hΘ hm hP hn (hs := [⟨0, .new 1001, none⟩, ⟨4, .callV [] (B r2), none⟩, ⟨6, .no, some (B true)⟩]) (rh := []) (ph := .raw) (ps := [Meets Try.prog 44 [(I p1.Cells), (I 0), (I 4)] (B r2), litA (B r2) = true, (B (!r2)) = (B true), (B false) = (B false), litA (B false) = true]) (by kernel_rfl) ⟨(impl_in_m hr2), rfl, (litB c3), rfl, rfl, trivial⟩
  · obtain ⟨r5, hr5, h⟩ := bnS h
    rcases itS h with ⟨c6, h⟩ | ⟨c7, h⟩
    · have h := Option.some.inj h
      subst h
      exact go_ret hΘ hm hP hn (hs := [⟨0, .new 1001, none⟩, ⟨4, .callV [] (B r2), none⟩, ⟨6, .no, some (B false)⟩, ⟨9, .callV [] (B r5), none⟩, ⟨12, .no, some (B true)⟩]) (rh := []) (ph := .raw) (ps := [Meets Try.prog 44 [(I p1.Cells), (I 0), (I 4)] (B r2), litA (B r2) = true, (B (!r2)) = (B false), Meets Try.prog 44 [(I p1.Locks), (I 0), (I 4)] (B r5), litA (B r5) = true, (B (!r5)) = (B true), (B false) = (B false), litA (B false) = true]) (by kernel_rfl) ⟨(impl_in_m hr2), rfl, (litB c4), (impl_in_m hr5), rfl, (litB c6), rfl, rfl, trivial⟩
    · obtain ⟨r8, hr8, h⟩ := bnS h
      rcases itS h with ⟨c9, h⟩ | ⟨c10, h⟩
      · have h := Option.some.inj h
        subst h
        exact go_ret hΘ hm hP hn (hs := [⟨0, .new 1001, none⟩, ⟨4, .callV [] (B r2), none⟩, ⟨6, .no, some (B false)⟩, ⟨9, .callV [] (B r5), none⟩, ⟨12, .no, some (B false)⟩, ⟨15, .callV [] (B r8), none⟩, ⟨18, .no, some (B true)⟩]) (rh := []) (ph := .raw) (ps := [Meets Try.prog 44 [(I p1.Cells), (I 0), (I 4)] (B r2), litA (B r2) = true, (B (!r2)) = (B false), Meets Try.prog 44 [(I p1.Locks), (I 0), (I 4)] (B r5), litA (B r5) = true, (B (!r5)) = (B false), Meets Try.prog 44 [(I p1.Conds), (I 0), (I 2)] (B r8), litA (B r8) = true, (B (!r8)) = (B true), (B false) = (B false), litA (B false) = true]) (by kernel_rfl) ⟨(impl_in_m hr2), rfl, (litB c4), (impl_in_m hr5), rfl, (litB c7), (impl_in_m hr8), rfl, (litB c9), rfl, rfl, trivial⟩
      · obtain ⟨r11, hr11, h⟩ := bnS h
        rcases itS h with ⟨c12, h⟩ | ⟨c13, h⟩
        · have h := Option.some.inj h
          subst h
          exact go_ret hΘ hm hP hn (hs := [⟨0, .new 1001, none⟩, ⟨4, .callV [] (B r2), none⟩, ⟨6, .no, some (B false)⟩, ⟨9, .callV [] (B r5), none⟩, ⟨12, .no, some (B false)⟩, ⟨15, .callV [] (B r8), none⟩, ⟨18, .no, some (B false)⟩, ⟨21, .no, some (I (p1.Routines.length : Int))⟩, ⟨22, .callV [] (B r11), none⟩, ⟨25, .br true, none⟩]) (rh := []) (ph := .raw) (ps := [Meets Try.prog 44 [(I p1.Cells), (I 0), (I 4)] (B r2), litA (B r2) = true, (B (!r2)) = (B false), Meets Try.prog 44 [(I p1.Locks), (I 0), (I 4)] (B r5), litA (B r5) = true, (B (!r5)) = (B false), Meets Try.prog 44 [(I p1.Conds), (I 0), (I 2)] (B r8), litA (B r8) = true, (B (!r8)) = (B false), AV.lit (.int .i64 (((p1.Routines.map r82).length : Nat) : Int)) = (I (p1.Routines.length : Int)), Meets Try.prog 44 [(I (p1.Routines.length : Int)), (I 1), (I 4)] (B r11), litA (B r11) = true, (!r11) = true, (B false) = (B false), litA (B false) = true]) (by kernel_rfl) ⟨(impl_in_m hr2), rfl, (litB c4), (impl_in_m hr5), rfl, (litB c7), (impl_in_m hr8), rfl, (litB c10), (lenM r82), (impl_in_m hr11), rfl, c12, rfl, rfl, trivial⟩
        · exact go_to hΘ hm hx hP hn (hs := [⟨0, .new 1001, none⟩, ⟨4, .callV [] (B r2), none⟩, ⟨6, .no, some (B false)⟩, ⟨9, .callV [] (B r5), none⟩, ⟨12, .no, some (B false)⟩, ⟨15, .callV [] (B r8), none⟩, ⟨18, .no, some (B false)⟩, ⟨21, .no, some (I (p1.Routines.length : Int))⟩, ⟨22, .callV [] (B r11), none⟩, ⟨25, .br false, none⟩, ⟨28, .no, some (I (p1.Routines.length : Int))⟩]) (π := [(1001, 1)]) (ts := [1, 29, 30, 31]) (kp := []) (ps := [Meets Try.prog 44 [(I p1.Cells), (I 0), (I 4)] (B r2), litA (B r2) = true, (B (!r2)) = (B false), Meets Try.prog 44 [(I p1.Locks), (I 0), (I 4)] (B r5), litA (B r5) = true, (B (!r5)) = (B false), Meets Try.prog 44 [(I p1.Conds), (I 0), (I 2)] (B r8), litA (B r8) = true, (B (!r8)) = (B false), AV.lit (.int .i64 (((p1.Routines.map r82).length : Nat) : Int)) = (I (p1.Routines.length : Int)), Meets Try.prog 44 [(I (p1.Routines.length : Int)), (I 1), (I 4)] (B r11), litA (B r11) = true, (!r11) = false, AV.lit (.int .i64 (((p1.Routines.map r82).length : Nat) : Int)) = (I (p1.Routines.length : Int)), RenOK [(1001, 1)] [((r35 p1))]]) (by kernel_rfl) ⟨(impl_in_m hr2), rfl, (litB c4), (impl_in_m hr5), rfl, (litB c7), (impl_in_m hr8), rfl, (litB c10), (lenM r82), (impl_in_m hr11), rfl, c13, (lenM r82), (rok (treeB t35 p1)), trivial⟩ (impl_GoodProg_l0_m hP hn hx p1 FU p1 0 _ h)
noncomputable def body87 : Code := match Try.f87.body with | some c => c | none => .skip
noncomputable def slices_Compact_int_int_l1 (K0 : (List Int) → Int → Option (List Int)) (p1 : (List Int)) (a4 : (List Int)) (v5 : Int) : Nat → (List Int) → Int → Int → Option (List Int)
  | 0, _, _, _ => none
  | n + 1, a11, v12, v13 =>
  if (decide (v13 < (((subO (Int.toNat (((a4.map o3).length : Nat) : Int)) (Int.toNat v5)) : Nat) : Int))) = true then
    Option.bind (rdc a11 (Int.toNat v5) (subO (Int.toNat (((a4.map o3).length : Nat) : Int)) (Int.toNat v5)) v13) fun x15 =>
    Option.bind (rdc a11 (Int.toNat v5) (subO (Int.toNat (((a4.map o3).length : Nat) : Int)) (Int.toNat v5)) (w64 (v13 - 1))) fun x16 =>
    if (x15 != x16) = true then
      Option.bind (rdc a11 (Int.toNat v5) (subO (Int.toNat (((a4.map o3).length : Nat) : Int)) (Int.toNat v5)) v13) fun x18 =>
      Option.bind (rd a11 v12) fun x19 =>
      slices_Compact_int_int_l1 K0 p1 a4 v5 n (a11.set (Int.toNat v12) x18) (w64 (v12 + 1)) (w64 (v13 + 1))
    else
      slices_Compact_int_int_l1 K0 p1 a4 v5 n a11 v12 (w64 (v13 + 1))
  else
    Option.bind (slc a11 v12 (a11.length : Int)) fun l22 =>
    Option.bind (slc (clrT a11 0 (Int.toNat v12) (subO (Int.toNat (((a11.map o3).length : Nat) : Int)) (Int.toNat v12))) 0 v12) fun l23 =>
    some l23
theorem slices_Compact_int_int_l1_m {E : Env} (hP : E.P = Try.prog) (hn : E.n = 61) (hx : ∀ p, p ∈ E.fx → p.1 ∈ ([] : List Nat)) (p1 : (List Int)) (a4 : (List Int)) (v5 : Int) {K0 : (List Int) → Int → Option (List Int)} (hK0 : ∀ (a4 : (List Int)) (v5 : Int) (r : (List Int)), K0 a4 v5 = some r → WAt E body87 (FQ (RetE Θ Try.f87.results.toList [false] [⟨3, 1, (p1.map o3)⟩] (AV.own 3 1 (r.map o3)) E)) [true, true, false, true, false] ⟨[(0, (AV.sl 1 0 (List.length (a4.map o3)))), (3, (I v5))], [(1, some ⟨3, 1, (a4.map o3)⟩)], [1, JJ]⟩) : ∀ (n : Nat) (a11 : (List Int)) (v12 : Int) (v13 : Int) (r : (List Int)), slices_Compact_int_int_l1 K0 p1 a4 v5 n a11 v12 v13 = some r → WAt E body87 (FQ (RetE Θ Try.f87.results.toList [false] [⟨3, 1, (p1.map o3)⟩] (AV.own 3 1 (r.map o3)) E)) [true, true, false, true, false, false, true, false, false, true, false, true, false, true, false] ⟨[(0, (AV.sl 1 0 (List.length (a11.map o3)))), (3, (I v12)), (4, (AV.sl 1 (Int.toNat v5) (subO (Int.toNat (((a4.map o3).length : Nat) : Int)) (Int.toNat v5)))), (5, (I v13))], [(1, some ⟨3, 1, (a11.map o3)⟩)], [1, JJ]⟩ := by
  have hm : E.P.follows .mixedOrders = true := by rw [hP]; exact mixed
  have hΘ : TOK E.P Θ := by rw [hP]; exact Θ_ok
  intro n
  induction n with
  | zero => intro a11 v12 v13 r h; simp only [slices_Compact_int_int_l1] at h; cases h
  | succ n ih =>
    intro a11 v12 v13 r h
    simp only [slices_Compact_int_int_l1] at h
    rcases itS h with ⟨c14, h⟩ | ⟨c21, h⟩
    · obtain ⟨x15, hx15, h⟩ := bnS h
      obtain ⟨x16, hx16, h⟩ := bnS h
      rcases itS h with ⟨c17, h⟩ | ⟨c20, h⟩
      · obtain ⟨x18, hx18, h⟩ := bnS h
        obtain ⟨x19, hx19, h⟩ := bnS h
        exact go_to hΘ hm hx hP hn (hs := [⟨2, .no, some (I (((subO (Int.toNat (((a4.map o3).length : Nat) : Int)) (Int.toNat v5)) : Nat) : Int))⟩, ⟨4, .br true, none⟩, ⟨8, .row [(I x15)], none⟩, ⟨13, .row [(I x16)], none⟩, ⟨15, .br true, none⟩, ⟨21, .row [(I x18)], none⟩, ⟨23, .sto [(I x19)] ((a11.set (Int.toNat v12) x18).map o3), none⟩, ⟨30, .slen 0 (List.length ((a11.set (Int.toNat v12) x18).map o3)), none⟩]) (π := [(1, 1)]) (ts := [0, 3, 4, 5]) (kp := []) (ps := [AV.lit (.int .i64 (((subO (Int.toNat (((a4.map o3).length : Nat) : Int)) (Int.toNat v5)) : Nat) : Int)) = (I (((subO (Int.toNat (((a4.map o3).length : Nat) : Int)) (Int.toNat v5)) : Nat) : Int)), (decide (v13 < (((subO (Int.toNat (((a4.map o3).length : Nat) : Int)) (Int.toNat v5)) : Nat) : Int))) = true, (0 : Int) ≤ v13, v13 < (((subO (Int.toNat (((a4.map o3).length : Nat) : Int)) (Int.toNat v5)) : Nat) : Int), (a11.map o3)[(addO (Int.toNat v5) (Int.toNat v13))]? = some [(I x15)], (0 : Int) ≤ (w64 (v13 - 1)), (w64 (v13 - 1)) < (((subO (Int.toNat (((a4.map o3).length : Nat) : Int)) (Int.toNat v5)) : Nat) : Int), (a11.map o3)[(addO (Int.toNat v5) (Int.toNat (w64 (v13 - 1))))]? = some [(I x16)], (x15 != x16) = true, (0 : Int) ≤ v13, v13 < (((subO (Int.toNat (((a4.map o3).length : Nat) : Int)) (Int.toNat v5)) : Nat) : Int), (a11.map o3)[(addO (Int.toNat v5) (Int.toNat v13))]? = some [(I x18)], (0 : Int) ≤ v12, v12 < (((List.length (a11.map o3)) : Nat) : Int), (a11.map o3)[(Int.toNat v12)]? = some [(I x19)], (a11.map o3).set (Int.toNat v12) (wr [(I x19)] 0 [(I x18)]) = ((a11.set (Int.toNat v12) x18).map o3), [(I x18)].length = 1, 0 + [(I x18)].length ≤ [(I x19)].length, (List.length (a11.map o3)) = (List.length ((a11.set (Int.toNat v12) x18).map o3)), RenOK [(1, 1)] ((a11.set (Int.toNat v12) x18).map o3)]) (by kernel_rfl) ⟨rfl, c14, (rdc0 hx15), (rdcL hx15), (rdM o3 (rdcR hx15)), (rdc0 hx16), (rdcL hx16), (rdM o3 (rdcR hx16)), c17, (rdc0 hx18), (rdcL hx18), (rdM o3 (rdcR hx18)), (rd0 hx19), (rdL o3 hx19), (rdM o3 hx19), (setM o3), rfl, (Nat.le_of_ble_eq_true rfl), (by first | exact lnSet _ | exact lnSet2 _ | simp only [List.length_map, List.length_set, List.length_cons, List.length_nil]), (rok (treeM t3)), trivial⟩ (ih (a11.set (Int.toNat v12) x18) (w64 (v12 + 1)) (w64 (v13 + 1)) _ h)
      · exact go_to hΘ hm hx hP hn (hs := [⟨2, .no, some (I (((subO (Int.toNat (((a4.map o3).length : Nat) : Int)) (Int.toNat v5)) : Nat) : Int))⟩, ⟨4, .br true, none⟩, ⟨8, .row [(I x15)], none⟩, ⟨13, .row [(I x16)], none⟩, ⟨15, .br false, none⟩]) (π := [(1, 1)]) (ts := [0, 3, 4, 5]) (kp := []) (ps := [AV.lit (.int .i64 (((subO (Int.toNat (((a4.map o3).length : Nat) : Int)) (Int.toNat v5)) : Nat) : Int)) = (I (((subO (Int.toNat (((a4.map o3).length : Nat) : Int)) (Int.toNat v5)) : Nat) : Int)), (decide (v13 < (((subO (Int.toNat (((a4.map o3).length : Nat) : Int)) (Int.toNat v5)) : Nat) : Int))) = true, (0 : Int) ≤ v13, v13 < (((subO (Int.toNat (((a4.map o3).length : Nat) : Int)) (Int.toNat v5)) : Nat) : Int), (a11.map o3)[(addO (Int.toNat v5) (Int.toNat v13))]? = some [(I x15)], (0 : Int) ≤ (w64 (v13 - 1)), (w64 (v13 - 1)) < (((subO (Int.toNat (((a4.map o3).length : Nat) : Int)) (Int.toNat v5)) : Nat) : Int), (a11.map o3)[(addO (Int.toNat v5) (Int.toNat (w64 (v13 - 1))))]? = some [(I x16)], (x15 != x16) = false, RenOK [(1, 1)] (a11.map o3)]) (by kernel_rfl) ⟨rfl, c14, (rdc0 hx15), (rdcL hx15), (rdM o3 (rdcR hx15)), (rdc0 hx16), (rdcL hx16), (rdM o3 (rdcR hx16)), c20, (rok (treeM t3)), trivial⟩ (ih a11 v12 (w64 (v13 + 1)) _ h)
    · obtain ⟨l22, hl22, h⟩ := bnS h
      obtain ⟨l23, hl23, h⟩ := bnS h
      have h := Option.some.inj h
      subst h
      exact go_ret hΘ hm hP hn (hs := [⟨2, .no, some (I (((subO (Int.toNat (((a4.map o3).length : Nat) : Int)) (Int.toNat v5)) : Nat) : Int))⟩, ⟨4, .br false, none⟩, ⟨8, .clr ((clrT a11 0 (Int.toNat v12) (subO (Int.toNat (((a11.map o3).length : Nat) : Int)) (Int.toNat v12))).map o3), none⟩, ⟨9, .slen 0 (List.length ((clrT a11 0 (Int.toNat v12) (subO (Int.toNat (((a11.map o3).length : Nat) : Int)) (Int.toNat v12))).map o3)), none⟩]) (rh := []) (ph := .own) (ps := [AV.lit (.int .i64 (((subO (Int.toNat (((a4.map o3).length : Nat) : Int)) (Int.toNat v5)) : Nat) : Int)) = (I (((subO (Int.toNat (((a4.map o3).length : Nat) : Int)) (Int.toNat v5)) : Nat) : Int)), (decide (v13 < (((subO (Int.toNat (((a4.map o3).length : Nat) : Int)) (Int.toNat v5)) : Nat) : Int))) = false, (0 : Int) ≤ v12, v12 ≤ (((a11.map o3).length : Nat) : Int), (((a11.map o3).length : Nat) : Int) ≤ (((List.length (a11.map o3)) : Nat) : Int), litR (a11.map o3) = true, (Int.toNat v12) + (subO (Int.toNat (((a11.map o3).length : Nat) : Int)) (Int.toNat v12)) ≤ (a11.map o3).length, ovr_ (a11.map o3) (Int.toNat v12) (List.replicate (subO (Int.toNat (((a11.map o3).length : Nat) : Int)) (Int.toNat v12)) (o3 0)) = ((clrT a11 0 (Int.toNat v12) (subO (Int.toNat (((a11.map o3).length : Nat) : Int)) (Int.toNat v12))).map o3), (List.length (a11.map o3)) = (List.length ((clrT a11 0 (Int.toNat v12) (subO (Int.toNat (((a11.map o3).length : Nat) : Int)) (Int.toNat v12))).map o3)), (0 : Int) ≤ 0, 0 ≤ v12, v12 ≤ (((List.length ((clrT a11 0 (Int.toNat v12) (subO (Int.toNat (((a11.map o3).length : Nat) : Int)) (Int.toNat v12))).map o3)) : Nat) : Int), treeLL (((clrT a11 0 (Int.toNat v12) (subO (Int.toNat (((a11.map o3).length : Nat) : Int)) (Int.toNat v12))).map o3).take (Int.toNat v12)) = true, ((clrT a11 0 (Int.toNat v12) (subO (Int.toNat (((a11.map o3).length : Nat) : Int)) (Int.toNat v12))).map o3).take (Int.toNat v12) = (l23.map o3), noRoLL (l23.map o3) = true]) (by kernel_rfl) ⟨rfl, c21, (sl0 hl22), (sl1e o3 hl22), (Int.le_refl _), (litR_map (fun _ => rfl) _), (clBe o3 hl22), (clrM o3 rfl), (lnClre o3 hl22), (sl0 hl23), (sl1 hl23), (sl2 o3 hl23), (treeW0 t3 hl23), (winT0 o3 hl23), (noRoM n3), trivial⟩
noncomputable def slices_Compact_int_int_l0  (p1 : (List Int)) : Nat → (List Int) → Int → Option (List Int)
  | 0, _, _ => none
  | n + 1, a4, v5 =>
  if (decide (v5 < (a4.length : Int))) = true then
    Option.bind (rd a4 v5) fun x7 =>
    Option.bind (rd a4 (w64 (v5 - 1))) fun x8 =>
    if (x7 == x8) = true then
      Option.bind (slc a4 v5 (a4.length : Int)) fun l10 =>
      slices_Compact_int_int_l1 (slices_Compact_int_int_l0 p1 n) p1 a4 v5 FU a4 v5 1
    else
      slices_Compact_int_int_l0 p1 n a4 (w64 (v5 + 1))
  else
    some a4
theorem slices_Compact_int_int_l0_m {E : Env} (hP : E.P = Try.prog) (hn : E.n = 61) (hx : ∀ p, p ∈ E.fx → p.1 ∈ ([] : List Nat)) (p1 : (List Int))  : ∀ (n : Nat) (a4 : (List Int)) (v5 : Int) (r : (List Int)), slices_Compact_int_int_l0 p1 n a4 v5 = some r → WAt E body87 (FQ (RetE Θ Try.f87.results.toList [false] [⟨3, 1, (p1.map o3)⟩] (AV.own 3 1 (r.map o3)) E)) [true, true, false, true, false] ⟨[(0, (AV.sl 1 0 (List.length (a4.map o3)))), (3, (I v5))], [(1, some ⟨3, 1, (a4.map o3)⟩)], [1, JJ]⟩ := by
  have hm : E.P.follows .mixedOrders = true := by rw [hP]; exact mixed
  have hΘ : TOK E.P Θ := by rw [hP]; exact Θ_ok
  intro n
  induction n with
  | zero => intro a4 v5 r h; simp only [slices_Compact_int_int_l0] at h; cases h
  | succ n ih =>
    intro a4 v5 r h
    simp only [slices_Compact_int_int_l0] at h
    rcases itS h with ⟨c6, h⟩ | ⟨c25, h⟩
    · obtain ⟨x7, hx7, h⟩ := bnS h
      obtain ⟨x8, hx8, h⟩ := bnS h
      rcases itS h with ⟨c9, h⟩ | ⟨c24, h⟩
      · obtain ⟨l10, hl10, h⟩ := bnS h
        exact go_to hΘ hm hx hP hn (hs := [⟨2, .no, some (I (a4.length : Int))⟩, ⟨4, .br true, none⟩, ⟨8, .row [(I x7)], none⟩, ⟨13, .row [(I x8)], none⟩, ⟨15, .br true, none⟩]) (π := [(1, 1)]) (ts := [0, 3, 4, 5]) (kp := []) (ps := [AV.lit (.int .i64 (((List.length (a4.map o3)) : Nat) : Int)) = (I (a4.length : Int)), (decide (v5 < (a4.length : Int))) = true, (0 : Int) ≤ v5, v5 < (((List.length (a4.map o3)) : Nat) : Int), (a4.map o3)[(Int.toNat v5)]? = some [(I x7)], (0 : Int) ≤ (w64 (v5 - 1)), (w64 (v5 - 1)) < (((List.length (a4.map o3)) : Nat) : Int), (a4.map o3)[(Int.toNat (w64 (v5 - 1)))]? = some [(I x8)], (x7 == x8) = true, (0 : Int) ≤ v5, v5 ≤ (((a4.map o3).length : Nat) : Int), (((a4.map o3).length : Nat) : Int) ≤ (((List.length (a4.map o3)) : Nat) : Int), RenOK [(1, 1)] (a4.map o3)]) (by kernel_rfl) ⟨(lenM o3), c6, (rd0 hx7), (rdL o3 hx7), (rdM o3 hx7), (rd0 hx8), (rdL o3 hx8), (rdM o3 hx8), c9, (sl0 hl10), (sl1e o3 hl10), (Int.le_refl _), (rok (treeM t3)), trivial⟩ (slices_Compact_int_int_l1_m hP hn hx p1 a4 v5 ih FU a4 v5 1 _ h)
      · exact go_to hΘ hm hx hP hn (hs := [⟨2, .no, some (I (a4.length : Int))⟩, ⟨4, .br true, none⟩, ⟨8, .row [(I x7)], none⟩, ⟨13, .row [(I x8)], none⟩, ⟨15, .br false, none⟩]) (π := [(1, 1)]) (ts := [0, 3]) (kp := []) (ps := [AV.lit (.int .i64 (((List.length (a4.map o3)) : Nat) : Int)) = (I (a4.length : Int)), (decide (v5 < (a4.length : Int))) = true, (0 : Int) ≤ v5, v5 < (((List.length (a4.map o3)) : Nat) : Int), (a4.map o3)[(Int.toNat v5)]? = some [(I x7)], (0 : Int) ≤ (w64 (v5 - 1)), (w64 (v5 - 1)) < (((List.length (a4.map o3)) : Nat) : Int), (a4.map o3)[(Int.toNat (w64 (v5 - 1)))]? = some [(I x8)], (x7 == x8) = false, RenOK [(1, 1)] (a4.map o3)]) (by kernel_rfl) ⟨(lenM o3), c6, (rd0 hx7), (rdL o3 hx7), (rdM o3 hx7), (rd0 hx8), (rdL o3 hx8), (rdM o3 hx8), c24, (rok (treeM t3)), trivial⟩ (ih a4 (w64 (v5 + 1)) _ h)
    · have h := Option.some.inj h
      subst h
      exact go_ret hΘ hm hP hn (hs := [⟨2, .no, some (I (a4.length : Int))⟩, ⟨4, .br false, none⟩]) (rh := []) (ph := .own) (ps := [AV.lit (.int .i64 (((List.length (a4.map o3)) : Nat) : Int)) = (I (a4.length : Int)), (decide (v5 < (a4.length : Int))) = false, treeLL ((a4.map o3).take (List.length (a4.map o3))) = true, (a4.map o3).take (List.length (a4.map o3)) = (a4.map o3), noRoLL (a4.map o3) = true]) (by kernel_rfl) ⟨(lenM o3), c25, (treeT t3), takeM, (noRoM n3), trivial⟩
noncomputable def slices_Compact_int_int (p1 : (List Int)) : Option (List Int) :=
  if (decide ((p1.length : Int) < 2)) = true then
    some p1
  else
    slices_Compact_int_int_l0 p1 FU p1 1
theorem slices_Compact_int_int_m {p1 : (List Int)} {r : (List Int)} (h : slices_Compact_int_int p1 = some r) : MeetsR Try.prog 87 [⟨3, 1, (p1.map o3)⟩] [(AV.sl 0 0 (List.length (p1.map o3)))] [false] [⟨3, 1, (p1.map o3)⟩] (AV.own 3 1 (r.map o3)) := by
  refine meetsR_of Θ_ok Try.func87 rfl (c := body87) (by kernel_rfl) (Nat.le_of_ble_eq_true rfl) rfl (Nat.le_of_ble_eq_true rfl) rfl (fr := []) (frI rfl) ?_
  intro E hP hn hx
  replace hn : E.n = 61 := hn
  have hm : E.P.follows .mixedOrders = true := by rw [hP]; exact mixed
  have hΘ : TOK E.P Θ := by rw [hP]; exact Θ_ok
  unfold slices_Compact_int_int at h
  show WAt E body87 (FQ (RetE Θ Try.f87.results.toList [false] [⟨3, 1, (p1.map o3)⟩] (AV.own 3 1 (r.map o3)) E)) [] ⟨[(0, (AV.sl 0 0 (List.length (p1.map o3))))], [(0, some ⟨3, 1, (p1.map o3)⟩)], [0, JJ]⟩
  rcases itS h with ⟨c2, h⟩ | ⟨c3, h⟩
  · have h := Option.some.inj h
    subst h
    exact go_ret hΘ hm hP hn (hs := [⟨2, .no, some (I (p1.length : Int))⟩, ⟨4, .br true, none⟩]) (rh := []) (ph := .own) (ps := [AV.lit (.int .i64 (((List.length (p1.map o3)) : Nat) : Int)) = (I (p1.length : Int)), (decide ((p1.length : Int) < 2)) = true, treeLL ((p1.map o3).take (List.length (p1.map o3))) = true, (p1.map o3).take (List.length (p1.map o3)) = (p1.map o3), noRoLL (p1.map o3) = true]) (by kernel_rfl) ⟨(lenM o3), c2, (treeT t3), takeM, (noRoM n3), trivial⟩
  · exact go_to hΘ hm hx hP hn (hs := [⟨2, .no, some (I (p1.length : Int))⟩, ⟨4, .br false, none⟩]) (π := [(0, 1)]) (ts := [0, 3]) (kp := []) (ps := [AV.lit (.int .i64 (((List.length (p1.map o3)) : Nat) : Int)) = (I (p1.length : Int)), (decide ((p1.length : Int) < 2)) = false, RenOK [(0, 1)] (p1.map o3)]) (by kernel_rfl) ⟨(lenM o3), c3, (rok (treeM t3)), trivial⟩ (slices_Compact_int_int_l0_m hP hn hx p1 FU p1 1 _ h)
section
open Go.RowKit Go.Sort Go.Shelf Go.Proofs
shelf_lay_g SlLaysM.n5 Slgm 5 at Try 86 as Try.srt86
end
noncomputable def slices_Sort_int_int (p1 : (List Int)) : Option (Unit × (List Int)) :=
  srtL p1
theorem slices_Sort_int_int_m {p1 : (List Int)} {r : (Unit × (List Int))} (h : slices_Sort_int_int p1 = some r) : MeetsR Try.prog 86 [⟨3, 1, (p1.map o3)⟩] [(AV.sl 0 0 (List.length (p1.map o3)))] [true] [⟨3, 1, (r.2.map o3)⟩] (AV.tup []) := by
  obtain ⟨h1, rfl⟩ := srtE h
  exact meetsR_sortI Try.srt86 (Go.Proofs.enters_of Try.func86 rfl rfl) 3 p1 h1
noncomputable def body63 : Code := match Try.f63.body with | some c => c | none => .skip
noncomputable def impl_rising (p1 : (List Int)) : Option (List Int) :=
  Option.bind (slices_Sort_int_int p1) fun r2 =>
  Option.bind (sameLen p1 r2.2) fun q3 =>
  Option.bind (slices_Compact_int_int r2.2) fun r4 =>
  some r4
theorem impl_rising_m {p1 : (List Int)} {r : (List Int)} (h : impl_rising p1 = some r) : MeetsR Try.prog 63 [⟨3, 1, (p1.map o3)⟩] [(AV.sl 0 0 (List.length (p1.map o3)))] [false] [⟨3, 1, (p1.map o3)⟩] (AV.own 3 1 (r.map o3)) := by
  refine meetsR_of Θ_ok Try.func63 rfl (c := body63) (by kernel_rfl) (Nat.le_of_ble_eq_true rfl) rfl (Nat.le_of_ble_eq_true rfl) rfl (fr := []) (frI rfl) ?_
  intro E hP hn hx
  replace hn : E.n = 7 := hn
  have hm : E.P.follows .mixedOrders = true := by rw [hP]; exact mixed
  have hΘ : TOK E.P Θ := by rw [hP]; exact Θ_ok
  unfold impl_rising at h
  show WAt E body63 (FQ (RetE Θ Try.f63.results.toList [false] [⟨3, 1, (p1.map o3)⟩] (AV.own 3 1 (r.map o3)) E)) [] ⟨[(0, (AV.sl 0 0 (List.length (p1.map o3))))], [(0, some ⟨3, 1, (p1.map o3)⟩)], [0, JJ]⟩
  obtain ⟨r2, hr2, h⟩ := bnS h
  obtain ⟨q3, hq3, h⟩ := bnS h
  obtain ⟨r4, hr4, h⟩ := bnS h
  have h := Option.some.inj h
  subst h
  exact go_ret hΘ hm hP hn (hs := [⟨2, .callX [0] [true] [⟨3, 1, (p1.map o3)⟩] [⟨3, 1, (r2.2.map o3)⟩] [] (AV.tup []) [] (AV.tup []) [], none⟩, ⟨3, .slen 0 (List.length (r2.2.map o3)), none⟩, ⟨4, .callX [0] [false] [⟨3, 1, (r2.2.map o3)⟩] [⟨3, 1, (r2.2.map o3)⟩] [] (AV.own 3 1 (r4.map o3)) [1001] (AV.sl 1001 0 (List.length (r4.map o3))) [(1001, ⟨3, 1, (r4.map o3)⟩)], none⟩]) (rh := []) (ph := .own) (ps := [MeetsR Try.prog 86 [⟨3, 1, (p1.map o3)⟩] [(AV.sl 0 0 (List.length (p1.map o3)))] [true] [⟨3, 1, (r2.2.map o3)⟩] (AV.tup []), (some (Root.mk 3 1 (p1.map o3)) = some (Root.mk 3 1 (p1.map o3))) ∧ True, (treeLL (p1.map o3) = true ∧ noRoLL (p1.map o3) = true) ∧ True, ((r2.2.map o3).length = (p1.map o3).length) ∧ True, (rtf (renA [(0, 0)] (AV.tup [])) []).1 = (AV.tup []), (rtf (renA [(0, 0)] (AV.tup [])) []).2.1 = [], (List.length (p1.map o3)) = (List.length (r2.2.map o3)), MeetsR Try.prog 87 [⟨3, 1, (r2.2.map o3)⟩] [(AV.sl 0 0 (List.length (r2.2.map o3)))] [false] [⟨3, 1, (r2.2.map o3)⟩] (AV.own 3 1 (r4.map o3)), (some (Root.mk 3 1 (r2.2.map o3)) = some (Root.mk 3 1 (r2.2.map o3))) ∧ True, (treeLL (r2.2.map o3) = true ∧ noRoLL (r2.2.map o3) = true) ∧ True, ((r2.2.map o3).length = (r2.2.map o3).length) ∧ True, (rtf (renA [] (AV.own 3 1 (r4.map o3))) [1001]).1 = (AV.sl 1001 0 (List.length (r4.map o3))), (rtf (renA [] (AV.own 3 1 (r4.map o3))) [1001]).2.1 = [(1001, ⟨3, 1, (r4.map o3)⟩)], treeLL ((r4.map o3).take (List.length (r4.map o3))) = true, (r4.map o3).take (List.length (r4.map o3)) = (r4.map o3), noRoLL (r4.map o3) = true]) (by kernel_rfl) ⟨(slices_Sort_int_int_m hr2), ⟨rfl, trivial⟩, ⟨⟨treeM t3, noRoM n3⟩, trivial⟩, ⟨(sameLenE o3 hq3), trivial⟩, rfl, rfl, (sameLenE o3 hq3).symm, (slices_Compact_int_int_m hr4), ⟨rfl, trivial⟩, ⟨⟨treeM t3, noRoM n3⟩, trivial⟩, ⟨rfl, trivial⟩, rfl, rfl, (treeT t3), takeM, (noRoM n3), trivial⟩
noncomputable def body27 : Code := match Try.f27.body with | some c => c | none => .skip
noncomputable def impl_SpawnsIn_l1 (K0 : (List Int) → Int → Option ((List Int) × Bool)) (p1 : GProg) (v6 : Int) (x8 : (List GOp)) : Nat → (List Int) → Int → Option ((List Int) × Bool)
  | 0, _, _ => none
  | n + 1, a9, v10 =>
  if (decide (v10 < (x8.length : Int))) = true then
    Option.bind (rd x8 v10) fun x12 =>
    if (x12.Code == 14) = true then
      Option.bind (app a9 [x12.A]) fun l14 =>
      impl_SpawnsIn_l1 K0 p1 v6 x8 n l14 (w64 (v10 + 1))
    else
      impl_SpawnsIn_l1 K0 p1 v6 x8 n a9 (w64 (v10 + 1))
  else
    K0 a9 (w64 (v6 + 1))
theorem impl_SpawnsIn_l1_m {E : Env} (hP : E.P = Try.prog) (hn : E.n = 38) (hx : ∀ p, p ∈ E.fx → p.1 ∈ ([] : List Nat)) (p1 : GProg) (v6 : Int) (x8 : (List GOp)) {K0 : (List Int) → Int → Option ((List Int) × Bool)} (hK0 : ∀ (a5 : (List Int)) (v6 : Int) (r : ((List Int) × Bool)), K0 a5 v6 = some r → WAt E body27 (FQ (RetE Θ Try.f27.results.toList [] [] (AV.tup [(AV.own 3 1 (r.1.map o3)), (B r.2)]) E)) [true, true, true, false, true, false] ⟨[(4, (AV.sl 1 0 (List.length (a5.map o3)))), (14, (AV.ro 1 (p1.Routines.map r82))), (15, (I (p1.Routines.length : Int))), (16, (I v6))], [(1, some ⟨3, 1, (a5.map o3)⟩)], [1, JJ]⟩) : ∀ (n : Nat) (a9 : (List Int)) (v10 : Int) (r : ((List Int) × Bool)), impl_SpawnsIn_l1 K0 p1 v6 x8 n a9 v10 = some r → WAt E body27 (FQ (RetE Θ Try.f27.results.toList [] [] (AV.tup [(AV.own 3 1 (r.1.map o3)), (B r.2)]) E)) [true, true, true, false, true, false, false, true, true, false, false, true, true, false] ⟨[(4, (AV.sl 1 0 (List.length (a9.map o3)))), (14, (AV.ro 1 (p1.Routines.map r82))), (15, (I (p1.Routines.length : Int))), (16, (I v6)), (20, (AV.ro 4 (x8.map o85))), (21, (I (x8.length : Int))), (22, (I v10))], [(1, some ⟨3, 1, (a9.map o3)⟩)], [1, JJ]⟩ := by
  have hm : E.P.follows .mixedOrders = true := by rw [hP]; exact mixed
  have hΘ : TOK E.P Θ := by rw [hP]; exact Θ_ok
  intro n
  induction n with
  | zero => intro a9 v10 r h; simp only [impl_SpawnsIn_l1] at h; cases h
  | succ n ih =>
    intro a9 v10 r h
    simp only [impl_SpawnsIn_l1] at h
    rcases itS h with ⟨c11, h⟩ | ⟨c16, h⟩
    · obtain ⟨x12, hx12, h⟩ := bnS h
      rcases itS h with ⟨c13, h⟩ | ⟨c15, h⟩
      · obtain ⟨l14, hl14, h⟩ := bnS h
        exact go_to hΘ hm hx hP hn (hs := [⟨1, .br true, none⟩, ⟨2, .row (o85 x12), none⟩, ⟨4, .new 1001, none⟩, ⟨9, .br true, none⟩, ⟨13, .new 1002, none⟩, ⟨14, .app 1003 (l14.map o3), none⟩]) (π := [(1003, 1)]) (ts := [4, 14, 15, 16, 20, 21, 22]) (kp := []) (ps := [(decide (v10 < (x8.length : Int))) = true, (0 : Int) ≤ v10, (x8.map o85)[(Int.toNat v10)]? = some (o85 x12), (x12.Code == 14) = true, (a9.map o3).take (List.length (a9.map o3)) ++ ((([x12.A].map o3).drop 0).take (List.length ([x12.A].map o3))) = (l14.map o3), ((([x12.A].map o3).drop 0).take (List.length ([x12.A].map o3))).all (fun r => r.all AV.plain) = true, (List.length (l14.map o3)) * 8 ≤ 140737488355328, (List.length (l14.map o3)) ≤ 140737488355328, RenOK [(1003, 1)] (l14.map o3)]) (by kernel_rfl) ⟨c11, (rd0 hx12), (rdM o85 hx12), c13, (appTD o3 hl14), (plD p3), (appB o3 hl14 (by decide)), (appC o3 hl14), (rok (treeM t3)), trivial⟩ (ih l14 (w64 (v10 + 1)) _ h)
      · exact go_to hΘ hm hx hP hn (hs := [⟨1, .br true, none⟩, ⟨2, .row (o85 x12), none⟩, ⟨4, .new 1001, none⟩, ⟨9, .br false, none⟩]) (π := [(1, 1)]) (ts := [4, 14, 15, 16, 20, 21, 22]) (kp := []) (ps := [(decide (v10 < (x8.length : Int))) = true, (0 : Int) ≤ v10, (x8.map o85)[(Int.toNat v10)]? = some (o85 x12), (x12.Code == 14) = false, RenOK [(1, 1)] (a9.map o3)]) (by kernel_rfl) ⟨c11, (rd0 hx12), (rdM o85 hx12), c15, (rok (treeM t3)), trivial⟩ (ih a9 (w64 (v10 + 1)) _ h)
    · exact go_to hΘ hm hx hP hn (hs := [⟨1, .br false, none⟩]) (π := [(1, 1)]) (ts := [4, 14, 15, 16]) (kp := []) (ps := [(decide (v10 < (x8.length : Int))) = false, RenOK [(1, 1)] (a9.map o3)]) (by kernel_rfl) ⟨c16, (rok (treeM t3)), trivial⟩ (hK0 a9 (w64 (v6 + 1)) _ h)
noncomputable def impl_SpawnsIn_l0  (p1 : GProg) : Nat → (List Int) → Int → Option ((List Int) × Bool)
  | 0, _, _ => none
  | n + 1, a5, v6 =>
  if (decide (v6 < (p1.Routines.length : Int))) = true then
    Option.bind (rd p1.Routines v6) fun x8 =>
    impl_SpawnsIn_l1 (impl_SpawnsIn_l0 p1 n) p1 v6 x8 FU a5 0
  else
    Option.bind (impl_rising a5) fun r18 =>
    some (r18, true)
theorem impl_SpawnsIn_l0_m {E : Env} (hP : E.P = Try.prog) (hn : E.n = 38) (hx : ∀ p, p ∈ E.fx → p.1 ∈ ([] : List Nat)) (p1 : GProg)  : ∀ (n : Nat) (a5 : (List Int)) (v6 : Int) (r : ((List Int) × Bool)), impl_SpawnsIn_l0 p1 n a5 v6 = some r → WAt E body27 (FQ (RetE Θ Try.f27.results.toList [] [] (AV.tup [(AV.own 3 1 (r.1.map o3)), (B r.2)]) E)) [true, true, true, false, true, false] ⟨[(4, (AV.sl 1 0 (List.length (a5.map o3)))), (14, (AV.ro 1 (p1.Routines.map r82))), (15, (I (p1.Routines.length : Int))), (16, (I v6))], [(1, some ⟨3, 1, (a5.map o3)⟩)], [1, JJ]⟩ := by
  have hm : E.P.follows .mixedOrders = true := by rw [hP]; exact mixed
  have hΘ : TOK E.P Θ := by rw [hP]; exact Θ_ok
  intro n
  induction n with
  | zero => intro a5 v6 r h; simp only [impl_SpawnsIn_l0] at h; cases h
  | succ n ih =>
    intro a5 v6 r h
    simp only [impl_SpawnsIn_l0] at h
    rcases itS h with ⟨c7, h⟩ | ⟨c17, h⟩
    · obtain ⟨x8, hx8, h⟩ := bnS h
      exact go_to hΘ hm hx hP hn (hs := [⟨1, .br true, none⟩, ⟨2, .row (r82 x8), none⟩, ⟨6, .no, some (I (x8.length : Int))⟩]) (π := [(1, 1)]) (ts := [4, 14, 15, 16, 20, 21, 22]) (kp := []) (ps := [(decide (v6 < (p1.Routines.length : Int))) = true, (0 : Int) ≤ v6, (p1.Routines.map r82)[(Int.toNat v6)]? = some (r82 x8), AV.lit (.int .i64 (((x8.map o85).length : Nat) : Int)) = (I (x8.length : Int)), RenOK [(1, 1)] (a5.map o3)]) (by kernel_rfl) ⟨c7, (rd0 hx8), (rdM r82 hx8), (lenM o85), (rok (treeM t3)), trivial⟩ (impl_SpawnsIn_l1_m hP hn hx p1 v6 x8 ih FU a5 0 _ h)
    · obtain ⟨r18, hr18, h⟩ := bnS h
      have h := Option.some.inj h
      subst h
      exact go_ret hΘ hm hP hn (hs := [⟨1, .br false, none⟩, ⟨3, .callX [1] [false] [⟨3, 1, (a5.map o3)⟩] [⟨3, 1, (a5.map o3)⟩] [] (AV.own 3 1 (r18.map o3)) [1004] (AV.sl 1004 0 (List.length (r18.map o3))) [(1004, ⟨3, 1, (r18.map o3)⟩)], none⟩]) (rh := []) (ph := .agg [.own, .raw]) (ps := [(decide (v6 < (p1.Routines.length : Int))) = false, MeetsR Try.prog 63 [⟨3, 1, (a5.map o3)⟩] [(AV.sl 0 0 (List.length (a5.map o3)))] [false] [⟨3, 1, (a5.map o3)⟩] (AV.own 3 1 (r18.map o3)), (some (Root.mk 3 1 (a5.map o3)) = some (Root.mk 3 1 (a5.map o3))) ∧ True, (treeLL (a5.map o3) = true ∧ noRoLL (a5.map o3) = true) ∧ True, ((a5.map o3).length = (a5.map o3).length) ∧ True, (rtf (renA [] (AV.own 3 1 (r18.map o3))) [1004]).1 = (AV.sl 1004 0 (List.length (r18.map o3))), (rtf (renA [] (AV.own 3 1 (r18.map o3))) [1004]).2.1 = [(1004, ⟨3, 1, (r18.map o3)⟩)], treeLL ((r18.map o3).take (List.length (r18.map o3))) = true, (r18.map o3).take (List.length (r18.map o3)) = (r18.map o3), noRoLL (r18.map o3) = true, (B true) = (B true), litA (B true) = true]) (by kernel_rfl) ⟨c17, (impl_rising_m hr18), ⟨rfl, trivial⟩, ⟨⟨treeM t3, noRoM n3⟩, trivial⟩, ⟨rfl, trivial⟩, rfl, rfl, (treeT t3), takeM, (noRoM n3), rfl, rfl, trivial⟩
noncomputable def impl_SpawnsIn (p1 : GProg) : Option ((List Int) × Bool) :=
  Option.bind (impl_GoodProg p1) fun r2 =>
  if (!r2) = true then
    some ([], false)
  else
    impl_SpawnsIn_l0 p1 FU [] 0
theorem impl_SpawnsIn_m {p1 : GProg} {r : ((List Int) × Bool)} (h : impl_SpawnsIn p1 = some r) : Meets Try.prog 27 [(AV.agg ((r35 p1)))] (AV.tup [(AV.own 3 1 (r.1.map o3)), (B r.2)]) := by
  refine meets_ofC Θ_ok Try.func27 rfl (c := body27) (by kernel_rfl) (Nat.le_of_ble_eq_true rfl) ?_
  intro E hP hn hx
  replace hn : E.n = 38 := hn
  have hm : E.P.follows .mixedOrders = true := by rw [hP]; exact mixed
  have hΘ : TOK E.P Θ := by rw [hP]; exact Θ_ok
  unfold impl_SpawnsIn at h
  show WAt E body27 (FQ (RetE Θ Try.f27.results.toList [] [] (AV.tup [(AV.own 3 1 (r.1.map o3)), (B r.2)]) E)) [] ⟨[(0, (AV.agg ((r35 p1))))], [], [JJ]⟩
  obtain ⟨r2, hr2, h⟩ := bnS h
  rcases itS h with ⟨c3, h⟩ | ⟨c4, h⟩
  · have h := Option.some.inj h
    subst h
    exact go_ret hΘ hm hP hn (hs := [⟨0, .new 1001, none⟩, ⟨4, .callV [[]] (B r2), none⟩, ⟨6, .br true, none⟩]) (rh := []) (ph := .agg [.own, .raw]) (ps := [Meets Try.prog 43 [(AV.agg ((r35 p1)))] (B r2), litA (B r2) = true, (!r2) = true, (B false) = (B false), litA (B false) = true]) (by kernel_rfl) ⟨(impl_GoodProg_m hr2), rfl, c3, rfl, rfl, trivial⟩
  · exact go_to hΘ hm hx hP hn (hs := [⟨0, .new 1001, none⟩, ⟨4, .callV [[]] (B r2), none⟩, ⟨6, .br false, none⟩, ⟨7, .new 1002, none⟩, ⟨11, .no, some (I (p1.Routines.length : Int))⟩]) (π := [(1002, 1)]) (ts := [4, 14, 15, 16]) (kp := []) (ps := [Meets Try.prog 43 [(AV.agg ((r35 p1)))] (B r2), litA (B r2) = true, (!r2) = false, AV.lit (.int .i64 (((p1.Routines.map r82).length : Nat) : Int)) = (I (p1.Routines.length : Int)), RenOK [(1002, 1)] ([].map o3)]) (by kernel_rfl) ⟨(impl_GoodProg_m hr2), rfl, c4, (lenM r82), (rok (treeM t3)), trivial⟩ (impl_SpawnsIn_l0_m hP hn hx p1 FU [] 0 _ h)
noncomputable def body23 : Code := match Try.f23.body with | some c => c | none => .skip
noncomputable def laws_eqIntS_l0  (p1 : (List Int)) (p2 : (List Int)) : Nat → Int → Option Bool
  | 0, _ => none
  | n + 1, v5 =>
  if (decide (v5 < (p1.length : Int))) = true then
    Option.bind (rd p1 v5) fun x7 =>
    Option.bind (rd p2 v5) fun x8 =>
    if (x7 != x8) = true then
      some false
    else
      laws_eqIntS_l0 p1 p2 n (w64 (v5 + 1))
  else
    some true
theorem laws_eqIntS_l0_m {E : Env} (hP : E.P = Try.prog) (hn : E.n = 26) (hx : ∀ p, p ∈ E.fx → p.1 ∈ ([] : List Nat)) (p1 : (List Int)) (p2 : (List Int))  : ∀ (n : Nat) (v5 : Int) (r : Bool), laws_eqIntS_l0 p1 p2 n v5 = some r → WAt E body23 (FQ (RetE Θ Try.f23.results.toList [] [] (B r) E)) [true, true, false, true, false] ⟨[(0, (AV.ro 1 (p1.map o3))), (1, (AV.ro 1 (p2.map o3))), (5, (I v5))], [], [JJ]⟩ := by
  have hm : E.P.follows .mixedOrders = true := by rw [hP]; exact mixed
  have hΘ : TOK E.P Θ := by rw [hP]; exact Θ_ok
  intro n
  induction n with
  | zero => intro v5 r h; simp only [laws_eqIntS_l0] at h; cases h
  | succ n ih =>
    intro v5 r h
    simp only [laws_eqIntS_l0] at h
    rcases itS h with ⟨c6, h⟩ | ⟨c11, h⟩
    · obtain ⟨x7, hx7, h⟩ := bnS h
      obtain ⟨x8, hx8, h⟩ := bnS h
      rcases itS h with ⟨c9, h⟩ | ⟨c10, h⟩
      · have h := Option.some.inj h
        subst h
        exact go_ret hΘ hm hP hn (hs := [⟨2, .no, some (I (p1.length : Int))⟩, ⟨4, .br true, none⟩, ⟨7, .row (o3 x7), none⟩, ⟨11, .row (o3 x8), none⟩, ⟨14, .br true, none⟩]) (rh := []) (ph := .raw) (ps := [AV.lit (.int .i64 (((p1.map o3).length : Nat) : Int)) = (I (p1.length : Int)), (decide (v5 < (p1.length : Int))) = true, (0 : Int) ≤ v5, (p1.map o3)[(Int.toNat v5)]? = some (o3 x7), (0 : Int) ≤ v5, (p2.map o3)[(Int.toNat v5)]? = some (o3 x8), (x7 != x8) = true, (B false) = (B false), litA (B false) = true]) (by kernel_rfl) ⟨(lenM o3), c6, (rd0 hx7), (rdM o3 hx7), (rd0 hx8), (rdM o3 hx8), c9, rfl, rfl, trivial⟩
      · exact go_to hΘ hm hx hP hn (hs := [⟨2, .no, some (I (p1.length : Int))⟩, ⟨4, .br true, none⟩, ⟨7, .row (o3 x7), none⟩, ⟨11, .row (o3 x8), none⟩, ⟨14, .br false, none⟩]) (π := []) (ts := [0, 1, 5]) (kp := []) (ps := [AV.lit (.int .i64 (((p1.map o3).length : Nat) : Int)) = (I (p1.length : Int)), (decide (v5 < (p1.length : Int))) = true, (0 : Int) ≤ v5, (p1.map o3)[(Int.toNat v5)]? = some (o3 x7), (0 : Int) ≤ v5, (p2.map o3)[(Int.toNat v5)]? = some (o3 x8), (x7 != x8) = false]) (by kernel_rfl) ⟨(lenM o3), c6, (rd0 hx7), (rdM o3 hx7), (rd0 hx8), (rdM o3 hx8), c10, trivial⟩ (ih (w64 (v5 + 1)) _ h)
    · have h := Option.some.inj h
      subst h
      exact go_ret hΘ hm hP hn (hs := [⟨2, .no, some (I (p1.length : Int))⟩, ⟨4, .br false, none⟩]) (rh := []) (ph := .raw) (ps := [AV.lit (.int .i64 (((p1.map o3).length : Nat) : Int)) = (I (p1.length : Int)), (decide (v5 < (p1.length : Int))) = false, (B true) = (B true), litA (B true) = true]) (by kernel_rfl) ⟨(lenM o3), c11, rfl, rfl, trivial⟩
noncomputable def laws_eqIntS (p1 : (List Int)) (p2 : (List Int)) : Option Bool :=
  if ((p1.length : Int) != (p2.length : Int)) = true then
    some false
  else
    laws_eqIntS_l0 p1 p2 FU 0
theorem laws_eqIntS_m {p1 : (List Int)} {p2 : (List Int)} {r : Bool} (h : laws_eqIntS p1 p2 = some r) : Meets Try.prog 23 [(AV.ro 1 (p1.map o3)), (AV.ro 1 (p2.map o3))] (B r) := by
  refine meets_ofC Θ_ok Try.func23 rfl (c := body23) (by kernel_rfl) (Nat.le_of_ble_eq_true rfl) ?_
  intro E hP hn hx
  replace hn : E.n = 26 := hn
  have hm : E.P.follows .mixedOrders = true := by rw [hP]; exact mixed
  have hΘ : TOK E.P Θ := by rw [hP]; exact Θ_ok
  unfold laws_eqIntS at h
  show WAt E body23 (FQ (RetE Θ Try.f23.results.toList [] [] (B r) E)) [] ⟨[(0, (AV.ro 1 (p1.map o3))), (1, (AV.ro 1 (p2.map o3)))], [], [JJ]⟩
  rcases itS h with ⟨c3, h⟩ | ⟨c4, h⟩
  · have h := Option.some.inj h
    subst h
    exact go_ret hΘ hm hP hn (hs := [⟨2, .no, some (I (p1.length : Int))⟩, ⟨4, .no, some (I (p2.length : Int))⟩, ⟨6, .br true, none⟩]) (rh := []) (ph := .raw) (ps := [AV.lit (.int .i64 (((p1.map o3).length : Nat) : Int)) = (I (p1.length : Int)), AV.lit (.int .i64 (((p2.map o3).length : Nat) : Int)) = (I (p2.length : Int)), ((p1.length : Int) != (p2.length : Int)) = true, (B false) = (B false), litA (B false) = true]) (by kernel_rfl) ⟨(lenM o3), (lenM o3), c3, rfl, rfl, trivial⟩
  · exact go_to hΘ hm hx hP hn (hs := [⟨2, .no, some (I (p1.length : Int))⟩, ⟨4, .no, some (I (p2.length : Int))⟩, ⟨6, .br false, none⟩]) (π := []) (ts := [0, 1, 5]) (kp := []) (ps := [AV.lit (.int .i64 (((p1.map o3).length : Nat) : Int)) = (I (p1.length : Int)), AV.lit (.int .i64 (((p2.map o3).length : Nat) : Int)) = (I (p2.length : Int)), ((p1.length : Int) != (p2.length : Int)) = false]) (by kernel_rfl) ⟨(lenM o3), (lenM o3), c4, trivial⟩ (laws_eqIntS_l0_m hP hn hx p1 p2 FU 0 _ h)
noncomputable def body81 : Code := match Try.f81.body with | some c => c | none => .skip
noncomputable def laws_sameFloat_j0  (p1 : Nat) (p2 : Nat)  : Option Bool :=
  if ((fcmp p1 0) == some .eq) = true then
    if ((fcmp p2 0) == some .eq) = true then
      Option.bind (fdv 4607182418800017408 p1) fun x13 =>
      Option.bind (fdv 4607182418800017408 p2) fun x14 =>
      some (((fcmp x13 0) == some .gt) == ((fcmp x14 0) == some .gt))
    else
      some ((fcmp p1 p2) == some .eq)
  else
    some ((fcmp p1 p2) == some .eq)
theorem laws_sameFloat_j0_m {E : Env} (hP : E.P = Try.prog) (hn : E.n = 37) (hx : ∀ p, p ∈ E.fx → p.1 ∈ ([] : List Nat)) (p1 : Nat) (p2 : Nat)   (r : Bool) (h : laws_sameFloat_j0 p1 p2  = some r) : WAt E body81 (FQ (RetE Θ Try.f81.results.toList [] [] (B r) E)) [true, false, true, true] ⟨[(0, (FK p1)), (1, (FK p2))], [], [JJ]⟩ := by
  have hm : E.P.follows .mixedOrders = true := by rw [hP]; exact mixed
  have hΘ : TOK E.P Θ := by rw [hP]; exact Θ_ok
  unfold laws_sameFloat_j0 at h
  rcases itS h with ⟨c11, h⟩ | ⟨c16, h⟩
  · rcases itS h with ⟨c12, h⟩ | ⟨c15, h⟩
    · obtain ⟨x13, hx13, h⟩ := bnS h
      obtain ⟨x14, hx14, h⟩ := bnS h
      have h := Option.some.inj h
      subst h
      exact go_ret hΘ hm hP hn (hs := [⟨1, .bin (B ((fcmp p1 0) == some .eq)), none⟩, ⟨2, .no, some (B true)⟩, ⟨4, .bin (B ((fcmp p2 0) == some .eq)), none⟩, ⟨6, .br true, none⟩, ⟨8, .bin (FK x13), none⟩, ⟨9, .bin (B ((fcmp x13 0) == some .gt)), none⟩, ⟨11, .bin (FK x14), none⟩, ⟨12, .bin (B ((fcmp x14 0) == some .gt)), none⟩]) (rh := []) (ph := .raw) (ps := [BinS Try.prog .eql 83 (FK p1) (FK 0) (B ((fcmp p1 0) == some .eq)), (B ((fcmp p1 0) == some .eq)) = (B true), BinS Try.prog .eql 83 (FK p2) (FK 0) (B ((fcmp p2 0) == some .eq)), ((fcmp p2 0) == some .eq) = true, BinS Try.prog .quo 83 (FK 4607182418800017408) (FK p1) (FK x13), BinS Try.prog .gtr 83 (FK x13) (FK 0) (B ((fcmp x13 0) == some .gt)), BinS Try.prog .quo 83 (FK 4607182418800017408) (FK p2) (FK x14), BinS Try.prog .gtr 83 (FK x14) (FK 0) (B ((fcmp x14 0) == some .gt)), (B (((fcmp x13 0) == some .gt) == ((fcmp x14 0) == some .gt))) = (B (((fcmp x13 0) == some .gt) == ((fcmp x14 0) == some .gt))), litA (B (((fcmp x13 0) == some .gt) == ((fcmp x14 0) == some .gt))) = true]) (by kernel_rfl) ⟨fEql, (litB c11), fEql, c12, (fQuo hx13), fGtr, (fQuo hx14), fGtr, rfl, rfl, trivial⟩
    · have h := Option.some.inj h
      subst h
      exact go_ret hΘ hm hP hn (hs := [⟨1, .bin (B ((fcmp p1 0) == some .eq)), none⟩, ⟨2, .no, some (B true)⟩, ⟨4, .bin (B ((fcmp p2 0) == some .eq)), none⟩, ⟨6, .br false, none⟩, ⟨9, .bin (B ((fcmp p1 p2) == some .eq)), none⟩]) (rh := []) (ph := .raw) (ps := [BinS Try.prog .eql 83 (FK p1) (FK 0) (B ((fcmp p1 0) == some .eq)), (B ((fcmp p1 0) == some .eq)) = (B true), BinS Try.prog .eql 83 (FK p2) (FK 0) (B ((fcmp p2 0) == some .eq)), ((fcmp p2 0) == some .eq) = false, BinS Try.prog .eql 83 (FK p1) (FK p2) (B ((fcmp p1 p2) == some .eq)), (B ((fcmp p1 p2) == some .eq)) = (B ((fcmp p1 p2) == some .eq)), litA (B ((fcmp p1 p2) == some .eq)) = true]) (by kernel_rfl) ⟨fEql, (litB c11), fEql, c15, fEql, rfl, rfl, trivial⟩
  · have h := Option.some.inj h
    subst h
    exact go_ret hΘ hm hP hn (hs := [⟨1, .bin (B ((fcmp p1 0) == some .eq)), none⟩, ⟨2, .no, some (B false)⟩, ⟨9, .bin (B ((fcmp p1 p2) == some .eq)), none⟩]) (rh := []) (ph := .raw) (ps := [BinS Try.prog .eql 83 (FK p1) (FK 0) (B ((fcmp p1 0) == some .eq)), (B ((fcmp p1 0) == some .eq)) = (B false), BinS Try.prog .eql 83 (FK p1) (FK p2) (B ((fcmp p1 p2) == some .eq)), (B ((fcmp p1 p2) == some .eq)) = (B ((fcmp p1 p2) == some .eq)), litA (B ((fcmp p1 p2) == some .eq)) = true]) (by kernel_rfl) ⟨fEql, (litB c16), fEql, rfl, rfl, trivial⟩
noncomputable def laws_sameFloat (p1 : Nat) (p2 : Nat) : Option Bool :=
  if ((fcmp p1 p1) != some .eq) = true then
    if ((fcmp p1 p1) != some .eq) = true then
      some ((fcmp p2 p2) != some .eq)
    else
      some false
  else
    if ((fcmp p2 p2) != some .eq) = true then
      if ((fcmp p1 p1) != some .eq) = true then
        some ((fcmp p2 p2) != some .eq)
      else
        some false
    else
      laws_sameFloat_j0 p1 p2
theorem laws_sameFloat_m {p1 : Nat} {p2 : Nat} {r : Bool} (h : laws_sameFloat p1 p2 = some r) : Meets Try.prog 81 [(FK p1), (FK p2)] (B r) := by
  refine meets_ofC Θ_ok Try.func81 rfl (c := body81) (by kernel_rfl) (Nat.le_of_ble_eq_true rfl) ?_
  intro E hP hn hx
  replace hn : E.n = 37 := hn
  have hm : E.P.follows .mixedOrders = true := by rw [hP]; exact mixed
  have hΘ : TOK E.P Θ := by rw [hP]; exact Θ_ok
  unfold laws_sameFloat at h
  show WAt E body81 (FQ (RetE Θ Try.f81.results.toList [] [] (B r) E)) [] ⟨[(0, (FK p1)), (1, (FK p2))], [], [JJ]⟩
  rcases itS h with ⟨c3, h⟩ | ⟨c6, h⟩
  · rcases itS h with ⟨c4, h⟩ | ⟨c5, h⟩
    · have h := Option.some.inj h
      subst h
      exact go_ret hΘ hm hP hn (hs := [⟨3, .bin (B ((fcmp p1 p1) != some .eq)), none⟩, ⟨4, .no, some (B true)⟩, ⟨12, .bin (B ((fcmp p1 p1) != some .eq)), none⟩, ⟨13, .no, some (B true)⟩, ⟨16, .bin (B ((fcmp p2 p2) != some .eq)), none⟩]) (rh := []) (ph := .raw) (ps := [BinS Try.prog .neq 83 (FK p1) (FK p1) (B ((fcmp p1 p1) != some .eq)), (B ((fcmp p1 p1) != some .eq)) = (B true), BinS Try.prog .neq 83 (FK p1) (FK p1) (B ((fcmp p1 p1) != some .eq)), (B ((fcmp p1 p1) != some .eq)) = (B true), BinS Try.prog .neq 83 (FK p2) (FK p2) (B ((fcmp p2 p2) != some .eq)), (B ((fcmp p2 p2) != some .eq)) = (B ((fcmp p2 p2) != some .eq)), litA (B ((fcmp p2 p2) != some .eq)) = true]) (by kernel_rfl) ⟨fNeq, (litB c3), fNeq, (litB c4), fNeq, rfl, rfl, trivial⟩
    · have h := Option.some.inj h
      subst h
      exact go_ret hΘ hm hP hn (hs := [⟨3, .bin (B ((fcmp p1 p1) != some .eq)), none⟩, ⟨4, .no, some (B true)⟩, ⟨12, .bin (B ((fcmp p1 p1) != some .eq)), none⟩, ⟨13, .no, some (B false)⟩]) (rh := []) (ph := .raw) (ps := [BinS Try.prog .neq 83 (FK p1) (FK p1) (B ((fcmp p1 p1) != some .eq)), (B ((fcmp p1 p1) != some .eq)) = (B true), BinS Try.prog .neq 83 (FK p1) (FK p1) (B ((fcmp p1 p1) != some .eq)), (B ((fcmp p1 p1) != some .eq)) = (B false), (B false) = (B false), litA (B false) = true]) (by kernel_rfl) ⟨fNeq, (litB c3), fNeq, (litB c5), rfl, rfl, trivial⟩
  · rcases itS h with ⟨c7, h⟩ | ⟨c10, h⟩
    · rcases itS h with ⟨c8, h⟩ | ⟨c9, h⟩
      · have h := Option.some.inj h
        subst h
        exact go_ret hΘ hm hP hn (hs := [⟨3, .bin (B ((fcmp p1 p1) != some .eq)), none⟩, ⟨4, .no, some (B false)⟩, ⟨7, .bin (B ((fcmp p2 p2) != some .eq)), none⟩, ⟨9, .br true, none⟩, ⟨12, .bin (B ((fcmp p1 p1) != some .eq)), none⟩, ⟨13, .no, some (B true)⟩, ⟨16, .bin (B ((fcmp p2 p2) != some .eq)), none⟩]) (rh := []) (ph := .raw) (ps := [BinS Try.prog .neq 83 (FK p1) (FK p1) (B ((fcmp p1 p1) != some .eq)), (B ((fcmp p1 p1) != some .eq)) = (B false), BinS Try.prog .neq 83 (FK p2) (FK p2) (B ((fcmp p2 p2) != some .eq)), ((fcmp p2 p2) != some .eq) = true, BinS Try.prog .neq 83 (FK p1) (FK p1) (B ((fcmp p1 p1) != some .eq)), (B ((fcmp p1 p1) != some .eq)) = (B true), BinS Try.prog .neq 83 (FK p2) (FK p2) (B ((fcmp p2 p2) != some .eq)), (B ((fcmp p2 p2) != some .eq)) = (B ((fcmp p2 p2) != some .eq)), litA (B ((fcmp p2 p2) != some .eq)) = true]) (by kernel_rfl) ⟨fNeq, (litB c6), fNeq, c7, fNeq, (litB c8), fNeq, rfl, rfl, trivial⟩
      · have h := Option.some.inj h
        subst h
        exact go_ret hΘ hm hP hn (hs := [⟨3, .bin (B ((fcmp p1 p1) != some .eq)), none⟩, ⟨4, .no, some (B false)⟩, ⟨7, .bin (B ((fcmp p2 p2) != some .eq)), none⟩, ⟨9, .br true, none⟩, ⟨12, .bin (B ((fcmp p1 p1) != some .eq)), none⟩, ⟨13, .no, some (B false)⟩]) (rh := []) (ph := .raw) (ps := [BinS Try.prog .neq 83 (FK p1) (FK p1) (B ((fcmp p1 p1) != some .eq)), (B ((fcmp p1 p1) != some .eq)) = (B false), BinS Try.prog .neq 83 (FK p2) (FK p2) (B ((fcmp p2 p2) != some .eq)), ((fcmp p2 p2) != some .eq) = true, BinS Try.prog .neq 83 (FK p1) (FK p1) (B ((fcmp p1 p1) != some .eq)), (B ((fcmp p1 p1) != some .eq)) = (B false), (B false) = (B false), litA (B false) = true]) (by kernel_rfl) ⟨fNeq, (litB c6), fNeq, c7, fNeq, (litB c9), rfl, rfl, trivial⟩
    · exact go_to hΘ hm hx hP hn (hs := [⟨3, .bin (B ((fcmp p1 p1) != some .eq)), none⟩, ⟨4, .no, some (B false)⟩, ⟨7, .bin (B ((fcmp p2 p2) != some .eq)), none⟩, ⟨9, .br false, none⟩]) (π := []) (ts := [0, 1]) (kp := []) (ps := [BinS Try.prog .neq 83 (FK p1) (FK p1) (B ((fcmp p1 p1) != some .eq)), (B ((fcmp p1 p1) != some .eq)) = (B false), BinS Try.prog .neq 83 (FK p2) (FK p2) (B ((fcmp p2 p2) != some .eq)), ((fcmp p2 p2) != some .eq) = false]) (by kernel_rfl) ⟨fNeq, (litB c6), fNeq, c10, trivial⟩ (laws_sameFloat_j0_m hP hn hx p1 p2  _ h)
noncomputable def body94 : Code := match Try.f94.body with | some c => c | none => .skip
noncomputable def laws_eqOp (p1 : GOp) (p2 : GOp) : Option Bool :=
  if (p1.Code != p2.Code) = true then
    some false
  else
    if (p1.A != p2.A) = true then
      some false
    else
      if (p1.B != p2.B) = true then
        some false
      else
        Option.bind (laws_sameFloat p1.V p2.V) fun r9 =>
        if (!r9) = true then
          some false
        else
          some true
theorem laws_eqOp_m {p1 : GOp} {p2 : GOp} {r : Bool} (h : laws_eqOp p1 p2 = some r) : Meets Try.prog 94 [(AV.agg ((o85 p1))), (AV.agg ((o85 p2)))] (B r) := by
  refine meets_ofC Θ_ok Try.func94 rfl (c := body94) (by kernel_rfl) (Nat.le_of_ble_eq_true rfl) ?_
  intro E hP hn hx
  replace hn : E.n = 26 := hn
  have hm : E.P.follows .mixedOrders = true := by rw [hP]; exact mixed
  have hΘ : TOK E.P Θ := by rw [hP]; exact Θ_ok
  unfold laws_eqOp at h
  show WAt E body94 (FQ (RetE Θ Try.f94.results.toList [] [] (B r) E)) [] ⟨[(0, (AV.agg ((o85 p1)))), (1, (AV.agg ((o85 p2))))], [], [JJ]⟩
  rcases itS h with ⟨c3, h⟩ | ⟨c4, h⟩
  · have h := Option.some.inj h
    subst h
    exact go_ret hΘ hm hP hn (hs := [⟨0, .new 1001, none⟩, ⟨1, .new 1002, none⟩, ⟨8, .br true, none⟩]) (rh := []) (ph := .raw) (ps := [(p1.Code != p2.Code) = true, (B false) = (B false), litA (B false) = true]) (by kernel_rfl) ⟨c3, rfl, rfl, trivial⟩
  · rcases itS h with ⟨c5, h⟩ | ⟨c6, h⟩
    · have h := Option.some.inj h
      subst h
      exact go_ret hΘ hm hP hn (hs := [⟨0, .new 1001, none⟩, ⟨1, .new 1002, none⟩, ⟨8, .br false, none⟩, ⟨14, .br true, none⟩]) (rh := []) (ph := .raw) (ps := [(p1.Code != p2.Code) = false, (p1.A != p2.A) = true, (B false) = (B false), litA (B false) = true]) (by kernel_rfl) ⟨c4, c5, rfl, rfl, trivial⟩
    · rcases itS h with ⟨c7, h⟩ | ⟨c8, h⟩
      · have h := Option.some.inj h
        subst h
        exact go_ret hΘ hm hP hn (hs := [⟨0, .new 1001, none⟩, ⟨1, .new 1002, none⟩, ⟨8, .br false, none⟩, ⟨14, .br false, none⟩, ⟨20, .br true, none⟩]) (rh := []) (ph := .raw) (ps := [(p1.Code != p2.Code) = false, (p1.A != p2.A) = false, (p1.B != p2.B) = true, (B false) = (B false), litA (B false) = true]) (by kernel_rfl) ⟨c4, c6, c7, rfl, rfl, trivial⟩
      · obtain ⟨r9, hr9, h⟩ := bnS h
        rcases itS h with ⟨c10, h⟩ | ⟨c11, h⟩
        · have h := Option.some.inj h
          subst h
          exact go_ret hΘ hm hP hn (hs := [⟨0, .new 1001, none⟩, ⟨1, .new 1002, none⟩, ⟨8, .br false, none⟩, ⟨14, .br false, none⟩, ⟨20, .br false, none⟩, ⟨25, .callV [] (B r9), none⟩, ⟨27, .br true, none⟩]) (rh := []) (ph := .raw) (ps := [(p1.Code != p2.Code) = false, (p1.A != p2.A) = false, (p1.B != p2.B) = false, Meets Try.prog 81 [(FK p1.V), (FK p2.V)] (B r9), litA (B r9) = true, (!r9) = true, (B false) = (B false), litA (B false) = true]) (by kernel_rfl) ⟨c4, c6, c8, (laws_sameFloat_m hr9), rfl, c10, rfl, rfl, trivial⟩
        · have h := Option.some.inj h
          subst h
          exact go_ret hΘ hm hP hn (hs := [⟨0, .new 1001, none⟩, ⟨1, .new 1002, none⟩, ⟨8, .br false, none⟩, ⟨14, .br false, none⟩, ⟨20, .br false, none⟩, ⟨25, .callV [] (B r9), none⟩, ⟨27, .br false, none⟩]) (rh := []) (ph := .raw) (ps := [(p1.Code != p2.Code) = false, (p1.A != p2.A) = false, (p1.B != p2.B) = false, Meets Try.prog 81 [(FK p1.V), (FK p2.V)] (B r9), litA (B r9) = true, (!r9) = false, (B true) = (B true), litA (B true) = true]) (by kernel_rfl) ⟨c4, c6, c8, (laws_sameFloat_m hr9), rfl, c11, rfl, rfl, trivial⟩
noncomputable def body79 : Code := match Try.f79.body with | some c => c | none => .skip
noncomputable def laws_eqOpS_l0  (p1 : (List GOp)) (p2 : (List GOp)) : Nat → Int → Option Bool
  | 0, _ => none
  | n + 1, v5 =>
  if (decide (v5 < (p1.length : Int))) = true then
    Option.bind (rd p1 v5) fun x7 =>
    Option.bind (rd p2 v5) fun x8 =>
    Option.bind (laws_eqOp x7 x8) fun r9 =>
    if (!r9) = true then
      some false
    else
      laws_eqOpS_l0 p1 p2 n (w64 (v5 + 1))
  else
    some true
theorem laws_eqOpS_l0_m {E : Env} (hP : E.P = Try.prog) (hn : E.n = 27) (hx : ∀ p, p ∈ E.fx → p.1 ∈ ([] : List Nat)) (p1 : (List GOp)) (p2 : (List GOp))  : ∀ (n : Nat) (v5 : Int) (r : Bool), laws_eqOpS_l0 p1 p2 n v5 = some r → WAt E body79 (FQ (RetE Θ Try.f79.results.toList [] [] (B r) E)) [true, true, false, true, false] ⟨[(0, (AV.ro 4 (p1.map o85))), (1, (AV.ro 4 (p2.map o85))), (5, (I v5))], [], [JJ]⟩ := by
  have hm : E.P.follows .mixedOrders = true := by rw [hP]; exact mixed
  have hΘ : TOK E.P Θ := by rw [hP]; exact Θ_ok
  intro n
  induction n with
  | zero => intro v5 r h; simp only [laws_eqOpS_l0] at h; cases h
  | succ n ih =>
    intro v5 r h
    simp only [laws_eqOpS_l0] at h
    rcases itS h with ⟨c6, h⟩ | ⟨c12, h⟩
    · obtain ⟨x7, hx7, h⟩ := bnS h
      obtain ⟨x8, hx8, h⟩ := bnS h
      obtain ⟨r9, hr9, h⟩ := bnS h
      rcases itS h with ⟨c10, h⟩ | ⟨c11, h⟩
      · have h := Option.some.inj h
        subst h
        exact go_ret hΘ hm hP hn (hs := [⟨2, .no, some (I (p1.length : Int))⟩, ⟨4, .br true, none⟩, ⟨7, .row (o85 x7), none⟩, ⟨11, .row (o85 x8), none⟩, ⟨13, .callV [[], []] (B r9), none⟩, ⟨15, .br true, none⟩]) (rh := []) (ph := .raw) (ps := [AV.lit (.int .i64 (((p1.map o85).length : Nat) : Int)) = (I (p1.length : Int)), (decide (v5 < (p1.length : Int))) = true, (0 : Int) ≤ v5, (p1.map o85)[(Int.toNat v5)]? = some (o85 x7), (0 : Int) ≤ v5, (p2.map o85)[(Int.toNat v5)]? = some (o85 x8), Meets Try.prog 94 [(AV.agg ((o85 x7))), (AV.agg ((o85 x8)))] (B r9), litA (B r9) = true, (!r9) = true, (B false) = (B false), litA (B false) = true]) (by kernel_rfl) ⟨(lenM o85), c6, (rd0 hx7), (rdM o85 hx7), (rd0 hx8), (rdM o85 hx8), (laws_eqOp_m hr9), rfl, c10, rfl, rfl, trivial⟩
      · exact go_to hΘ hm hx hP hn (hs := [⟨2, .no, some (I (p1.length : Int))⟩, ⟨4, .br true, none⟩, ⟨7, .row (o85 x7), none⟩, ⟨11, .row (o85 x8), none⟩, ⟨13, .callV [[], []] (B r9), none⟩, ⟨15, .br false, none⟩]) (π := []) (ts := [0, 1, 5]) (kp := []) (ps := [AV.lit (.int .i64 (((p1.map o85).length : Nat) : Int)) = (I (p1.length : Int)), (decide (v5 < (p1.length : Int))) = true, (0 : Int) ≤ v5, (p1.map o85)[(Int.toNat v5)]? = some (o85 x7), (0 : Int) ≤ v5, (p2.map o85)[(Int.toNat v5)]? = some (o85 x8), Meets Try.prog 94 [(AV.agg ((o85 x7))), (AV.agg ((o85 x8)))] (B r9), litA (B r9) = true, (!r9) = false]) (by kernel_rfl) ⟨(lenM o85), c6, (rd0 hx7), (rdM o85 hx7), (rd0 hx8), (rdM o85 hx8), (laws_eqOp_m hr9), rfl, c11, trivial⟩ (ih (w64 (v5 + 1)) _ h)
    · have h := Option.some.inj h
      subst h
      exact go_ret hΘ hm hP hn (hs := [⟨2, .no, some (I (p1.length : Int))⟩, ⟨4, .br false, none⟩]) (rh := []) (ph := .raw) (ps := [AV.lit (.int .i64 (((p1.map o85).length : Nat) : Int)) = (I (p1.length : Int)), (decide (v5 < (p1.length : Int))) = false, (B true) = (B true), litA (B true) = true]) (by kernel_rfl) ⟨(lenM o85), c12, rfl, rfl, trivial⟩
noncomputable def laws_eqOpS (p1 : (List GOp)) (p2 : (List GOp)) : Option Bool :=
  if ((p1.length : Int) != (p2.length : Int)) = true then
    some false
  else
    laws_eqOpS_l0 p1 p2 FU 0
theorem laws_eqOpS_m {p1 : (List GOp)} {p2 : (List GOp)} {r : Bool} (h : laws_eqOpS p1 p2 = some r) : Meets Try.prog 79 [(AV.ro 4 (p1.map o85)), (AV.ro 4 (p2.map o85))] (B r) := by
  refine meets_ofC Θ_ok Try.func79 rfl (c := body79) (by kernel_rfl) (Nat.le_of_ble_eq_true rfl) ?_
  intro E hP hn hx
  replace hn : E.n = 27 := hn
  have hm : E.P.follows .mixedOrders = true := by rw [hP]; exact mixed
  have hΘ : TOK E.P Θ := by rw [hP]; exact Θ_ok
  unfold laws_eqOpS at h
  show WAt E body79 (FQ (RetE Θ Try.f79.results.toList [] [] (B r) E)) [] ⟨[(0, (AV.ro 4 (p1.map o85))), (1, (AV.ro 4 (p2.map o85)))], [], [JJ]⟩
  rcases itS h with ⟨c3, h⟩ | ⟨c4, h⟩
  · have h := Option.some.inj h
    subst h
    exact go_ret hΘ hm hP hn (hs := [⟨2, .no, some (I (p1.length : Int))⟩, ⟨4, .no, some (I (p2.length : Int))⟩, ⟨6, .br true, none⟩]) (rh := []) (ph := .raw) (ps := [AV.lit (.int .i64 (((p1.map o85).length : Nat) : Int)) = (I (p1.length : Int)), AV.lit (.int .i64 (((p2.map o85).length : Nat) : Int)) = (I (p2.length : Int)), ((p1.length : Int) != (p2.length : Int)) = true, (B false) = (B false), litA (B false) = true]) (by kernel_rfl) ⟨(lenM o85), (lenM o85), c3, rfl, rfl, trivial⟩
  · exact go_to hΘ hm hx hP hn (hs := [⟨2, .no, some (I (p1.length : Int))⟩, ⟨4, .no, some (I (p2.length : Int))⟩, ⟨6, .br false, none⟩]) (π := []) (ts := [0, 1, 5]) (kp := []) (ps := [AV.lit (.int .i64 (((p1.map o85).length : Nat) : Int)) = (I (p1.length : Int)), AV.lit (.int .i64 (((p2.map o85).length : Nat) : Int)) = (I (p2.length : Int)), ((p1.length : Int) != (p2.length : Int)) = false]) (by kernel_rfl) ⟨(lenM o85), (lenM o85), c4, trivial⟩ (laws_eqOpS_l0_m hP hn hx p1 p2 FU 0 _ h)
noncomputable def body50 : Code := match Try.f50.body with | some c => c | none => .skip
noncomputable def laws_eqOpSS_l0  (p1 : (List (List GOp))) (p2 : (List (List GOp))) : Nat → Int → Option Bool
  | 0, _ => none
  | n + 1, v5 =>
  if (decide (v5 < (p1.length : Int))) = true then
    Option.bind (rd p1 v5) fun x7 =>
    Option.bind (rd p2 v5) fun x8 =>
    Option.bind (laws_eqOpS x7 x8) fun r9 =>
    if (!r9) = true then
      some false
    else
      laws_eqOpSS_l0 p1 p2 n (w64 (v5 + 1))
  else
    some true
theorem laws_eqOpSS_l0_m {E : Env} (hP : E.P = Try.prog) (hn : E.n = 27) (hx : ∀ p, p ∈ E.fx → p.1 ∈ ([] : List Nat)) (p1 : (List (List GOp))) (p2 : (List (List GOp)))  : ∀ (n : Nat) (v5 : Int) (r : Bool), laws_eqOpSS_l0 p1 p2 n v5 = some r → WAt E body50 (FQ (RetE Θ Try.f50.results.toList [] [] (B r) E)) [true, true, false, true, false] ⟨[(0, (AV.ro 1 (p1.map r82))), (1, (AV.ro 1 (p2.map r82))), (5, (I v5))], [], [JJ]⟩ := by
  have hm : E.P.follows .mixedOrders = true := by rw [hP]; exact mixed
  have hΘ : TOK E.P Θ := by rw [hP]; exact Θ_ok
  intro n
  induction n with
  | zero => intro v5 r h; simp only [laws_eqOpSS_l0] at h; cases h
  | succ n ih =>
    intro v5 r h
    simp only [laws_eqOpSS_l0] at h
    rcases itS h with ⟨c6, h⟩ | ⟨c12, h⟩
    · obtain ⟨x7, hx7, h⟩ := bnS h
      obtain ⟨x8, hx8, h⟩ := bnS h
      obtain ⟨r9, hr9, h⟩ := bnS h
      rcases itS h with ⟨c10, h⟩ | ⟨c11, h⟩
      · have h := Option.some.inj h
        subst h
        exact go_ret hΘ hm hP hn (hs := [⟨2, .no, some (I (p1.length : Int))⟩, ⟨4, .br true, none⟩, ⟨7, .row (r82 x7), none⟩, ⟨11, .row (r82 x8), none⟩, ⟨13, .callV [] (B r9), none⟩, ⟨15, .br true, none⟩]) (rh := []) (ph := .raw) (ps := [AV.lit (.int .i64 (((p1.map r82).length : Nat) : Int)) = (I (p1.length : Int)), (decide (v5 < (p1.length : Int))) = true, (0 : Int) ≤ v5, (p1.map r82)[(Int.toNat v5)]? = some (r82 x7), (0 : Int) ≤ v5, (p2.map r82)[(Int.toNat v5)]? = some (r82 x8), Meets Try.prog 79 [(AV.ro 4 (x7.map o85)), (AV.ro 4 (x8.map o85))] (B r9), litA (B r9) = true, (!r9) = true, (B false) = (B false), litA (B false) = true]) (by kernel_rfl) ⟨(lenM r82), c6, (rd0 hx7), (rdM r82 hx7), (rd0 hx8), (rdM r82 hx8), (laws_eqOpS_m hr9), rfl, c10, rfl, rfl, trivial⟩
      · exact go_to hΘ hm hx hP hn (hs := [⟨2, .no, some (I (p1.length : Int))⟩, ⟨4, .br true, none⟩, ⟨7, .row (r82 x7), none⟩, ⟨11, .row (r82 x8), none⟩, ⟨13, .callV [] (B r9), none⟩, ⟨15, .br false, none⟩]) (π := []) (ts := [0, 1, 5]) (kp := []) (ps := [AV.lit (.int .i64 (((p1.map r82).length : Nat) : Int)) = (I (p1.length : Int)), (decide (v5 < (p1.length : Int))) = true, (0 : Int) ≤ v5, (p1.map r82)[(Int.toNat v5)]? = some (r82 x7), (0 : Int) ≤ v5, (p2.map r82)[(Int.toNat v5)]? = some (r82 x8), Meets Try.prog 79 [(AV.ro 4 (x7.map o85)), (AV.ro 4 (x8.map o85))] (B r9), litA (B r9) = true, (!r9) = false]) (by kernel_rfl) ⟨(lenM r82), c6, (rd0 hx7), (rdM r82 hx7), (rd0 hx8), (rdM r82 hx8), (laws_eqOpS_m hr9), rfl, c11, trivial⟩ (ih (w64 (v5 + 1)) _ h)
    · have h := Option.some.inj h
      subst h
      exact go_ret hΘ hm hP hn (hs := [⟨2, .no, some (I (p1.length : Int))⟩, ⟨4, .br false, none⟩]) (rh := []) (ph := .raw) (ps := [AV.lit (.int .i64 (((p1.map r82).length : Nat) : Int)) = (I (p1.length : Int)), (decide (v5 < (p1.length : Int))) = false, (B true) = (B true), litA (B true) = true]) (by kernel_rfl) ⟨(lenM r82), c12, rfl, rfl, trivial⟩
noncomputable def laws_eqOpSS (p1 : (List (List GOp))) (p2 : (List (List GOp))) : Option Bool :=
  if ((p1.length : Int) != (p2.length : Int)) = true then
    some false
  else
    laws_eqOpSS_l0 p1 p2 FU 0
theorem laws_eqOpSS_m {p1 : (List (List GOp))} {p2 : (List (List GOp))} {r : Bool} (h : laws_eqOpSS p1 p2 = some r) : Meets Try.prog 50 [(AV.ro 1 (p1.map r82)), (AV.ro 1 (p2.map r82))] (B r) := by
  refine meets_ofC Θ_ok Try.func50 rfl (c := body50) (by kernel_rfl) (Nat.le_of_ble_eq_true rfl) ?_
  intro E hP hn hx
  replace hn : E.n = 27 := hn
  have hm : E.P.follows .mixedOrders = true := by rw [hP]; exact mixed
  have hΘ : TOK E.P Θ := by rw [hP]; exact Θ_ok
  unfold laws_eqOpSS at h
  show WAt E body50 (FQ (RetE Θ Try.f50.results.toList [] [] (B r) E)) [] ⟨[(0, (AV.ro 1 (p1.map r82))), (1, (AV.ro 1 (p2.map r82)))], [], [JJ]⟩
  rcases itS h with ⟨c3, h⟩ | ⟨c4, h⟩
  · have h := Option.some.inj h
    subst h
    exact go_ret hΘ hm hP hn (hs := [⟨2, .no, some (I (p1.length : Int))⟩, ⟨4, .no, some (I (p2.length : Int))⟩, ⟨6, .br true, none⟩]) (rh := []) (ph := .raw) (ps := [AV.lit (.int .i64 (((p1.map r82).length : Nat) : Int)) = (I (p1.length : Int)), AV.lit (.int .i64 (((p2.map r82).length : Nat) : Int)) = (I (p2.length : Int)), ((p1.length : Int) != (p2.length : Int)) = true, (B false) = (B false), litA (B false) = true]) (by kernel_rfl) ⟨(lenM r82), (lenM r82), c3, rfl, rfl, trivial⟩
  · exact go_to hΘ hm hx hP hn (hs := [⟨2, .no, some (I (p1.length : Int))⟩, ⟨4, .no, some (I (p2.length : Int))⟩, ⟨6, .br false, none⟩]) (π := []) (ts := [0, 1, 5]) (kp := []) (ps := [AV.lit (.int .i64 (((p1.map r82).length : Nat) : Int)) = (I (p1.length : Int)), AV.lit (.int .i64 (((p2.map r82).length : Nat) : Int)) = (I (p2.length : Int)), ((p1.length : Int) != (p2.length : Int)) = false]) (by kernel_rfl) ⟨(lenM r82), (lenM r82), c4, trivial⟩ (laws_eqOpSS_l0_m hP hn hx p1 p2 FU 0 _ h)
noncomputable def body14 : Code := match Try.f14.body with | some c => c | none => .skip
noncomputable def laws_eqProg (p1 : GProg) (p2 : GProg) : Option Bool :=
  if (p1.Cells != p2.Cells) = true then
    some false
  else
    if (p1.Locks != p2.Locks) = true then
      some false
    else
      if (p1.Conds != p2.Conds) = true then
        some false
      else
        Option.bind (laws_eqOpSS p1.Routines p2.Routines) fun r9 =>
        if (!r9) = true then
          some false
        else
          some true
theorem laws_eqProg_m {p1 : GProg} {p2 : GProg} {r : Bool} (h : laws_eqProg p1 p2 = some r) : Meets Try.prog 14 [(AV.agg ((r35 p1))), (AV.agg ((r35 p2)))] (B r) := by
  refine meets_ofC Θ_ok Try.func14 rfl (c := body14) (by kernel_rfl) (Nat.le_of_ble_eq_true rfl) ?_
  intro E hP hn hx
  replace hn : E.n = 26 := hn
  have hm : E.P.follows .mixedOrders = true := by rw [hP]; exact mixed
  have hΘ : TOK E.P Θ := by rw [hP]; exact Θ_ok
  unfold laws_eqProg at h
  show WAt E body14 (FQ (RetE Θ Try.f14.results.toList [] [] (B r) E)) [] ⟨[(0, (AV.agg ((r35 p1)))), (1, (AV.agg ((r35 p2))))], [], [JJ]⟩
  rcases itS h with ⟨c3, h⟩ | ⟨c4, h⟩
  · have h := Option.some.inj h
    subst h
    exact go_ret hΘ hm hP hn (hs := [⟨0, .new 1001, none⟩, ⟨1, .new 1002, none⟩, ⟨8, .br true, none⟩]) (rh := []) (ph := .raw) (ps := [(p1.Cells != p2.Cells) = true, (B false) = (B false), litA (B false) = true]) (by kernel_rfl) ⟨c3, rfl, rfl, trivial⟩
  · rcases itS h with ⟨c5, h⟩ | ⟨c6, h⟩
    · have h := Option.some.inj h
      subst h
      exact go_ret hΘ hm hP hn (hs := [⟨0, .new 1001, none⟩, ⟨1, .new 1002, none⟩, ⟨8, .br false, none⟩, ⟨14, .br true, none⟩]) (rh := []) (ph := .raw) (ps := [(p1.Cells != p2.Cells) = false, (p1.Locks != p2.Locks) = true, (B false) = (B false), litA (B false) = true]) (by kernel_rfl) ⟨c4, c5, rfl, rfl, trivial⟩
    · rcases itS h with ⟨c7, h⟩ | ⟨c8, h⟩
      · have h := Option.some.inj h
        subst h
        exact go_ret hΘ hm hP hn (hs := [⟨0, .new 1001, none⟩, ⟨1, .new 1002, none⟩, ⟨8, .br false, none⟩, ⟨14, .br false, none⟩, ⟨20, .br true, none⟩]) (rh := []) (ph := .raw) (ps := [(p1.Cells != p2.Cells) = false, (p1.Locks != p2.Locks) = false, (p1.Conds != p2.Conds) = true, (B false) = (B false), litA (B false) = true]) (by kernel_rfl) ⟨c4, c6, c7, rfl, rfl, trivial⟩
      · obtain ⟨r9, hr9, h⟩ := bnS h
        rcases itS h with ⟨c10, h⟩ | ⟨c11, h⟩
        · have h := Option.some.inj h
          subst h
          exact go_ret hΘ hm hP hn (hs := [⟨0, .new 1001, none⟩, ⟨1, .new 1002, none⟩, ⟨8, .br false, none⟩, ⟨14, .br false, none⟩, ⟨20, .br false, none⟩, ⟨25, .callV [] (B r9), none⟩, ⟨27, .br true, none⟩]) (rh := []) (ph := .raw) (ps := [(p1.Cells != p2.Cells) = false, (p1.Locks != p2.Locks) = false, (p1.Conds != p2.Conds) = false, Meets Try.prog 50 [(AV.ro 1 (p1.Routines.map r82)), (AV.ro 1 (p2.Routines.map r82))] (B r9), litA (B r9) = true, (!r9) = true, (B false) = (B false), litA (B false) = true]) (by kernel_rfl) ⟨c4, c6, c8, (laws_eqOpSS_m hr9), rfl, c10, rfl, rfl, trivial⟩
        · have h := Option.some.inj h
          subst h
          exact go_ret hΘ hm hP hn (hs := [⟨0, .new 1001, none⟩, ⟨1, .new 1002, none⟩, ⟨8, .br false, none⟩, ⟨14, .br false, none⟩, ⟨20, .br false, none⟩, ⟨25, .callV [] (B r9), none⟩, ⟨27, .br false, none⟩]) (rh := []) (ph := .raw) (ps := [(p1.Cells != p2.Cells) = false, (p1.Locks != p2.Locks) = false, (p1.Conds != p2.Conds) = false, Meets Try.prog 50 [(AV.ro 1 (p1.Routines.map r82)), (AV.ro 1 (p2.Routines.map r82))] (B r9), litA (B r9) = true, (!r9) = false, (B true) = (B true), litA (B true) = true]) (by kernel_rfl) ⟨c4, c6, c8, (laws_eqOpSS_m hr9), rfl, c11, rfl, rfl, trivial⟩
noncomputable def body25 : Code := match Try.f25.body with | some c => c | none => .skip
noncomputable def laws_heldIntS_l0  (p1 : (List Int)) : Nat → Int → Int → Option Int
  | 0, _, _ => none
  | n + 1, v3, v4 =>
  if (decide (v4 < (p1.length : Int))) = true then
    Option.bind (rd p1 v4) fun x6 =>
    if (x6 != v3) = true then
      some (-1)
    else
      laws_heldIntS_l0 p1 n (w64 (v3 + 1)) (w64 (v4 + 1))
  else
    some v3
theorem laws_heldIntS_l0_m {E : Env} (hP : E.P = Try.prog) (hn : E.n = 21) (hx : ∀ p, p ∈ E.fx → p.1 ∈ ([] : List Nat)) (p1 : (List Int))  : ∀ (n : Nat) (v3 : Int) (v4 : Int) (r : Int), laws_heldIntS_l0 p1 n v3 v4 = some r → WAt E body25 (FQ (RetE Θ Try.f25.results.toList [] [] (I r) E)) [true, false, true, false] ⟨[(0, (AV.ro 1 (p1.map o3))), (1, (I v3)), (5, (I v4))], [], [JJ]⟩ := by
  have hm : E.P.follows .mixedOrders = true := by rw [hP]; exact mixed
  have hΘ : TOK E.P Θ := by rw [hP]; exact Θ_ok
  intro n
  induction n with
  | zero => intro v3 v4 r h; simp only [laws_heldIntS_l0] at h; cases h
  | succ n ih =>
    intro v3 v4 r h
    simp only [laws_heldIntS_l0] at h
    rcases itS h with ⟨c5, h⟩ | ⟨c9, h⟩
    · obtain ⟨x6, hx6, h⟩ := bnS h
      rcases itS h with ⟨c7, h⟩ | ⟨c8, h⟩
      · have h := Option.some.inj h
        subst h
        exact go_ret hΘ hm hP hn (hs := [⟨2, .no, some (I (p1.length : Int))⟩, ⟨4, .br true, none⟩, ⟨7, .row (o3 x6), none⟩, ⟨11, .br true, none⟩]) (rh := []) (ph := .raw) (ps := [AV.lit (.int .i64 (((p1.map o3).length : Nat) : Int)) = (I (p1.length : Int)), (decide (v4 < (p1.length : Int))) = true, (0 : Int) ≤ v4, (p1.map o3)[(Int.toNat v4)]? = some (o3 x6), (x6 != v3) = true, (I (-1)) = (I (-1)), litA (I (-1)) = true]) (by kernel_rfl) ⟨(lenM o3), c5, (rd0 hx6), (rdM o3 hx6), c7, rfl, rfl, trivial⟩
      · exact go_to hΘ hm hx hP hn (hs := [⟨2, .no, some (I (p1.length : Int))⟩, ⟨4, .br true, none⟩, ⟨7, .row (o3 x6), none⟩, ⟨11, .br false, none⟩]) (π := []) (ts := [0, 1, 5]) (kp := []) (ps := [AV.lit (.int .i64 (((p1.map o3).length : Nat) : Int)) = (I (p1.length : Int)), (decide (v4 < (p1.length : Int))) = true, (0 : Int) ≤ v4, (p1.map o3)[(Int.toNat v4)]? = some (o3 x6), (x6 != v3) = false]) (by kernel_rfl) ⟨(lenM o3), c5, (rd0 hx6), (rdM o3 hx6), c8, trivial⟩ (ih (w64 (v3 + 1)) (w64 (v4 + 1)) _ h)
    · have h := Option.some.inj h
      subst h
      exact go_ret hΘ hm hP hn (hs := [⟨2, .no, some (I (p1.length : Int))⟩, ⟨4, .br false, none⟩]) (rh := []) (ph := .raw) (ps := [AV.lit (.int .i64 (((p1.map o3).length : Nat) : Int)) = (I (p1.length : Int)), (decide (v4 < (p1.length : Int))) = false, (I v3) = (I v3), litA (I v3) = true]) (by kernel_rfl) ⟨(lenM o3), c9, rfl, rfl, trivial⟩
noncomputable def laws_heldIntS (p1 : (List Int)) (p2 : Int) : Option Int :=
  laws_heldIntS_l0 p1 FU p2 0
theorem laws_heldIntS_m {p1 : (List Int)} {p2 : Int} {r : Int} (h : laws_heldIntS p1 p2 = some r) : Meets Try.prog 25 [(AV.ro 1 (p1.map o3)), (I p2)] (I r) := by
  refine meets_ofC Θ_ok Try.func25 rfl (c := body25) (by kernel_rfl) (Nat.le_of_ble_eq_true rfl) ?_
  intro E hP hn hx
  replace hn : E.n = 21 := hn
  have hm : E.P.follows .mixedOrders = true := by rw [hP]; exact mixed
  have hΘ : TOK E.P Θ := by rw [hP]; exact Θ_ok
  unfold laws_heldIntS at h
  show WAt E body25 (FQ (RetE Θ Try.f25.results.toList [] [] (I r) E)) [] ⟨[(0, (AV.ro 1 (p1.map o3))), (1, (I p2))], [], [JJ]⟩
  exact go_to hΘ hm hx hP hn (hs := []) (π := []) (ts := [0, 1, 5]) (kp := []) (ps := []) (by kernel_rfl) trivial (laws_heldIntS_l0_m hP hn hx p1 FU p2 0 _ h)
noncomputable def body24 : Code := match Try.f24.body with | some c => c | none => .skip
noncomputable def laws_markIntS_l0   : Nat → (List Int) → Int → Int → Option (Int × (List Int))
  | 0, _, _, _ => none
  | n + 1, a3, v4, v5 =>
  if (decide (v5 < (a3.length : Int))) = true then
    Option.bind (rd a3 v5) fun x7 =>
    laws_markIntS_l0 n (a3.set (Int.toNat v5) v4) (w64 (v4 + 1)) (w64 (v5 + 1))
  else
    some (v4, a3)
theorem laws_markIntS_l0_m {E : Env} (hP : E.P = Try.prog) (hn : E.n = 19) (hx : ∀ p, p ∈ E.fx → p.1 ∈ ([0] : List Nat))   : ∀ (n : Nat) (a3 : (List Int)) (v4 : Int) (v5 : Int) (r : (Int × (List Int))), laws_markIntS_l0  n a3 v4 v5 = some r → WAt E body24 (FQ (RetE Θ Try.f24.results.toList [true] [⟨3, 1, (r.2.map o3)⟩] (I r.1) E)) [true, false, true, false] ⟨[(0, (AV.sl 0 0 (List.length (a3.map o3)))), (1, (I v4)), (5, (I v5))], [(0, some ⟨3, 1, (a3.map o3)⟩)], [0, JJ]⟩ := by
  have hm : E.P.follows .mixedOrders = true := by rw [hP]; exact mixed
  have hΘ : TOK E.P Θ := by rw [hP]; exact Θ_ok
  intro n
  induction n with
  | zero => intro a3 v4 v5 r h; simp only [laws_markIntS_l0] at h; cases h
  | succ n ih =>
    intro a3 v4 v5 r h
    simp only [laws_markIntS_l0] at h
    rcases itS h with ⟨c6, h⟩ | ⟨c8, h⟩
    · obtain ⟨x7, hx7, h⟩ := bnS h
      exact go_to hΘ hm hx hP hn (hs := [⟨2, .no, some (I (a3.length : Int))⟩, ⟨4, .br true, none⟩, ⟨9, .sto [(I x7)] ((a3.set (Int.toNat v5) v4).map o3), none⟩, ⟨16, .slen 0 (List.length ((a3.set (Int.toNat v5) v4).map o3)), none⟩]) (π := [(0, 0)]) (ts := [0, 1, 5]) (kp := []) (ps := [AV.lit (.int .i64 (((List.length (a3.map o3)) : Nat) : Int)) = (I (a3.length : Int)), (decide (v5 < (a3.length : Int))) = true, (0 : Int) ≤ v5, v5 < (((List.length (a3.map o3)) : Nat) : Int), (a3.map o3)[(Int.toNat v5)]? = some [(I x7)], (a3.map o3).set (Int.toNat v5) (wr [(I x7)] 0 [(I v4)]) = ((a3.set (Int.toNat v5) v4).map o3), [(I v4)].length = 1, 0 + [(I v4)].length ≤ [(I x7)].length, (List.length (a3.map o3)) = (List.length ((a3.set (Int.toNat v5) v4).map o3)), RenOK [(0, 0)] ((a3.set (Int.toNat v5) v4).map o3)]) (by kernel_rfl) ⟨(lenM o3), c6, (rd0 hx7), (rdL o3 hx7), (rdM o3 hx7), (setM o3), rfl, (Nat.le_of_ble_eq_true rfl), (by first | exact lnSet _ | exact lnSet2 _ | simp only [List.length_map, List.length_set, List.length_cons, List.length_nil]), (rok (treeM t3)), trivial⟩ (ih (a3.set (Int.toNat v5) v4) (w64 (v4 + 1)) (w64 (v5 + 1)) _ h)
    · have h := Option.some.inj h
      subst h
      exact go_ret hΘ hm hP hn (hs := [⟨2, .no, some (I (a3.length : Int))⟩, ⟨4, .br false, none⟩]) (rh := []) (ph := .raw) (ps := [AV.lit (.int .i64 (((List.length (a3.map o3)) : Nat) : Int)) = (I (a3.length : Int)), (decide (v5 < (a3.length : Int))) = false, (a3.map o3) = (a3.map o3), treeLL (a3.map o3) = true, noRoLL (a3.map o3) = true, (I v4) = (I v4), litA (I v4) = true]) (by kernel_rfl) ⟨(lenM o3), c8, rfl, (treeM t3), (noRoM n3), rfl, rfl, trivial⟩
noncomputable def laws_markIntS (p1 : (List Int)) (p2 : Int) : Option (Int × (List Int)) :=
  laws_markIntS_l0 FU p1 p2 0
theorem laws_markIntS_m {p1 : (List Int)} {p2 : Int} {r : (Int × (List Int))} (h : laws_markIntS p1 p2 = some r) : MeetsR Try.prog 24 [⟨3, 1, (p1.map o3)⟩] [(AV.sl 0 0 (List.length (p1.map o3))), (I p2)] [true] [⟨3, 1, (r.2.map o3)⟩] (I r.1) := by
  refine meetsR_of Θ_ok Try.func24 rfl (c := body24) (by kernel_rfl) (Nat.le_of_ble_eq_true rfl) rfl (Nat.le_of_ble_eq_true rfl) rfl (fr := [0]) (frI rfl) ?_
  intro E hP hn hx
  replace hn : E.n = 19 := hn
  have hm : E.P.follows .mixedOrders = true := by rw [hP]; exact mixed
  have hΘ : TOK E.P Θ := by rw [hP]; exact Θ_ok
  unfold laws_markIntS at h
  show WAt E body24 (FQ (RetE Θ Try.f24.results.toList [true] [⟨3, 1, (r.2.map o3)⟩] (I r.1) E)) [] ⟨[(0, (AV.sl 0 0 (List.length (p1.map o3)))), (1, (I p2))], [(0, some ⟨3, 1, (p1.map o3)⟩)], [0, JJ]⟩
  exact go_to hΘ hm hx hP hn (hs := []) (π := [(0, 0)]) (ts := [0, 1, 5]) (kp := []) (ps := [RenOK [(0, 0)] (p1.map o3)]) (by kernel_rfl) ⟨(rok (treeM t3)), trivial⟩ (laws_markIntS_l0_m hP hn hx FU p1 p2 0 _ h)
noncomputable def body84 : Code := match Try.f84.body with | some c => c | none => .skip
noncomputable def laws_markOpS_l0   : Nat → (List GOp) → Int → Int → Option (Int × (List GOp))
  | 0, _, _, _ => none
  | n + 1, a3, v4, v5 =>
  if (decide (v5 < (a3.length : Int))) = true then
    Option.bind (rd a3 v5) fun x7 =>
    laws_markOpS_l0 n (a3.set (Int.toNat v5) (GOp.mk v4 (w64 (v4 + 1)) (w64 ((w64 (v4 + 1)) + 1)) (fOf (w64 ((w64 ((w64 (v4 + 1)) + 1)) + 1))))) (w64 ((w64 ((w64 ((w64 (v4 + 1)) + 1)) + 1)) + 1)) (w64 (v5 + 1))
  else
    some (v4, a3)
theorem laws_markOpS_l0_m {E : Env} (hP : E.P = Try.prog) (hn : E.n = 42) (hx : ∀ p, p ∈ E.fx → p.1 ∈ ([0] : List Nat))   : ∀ (n : Nat) (a3 : (List GOp)) (v4 : Int) (v5 : Int) (r : (Int × (List GOp))), laws_markOpS_l0  n a3 v4 v5 = some r → WAt E body84 (FQ (RetE Θ Try.f84.results.toList [true] [⟨85, 4, (r.2.map o85)⟩] (I r.1) E)) [true, false, true, false] ⟨[(0, (AV.sl 0 0 (List.length (a3.map o85)))), (1, (I v4)), (5, (I v5))], [(0, some ⟨85, 4, (a3.map o85)⟩)], [0, JJ]⟩ := by
  have hm : E.P.follows .mixedOrders = true := by rw [hP]; exact mixed
  have hΘ : TOK E.P Θ := by rw [hP]; exact Θ_ok
  intro n
  induction n with
  | zero => intro a3 v4 v5 r h; simp only [laws_markOpS_l0] at h; cases h
  | succ n ih =>
    intro a3 v4 v5 r h
    simp only [laws_markOpS_l0] at h
    rcases itS h with ⟨c6, h⟩ | ⟨c8, h⟩
    · obtain ⟨x7, hx7, h⟩ := bnS h
      exact go_to hΘ hm hx hP hn (hs := [⟨2, .no, some (I (a3.length : Int))⟩, ⟨4, .br true, none⟩, ⟨10, .sto ((o85 x7)) ((a3.set (Int.toNat v5) (GOp.mk v4 x7.A x7.B x7.V)).map o85), none⟩, ⟨14, .slen 0 (List.length ((a3.set (Int.toNat v5) (GOp.mk v4 x7.A x7.B x7.V)).map o85)), none⟩, ⟨19, .sto [(I v4), (I x7.A), (I x7.B), (FK x7.V)] ((a3.set (Int.toNat v5) (GOp.mk v4 (w64 (v4 + 1)) x7.B x7.V)).map o85), none⟩, ⟨23, .slen 0 (List.length ((a3.set (Int.toNat v5) (GOp.mk v4 (w64 (v4 + 1)) x7.B x7.V)).map o85)), none⟩, ⟨28, .sto [(I v4), (I (w64 (v4 + 1))), (I x7.B), (FK x7.V)] ((a3.set (Int.toNat v5) (GOp.mk v4 (w64 (v4 + 1)) (w64 ((w64 (v4 + 1)) + 1)) x7.V)).map o85), none⟩, ⟨32, .slen 0 (List.length ((a3.set (Int.toNat v5) (GOp.mk v4 (w64 (v4 + 1)) (w64 ((w64 (v4 + 1)) + 1)) x7.V)).map o85)), none⟩, ⟨35, .cnv (FK (fOf (w64 ((w64 ((w64 (v4 + 1)) + 1)) + 1)))), none⟩, ⟨38, .sto [(I v4), (I (w64 (v4 + 1))), (I (w64 ((w64 (v4 + 1)) + 1))), (FK x7.V)] ((a3.set (Int.toNat v5) (GOp.mk v4 (w64 (v4 + 1)) (w64 ((w64 (v4 + 1)) + 1)) (fOf (w64 ((w64 ((w64 (v4 + 1)) + 1)) + 1))))).map o85), none⟩, ⟨45, .slen 0 (List.length ((a3.set (Int.toNat v5) (GOp.mk v4 (w64 (v4 + 1)) (w64 ((w64 (v4 + 1)) + 1)) (fOf (w64 ((w64 ((w64 (v4 + 1)) + 1)) + 1))))).map o85)), none⟩]) (π := [(0, 0)]) (ts := [0, 1, 5]) (kp := []) (ps := [AV.lit (.int .i64 (((List.length (a3.map o85)) : Nat) : Int)) = (I (a3.length : Int)), (decide (v5 < (a3.length : Int))) = true, (0 : Int) ≤ v5, v5 < (((List.length (a3.map o85)) : Nat) : Int), (a3.map o85)[(Int.toNat v5)]? = some ((o85 x7)), (a3.map o85).set (Int.toNat v5) (wr ((o85 x7)) 0 [(I v4)]) = ((a3.set (Int.toNat v5) (GOp.mk v4 x7.A x7.B x7.V)).map o85), [(I v4)].length = 1, 0 + [(I v4)].length ≤ ((o85 x7)).length, (List.length (a3.map o85)) = (List.length ((a3.set (Int.toNat v5) (GOp.mk v4 x7.A x7.B x7.V)).map o85)), (0 : Int) ≤ v5, v5 < (((List.length ((a3.set (Int.toNat v5) (GOp.mk v4 x7.A x7.B x7.V)).map o85)) : Nat) : Int), ((a3.set (Int.toNat v5) (GOp.mk v4 x7.A x7.B x7.V)).map o85)[(Int.toNat v5)]? = some [(I v4), (I x7.A), (I x7.B), (FK x7.V)], ((a3.set (Int.toNat v5) (GOp.mk v4 x7.A x7.B x7.V)).map o85).set (Int.toNat v5) (wr [(I v4), (I x7.A), (I x7.B), (FK x7.V)] 1 [(I (w64 (v4 + 1)))]) = ((a3.set (Int.toNat v5) (GOp.mk v4 (w64 (v4 + 1)) x7.B x7.V)).map o85), [(I (w64 (v4 + 1)))].length = 1, 1 + [(I (w64 (v4 + 1)))].length ≤ [(I v4), (I x7.A), (I x7.B), (FK x7.V)].length, (List.length ((a3.set (Int.toNat v5) (GOp.mk v4 x7.A x7.B x7.V)).map o85)) = (List.length ((a3.set (Int.toNat v5) (GOp.mk v4 (w64 (v4 + 1)) x7.B x7.V)).map o85)), (0 : Int) ≤ v5, v5 < (((List.length ((a3.set (Int.toNat v5) (GOp.mk v4 (w64 (v4 + 1)) x7.B x7.V)).map o85)) : Nat) : Int), ((a3.set (Int.toNat v5) (GOp.mk v4 (w64 (v4 + 1)) x7.B x7.V)).map o85)[(Int.toNat v5)]? = some [(I v4), (I (w64 (v4 + 1))), (I x7.B), (FK x7.V)], ((a3.set (Int.toNat v5) (GOp.mk v4 (w64 (v4 + 1)) x7.B x7.V)).map o85).set (Int.toNat v5) (wr [(I v4), (I (w64 (v4 + 1))), (I x7.B), (FK x7.V)] 2 [(I (w64 ((w64 (v4 + 1)) + 1)))]) = ((a3.set (Int.toNat v5) (GOp.mk v4 (w64 (v4 + 1)) (w64 ((w64 (v4 + 1)) + 1)) x7.V)).map o85), [(I (w64 ((w64 (v4 + 1)) + 1)))].length = 1, 2 + [(I (w64 ((w64 (v4 + 1)) + 1)))].length ≤ [(I v4), (I (w64 (v4 + 1))), (I x7.B), (FK x7.V)].length, (List.length ((a3.set (Int.toNat v5) (GOp.mk v4 (w64 (v4 + 1)) x7.B x7.V)).map o85)) = (List.length ((a3.set (Int.toNat v5) (GOp.mk v4 (w64 (v4 + 1)) (w64 ((w64 (v4 + 1)) + 1)) x7.V)).map o85)), CnvS Try.prog 3 83 (I (w64 ((w64 ((w64 (v4 + 1)) + 1)) + 1))) (FK (fOf (w64 ((w64 ((w64 (v4 + 1)) + 1)) + 1)))), (0 : Int) ≤ v5, v5 < (((List.length ((a3.set (Int.toNat v5) (GOp.mk v4 (w64 (v4 + 1)) (w64 ((w64 (v4 + 1)) + 1)) x7.V)).map o85)) : Nat) : Int), ((a3.set (Int.toNat v5) (GOp.mk v4 (w64 (v4 + 1)) (w64 ((w64 (v4 + 1)) + 1)) x7.V)).map o85)[(Int.toNat v5)]? = some [(I v4), (I (w64 (v4 + 1))), (I (w64 ((w64 (v4 + 1)) + 1))), (FK x7.V)], ((a3.set (Int.toNat v5) (GOp.mk v4 (w64 (v4 + 1)) (w64 ((w64 (v4 + 1)) + 1)) x7.V)).map o85).set (Int.toNat v5) (wr [(I v4), (I (w64 (v4 + 1))), (I (w64 ((w64 (v4 + 1)) + 1))), (FK x7.V)] 3 [(FK (fOf (w64 ((w64 ((w64 (v4 + 1)) + 1)) + 1))))]) = ((a3.set (Int.toNat v5) (GOp.mk v4 (w64 (v4 + 1)) (w64 ((w64 (v4 + 1)) + 1)) (fOf (w64 ((w64 ((w64 (v4 + 1)) + 1)) + 1))))).map o85), [(FK (fOf (w64 ((w64 ((w64 (v4 + 1)) + 1)) + 1))))].length = 1, 3 + [(FK (fOf (w64 ((w64 ((w64 (v4 + 1)) + 1)) + 1))))].length ≤ [(I v4), (I (w64 (v4 + 1))), (I (w64 ((w64 (v4 + 1)) + 1))), (FK x7.V)].length, (List.length ((a3.set (Int.toNat v5) (GOp.mk v4 (w64 (v4 + 1)) (w64 ((w64 (v4 + 1)) + 1)) x7.V)).map o85)) = (List.length ((a3.set (Int.toNat v5) (GOp.mk v4 (w64 (v4 + 1)) (w64 ((w64 (v4 + 1)) + 1)) (fOf (w64 ((w64 ((w64 (v4 + 1)) + 1)) + 1))))).map o85)), RenOK [(0, 0)] ((a3.set (Int.toNat v5) (GOp.mk v4 (w64 (v4 + 1)) (w64 ((w64 (v4 + 1)) + 1)) (fOf (w64 ((w64 ((w64 (v4 + 1)) + 1)) + 1))))).map o85)]) (by kernel_rfl) ⟨(lenM o85), c6, (rd0 hx7), (rdL o85 hx7), (rdM o85 hx7), (setMr o85 (by kernel_rfl)), rfl, (Nat.le_of_ble_eq_true rfl), (by first | exact lnSet _ | exact lnSet2 _ | simp only [List.length_map, List.length_set, List.length_cons, List.length_nil]), (rd0 hx7), (rdL o85 (rdS (y := (GOp.mk v4 x7.A x7.B x7.V)) hx7)), (rdM o85 (rdS (y := (GOp.mk v4 x7.A x7.B x7.V)) hx7)), (setSS o85 (by kernel_rfl)), rfl, (Nat.le_of_ble_eq_true rfl), (by first | exact lnSet _ | exact lnSet2 _ | simp only [List.length_map, List.length_set, List.length_cons, List.length_nil]), (rd0 hx7), (rdL o85 (rdS (y := (GOp.mk v4 (w64 (v4 + 1)) x7.B x7.V)) hx7)), (rdM o85 (rdS (y := (GOp.mk v4 (w64 (v4 + 1)) x7.B x7.V)) hx7)), (setSS o85 (by kernel_rfl)), rfl, (Nat.le_of_ble_eq_true rfl), (by first | exact lnSet _ | exact lnSet2 _ | simp only [List.length_map, List.length_set, List.length_cons, List.length_nil]), (cIF (P := Try.prog) ty3 ty83), (rd0 hx7), (rdL o85 (rdS (y := (GOp.mk v4 (w64 (v4 + 1)) (w64 ((w64 (v4 + 1)) + 1)) x7.V)) hx7)), (rdM o85 (rdS (y := (GOp.mk v4 (w64 (v4 + 1)) (w64 ((w64 (v4 + 1)) + 1)) x7.V)) hx7)), (setSS o85 (by kernel_rfl)), rfl, (Nat.le_of_ble_eq_true rfl), (by first | exact lnSet _ | exact lnSet2 _ | simp only [List.length_map, List.length_set, List.length_cons, List.length_nil]), (rok (treeM t85)), trivial⟩ (ih (a3.set (Int.toNat v5) (GOp.mk v4 (w64 (v4 + 1)) (w64 ((w64 (v4 + 1)) + 1)) (fOf (w64 ((w64 ((w64 (v4 + 1)) + 1)) + 1))))) (w64 ((w64 ((w64 ((w64 (v4 + 1)) + 1)) + 1)) + 1)) (w64 (v5 + 1)) _ h)
    · have h := Option.some.inj h
      subst h
      exact go_ret hΘ hm hP hn (hs := [⟨2, .no, some (I (a3.length : Int))⟩, ⟨4, .br false, none⟩]) (rh := []) (ph := .raw) (ps := [AV.lit (.int .i64 (((List.length (a3.map o85)) : Nat) : Int)) = (I (a3.length : Int)), (decide (v5 < (a3.length : Int))) = false, (a3.map o85) = (a3.map o85), treeLL (a3.map o85) = true, noRoLL (a3.map o85) = true, (I v4) = (I v4), litA (I v4) = true]) (by kernel_rfl) ⟨(lenM o85), c8, rfl, (treeM t85), (noRoM n85), rfl, rfl, trivial⟩
noncomputable def laws_markOpS (p1 : (List GOp)) (p2 : Int) : Option (Int × (List GOp)) :=
  laws_markOpS_l0 FU p1 p2 0
theorem laws_markOpS_m {p1 : (List GOp)} {p2 : Int} {r : (Int × (List GOp))} (h : laws_markOpS p1 p2 = some r) : MeetsR Try.prog 84 [⟨85, 4, (p1.map o85)⟩] [(AV.sl 0 0 (List.length (p1.map o85))), (I p2)] [true] [⟨85, 4, (r.2.map o85)⟩] (I r.1) := by
  refine meetsR_of Θ_ok Try.func84 rfl (c := body84) (by kernel_rfl) (Nat.le_of_ble_eq_true rfl) rfl (Nat.le_of_ble_eq_true rfl) rfl (fr := [0]) (frI rfl) ?_
  intro E hP hn hx
  replace hn : E.n = 42 := hn
  have hm : E.P.follows .mixedOrders = true := by rw [hP]; exact mixed
  have hΘ : TOK E.P Θ := by rw [hP]; exact Θ_ok
  unfold laws_markOpS at h
  show WAt E body84 (FQ (RetE Θ Try.f84.results.toList [true] [⟨85, 4, (r.2.map o85)⟩] (I r.1) E)) [] ⟨[(0, (AV.sl 0 0 (List.length (p1.map o85)))), (1, (I p2))], [(0, some ⟨85, 4, (p1.map o85)⟩)], [0, JJ]⟩
  exact go_to hΘ hm hx hP hn (hs := []) (π := [(0, 0)]) (ts := [0, 1, 5]) (kp := []) (ps := [RenOK [(0, 0)] (p1.map o85)]) (by kernel_rfl) ⟨(rok (treeM t85)), trivial⟩ (laws_markOpS_l0_m hP hn hx FU p1 p2 0 _ h)
noncomputable def body55 : Code := match Try.f55.body with | some c => c | none => .skip
noncomputable def laws_markOpSS_l0   : Nat → (List (List GOp)) → Int → Int → Option (Int × (List (List GOp)))
  | 0, _, _, _ => none
  | n + 1, a3, v4, v5 =>
  if (decide (v5 < (a3.length : Int))) = true then
    Option.bind (rd a3 v5) fun x7 =>
    Option.bind (laws_markOpS x7 v4) fun r8 =>
    Option.bind (sameLen x7 r8.2) fun q9 =>
    laws_markOpSS_l0 n (a3.set (Int.toNat v5) r8.2) r8.1 (w64 (v5 + 1))
  else
    some (v4, a3)
theorem laws_markOpSS_l0_m {E : Env} (hP : E.P = Try.prog) (hn : E.n = 19) (hx : ∀ p, p ∈ E.fx → p.1 ∈ ([0] : List Nat))   : ∀ (n : Nat) (a3 : (List (List GOp))) (v4 : Int) (v5 : Int) (r : (Int × (List (List GOp)))), laws_markOpSS_l0  n a3 v4 v5 = some r → WAt E body55 (FQ (RetE Θ Try.f55.results.toList [true] [⟨82, 1, (r.2.map o82)⟩] (I r.1) E)) [true, false, true, false] ⟨[(0, (AV.sl 0 0 (List.length (a3.map o82)))), (1, (I v4)), (5, (I v5))], [(0, some ⟨82, 1, (a3.map o82)⟩)], [0, JJ]⟩ := by
  have hm : E.P.follows .mixedOrders = true := by rw [hP]; exact mixed
  have hΘ : TOK E.P Θ := by rw [hP]; exact Θ_ok
  intro n
  induction n with
  | zero => intro a3 v4 v5 r h; simp only [laws_markOpSS_l0] at h; cases h
  | succ n ih =>
    intro a3 v4 v5 r h
    simp only [laws_markOpSS_l0] at h
    rcases itS h with ⟨c6, h⟩ | ⟨c10, h⟩
    · obtain ⟨x7, hx7, h⟩ := bnS h
      obtain ⟨r8, hr8, h⟩ := bnS h
      obtain ⟨q9, hq9, h⟩ := bnS h
      exact go_to hΘ hm hx hP hn (hs := [⟨2, .no, some (I (a3.length : Int))⟩, ⟨4, .br true, none⟩, ⟨8, .unpack 0 1001 (Int.toNat v5) 0 [(AV.own 85 4 (x7.map o85))] 85 4 (x7.map o85) ((a3.map o82).set (Int.toNat v5) [(AV.sl 1001 0 (List.length (x7.map o85)))]), none⟩, ⟨8, .row [(AV.sl 1001 0 (List.length (x7.map o85)))], none⟩, ⟨10, .callX [1001] [true] [⟨85, 4, (x7.map o85)⟩] [⟨85, 4, (r8.2.map o85)⟩] [] (I r8.1) [] (I r8.1) [], none⟩, ⟨15, .pack 0 1001 (Int.toNat v5) 0 [(AV.sl 1001 0 (List.length (x7.map o85)))] ((a3.set (Int.toNat v5) r8.2).map o82), none⟩, ⟨15, .slen 0 (List.length ((a3.set (Int.toNat v5) r8.2).map o82)), none⟩]) (π := [(0, 0)]) (ts := [0, 1, 5]) (kp := []) (ps := [AV.lit (.int .i64 (((List.length (a3.map o82)) : Nat) : Int)) = (I (a3.length : Int)), (decide (v5 < (a3.length : Int))) = true, (0 : Int) ≤ v5, v5 < (((List.length (a3.map o82)) : Nat) : Int), (a3.map o82)[(Int.toNat v5)]? = some [(AV.own 85 4 (x7.map o85))], [(AV.own 85 4 (x7.map o85))][0]? = some (AV.own 85 4 (x7.map o85)), 0 < 4, (a3.map o82).set (Int.toNat v5) ([(AV.own 85 4 (x7.map o85))].set 0 (AV.sl 1001 0 (List.length (x7.map o85)))) = ((a3.map o82).set (Int.toNat v5) [(AV.sl 1001 0 (List.length (x7.map o85)))]), ((a3.map o82).set (Int.toNat v5) [(AV.sl 1001 0 (List.length (x7.map o85)))])[(Int.toNat v5)]? = some [(AV.sl 1001 0 (List.length (x7.map o85)))], MeetsR Try.prog 84 [⟨85, 4, (x7.map o85)⟩] [(AV.sl 0 0 (List.length (x7.map o85))), (I v4)] [true] [⟨85, 4, (r8.2.map o85)⟩] (I r8.1), (some (Root.mk 85 4 (x7.map o85)) = some (Root.mk 85 4 (x7.map o85))) ∧ True, (treeLL (x7.map o85) = true ∧ noRoLL (x7.map o85) = true) ∧ True, ((r8.2.map o85).length = (x7.map o85).length) ∧ True, (rtf (renA [(0, 1001)] (I r8.1)) []).1 = (I r8.1), (rtf (renA [(0, 1001)] (I r8.1)) []).2.1 = [], ((a3.map o82).set (Int.toNat v5) [(AV.sl 1001 0 (List.length (x7.map o85)))])[(Int.toNat v5)]? = some [(AV.sl 1001 0 (List.length (x7.map o85)))], [(AV.sl 1001 0 (List.length (x7.map o85)))][0]? = some (AV.sl 1001 0 (List.length (r8.2.map o85))), treeLL (r8.2.map o85) = true, ((a3.map o82).set (Int.toNat v5) [(AV.sl 1001 0 (List.length (x7.map o85)))]).set (Int.toNat v5) ([(AV.sl 1001 0 (List.length (x7.map o85)))].set 0 (AV.own 85 4 (r8.2.map o85))) = ((a3.set (Int.toNat v5) r8.2).map o82), (List.length (a3.map o82)) = (List.length ((a3.set (Int.toNat v5) r8.2).map o82)), RenOK [(0, 0)] ((a3.set (Int.toNat v5) r8.2).map o82)]) (by kernel_rfl) ⟨(lenM o82), c6, (rd0 hx7), (rdL o82 hx7), (rdM o82 hx7), rfl, (by decide), rfl, (setE (rdM o82 hx7)), (laws_markOpS_m hr8), ⟨rfl, trivial⟩, ⟨⟨treeM t85, noRoM n85⟩, trivial⟩, ⟨(sameLenE o85 hq9), trivial⟩, rfl, rfl, (setE (rdM o82 hx7)), (pkS (sameLenE o85 hq9).symm), (treeM t85), (setP o82), (by first | exact lnSet _ | exact lnSet2 _ | simp only [List.length_map, List.length_set, List.length_cons, List.length_nil]), (rok (treeM t82)), trivial⟩ (ih (a3.set (Int.toNat v5) r8.2) r8.1 (w64 (v5 + 1)) _ h)
    · have h := Option.some.inj h
      subst h
      exact go_ret hΘ hm hP hn (hs := [⟨2, .no, some (I (a3.length : Int))⟩, ⟨4, .br false, none⟩]) (rh := []) (ph := .raw) (ps := [AV.lit (.int .i64 (((List.length (a3.map o82)) : Nat) : Int)) = (I (a3.length : Int)), (decide (v5 < (a3.length : Int))) = false, (a3.map o82) = (a3.map o82), treeLL (a3.map o82) = true, noRoLL (a3.map o82) = true, (I v4) = (I v4), litA (I v4) = true]) (by kernel_rfl) ⟨(lenM o82), c10, rfl, (treeM t82), (noRoM n82), rfl, rfl, trivial⟩
noncomputable def laws_markOpSS (p1 : (List (List GOp))) (p2 : Int) : Option (Int × (List (List GOp))) :=
  laws_markOpSS_l0 FU p1 p2 0
theorem laws_markOpSS_m {p1 : (List (List GOp))} {p2 : Int} {r : (Int × (List (List GOp)))} (h : laws_markOpSS p1 p2 = some r) : MeetsR Try.prog 55 [⟨82, 1, (p1.map o82)⟩] [(AV.sl 0 0 (List.length (p1.map o82))), (I p2)] [true] [⟨82, 1, (r.2.map o82)⟩] (I r.1) := by
  refine meetsR_of Θ_ok Try.func55 rfl (c := body55) (by kernel_rfl) (Nat.le_of_ble_eq_true rfl) rfl (Nat.le_of_ble_eq_true rfl) rfl (fr := [0]) (frI rfl) ?_
  intro E hP hn hx
  replace hn : E.n = 19 := hn
  have hm : E.P.follows .mixedOrders = true := by rw [hP]; exact mixed
  have hΘ : TOK E.P Θ := by rw [hP]; exact Θ_ok
  unfold laws_markOpSS at h
  show WAt E body55 (FQ (RetE Θ Try.f55.results.toList [true] [⟨82, 1, (r.2.map o82)⟩] (I r.1) E)) [] ⟨[(0, (AV.sl 0 0 (List.length (p1.map o82)))), (1, (I p2))], [(0, some ⟨82, 1, (p1.map o82)⟩)], [0, JJ]⟩
  exact go_to hΘ hm hx hP hn (hs := []) (π := [(0, 0)]) (ts := [0, 1, 5]) (kp := []) (ps := [RenOK [(0, 0)] (p1.map o82)]) (by kernel_rfl) ⟨(rok (treeM t82)), trivial⟩ (laws_markOpSS_l0_m hP hn hx FU p1 p2 0 _ h)
noncomputable def body18 : Code := match Try.f18.body with | some c => c | none => .skip
noncomputable def laws_markProg (p1 : Int) (p2 : Int) (p3 : Int) (p4 : (List (List GOp))) (p5 : Int) : Option (Int × (List (List GOp))) :=
  Option.bind (laws_markOpSS p4 p5) fun r6 =>
  Option.bind (sameLen p4 r6.2) fun q7 =>
  some (r6.1, r6.2)
theorem laws_markProg_m {p1 : Int} {p2 : Int} {p3 : Int} {p4 : (List (List GOp))} {p5 : Int} {r : (Int × (List (List GOp)))} (h : laws_markProg p1 p2 p3 p4 p5 = some r) : MeetsR Try.prog 18 [⟨82, 1, (p4.map o82)⟩] [(AV.agg [(I p1), (I p2), (I p3), (AV.sl 0 0 (List.length (p4.map o82)))]), (I p5)] [true] [⟨82, 1, (r.2.map o82)⟩] (I r.1) := by
  refine meetsR_of Θ_ok Try.func18 rfl (c := body18) (by kernel_rfl) (Nat.le_of_ble_eq_true rfl) rfl (Nat.le_of_ble_eq_true rfl) rfl (fr := [0]) (frI rfl) ?_
  intro E hP hn hx
  replace hn : E.n = 10 := hn
  have hm : E.P.follows .mixedOrders = true := by rw [hP]; exact mixed
  have hΘ : TOK E.P Θ := by rw [hP]; exact Θ_ok
  unfold laws_markProg at h
  show WAt E body18 (FQ (RetE Θ Try.f18.results.toList [true] [⟨82, 1, (r.2.map o82)⟩] (I r.1) E)) [] ⟨[(0, (AV.agg [(I p1), (I p2), (I p3), (AV.sl 0 0 (List.length (p4.map o82)))])), (1, (I p5))], [(0, some ⟨82, 1, (p4.map o82)⟩)], [0, JJ]⟩
  obtain ⟨r6, hr6, h⟩ := bnS h
  obtain ⟨q7, hq7, h⟩ := bnS h
  have h := Option.some.inj h
  subst h
  exact go_ret hΘ hm hP hn (hs := [⟨0, .new 1001, none⟩, ⟨5, .callX [0] [true] [⟨82, 1, (p4.map o82)⟩] [⟨82, 1, (r6.2.map o82)⟩] [] (I r6.1) [] (I r6.1) [], none⟩]) (rh := []) (ph := .raw) (ps := [MeetsR Try.prog 55 [⟨82, 1, (p4.map o82)⟩] [(AV.sl 0 0 (List.length (p4.map o82))), (I p5)] [true] [⟨82, 1, (r6.2.map o82)⟩] (I r6.1), (some (Root.mk 82 1 (p4.map o82)) = some (Root.mk 82 1 (p4.map o82))) ∧ True, (treeLL (p4.map o82) = true ∧ noRoLL (p4.map o82) = true) ∧ True, ((r6.2.map o82).length = (p4.map o82).length) ∧ True, (rtf (renA [(0, 0)] (I r6.1)) []).1 = (I r6.1), (rtf (renA [(0, 0)] (I r6.1)) []).2.1 = [], (r6.2.map o82) = (r6.2.map o82), treeLL (r6.2.map o82) = true, noRoLL (r6.2.map o82) = true, (I r6.1) = (I r6.1), litA (I r6.1) = true]) (by kernel_rfl) ⟨(laws_markOpSS_m hr6), ⟨rfl, trivial⟩, ⟨⟨treeM t82, noRoM n82⟩, trivial⟩, ⟨(sameLenE o82 hq7), trivial⟩, rfl, rfl, rfl, (treeM t82), (noRoM n82), rfl, rfl, trivial⟩
noncomputable def body66 : Code := match Try.f66.body with | some c => c | none => .skip
noncomputable def laws_szOpS (p1 : (List GOp)) (p2 : Int) : Option Int :=
  if (decide ((w64 (p2 - (p1.length : Int))) < 0)) = true then
    some (-1)
  else
    some (w64 (p2 - (p1.length : Int)))
theorem laws_szOpS_m {p1 : (List GOp)} {p2 : Int} {r : Int} (h : laws_szOpS p1 p2 = some r) : Meets Try.prog 66 [(AV.ro 4 (p1.map o116)), (I p2)] (I r) := by
  refine meets_ofC Θ_ok Try.func66 rfl (c := body66) (by kernel_rfl) (Nat.le_of_ble_eq_true rfl) ?_
  intro E hP hn hx
  replace hn : E.n = 12 := hn
  have hm : E.P.follows .mixedOrders = true := by rw [hP]; exact mixed
  have hΘ : TOK E.P Θ := by rw [hP]; exact Θ_ok
  unfold laws_szOpS at h
  show WAt E body66 (FQ (RetE Θ Try.f66.results.toList [] [] (I r) E)) [] ⟨[(0, (AV.ro 4 (p1.map o116))), (1, (I p2))], [], [JJ]⟩
  rcases itS h with ⟨c3, h⟩ | ⟨c4, h⟩
  · have h := Option.some.inj h
    subst h
    exact go_ret hΘ hm hP hn (hs := [⟨3, .no, some (I (p1.length : Int))⟩, ⟨8, .br true, none⟩]) (rh := []) (ph := .raw) (ps := [AV.lit (.int .i64 (((p1.map o116).length : Nat) : Int)) = (I (p1.length : Int)), (decide ((w64 (p2 - (p1.length : Int))) < 0)) = true, (I (-1)) = (I (-1)), litA (I (-1)) = true]) (by kernel_rfl) ⟨(lenM o116), c3, rfl, rfl, trivial⟩
  · have h := Option.some.inj h
    subst h
    exact go_ret hΘ hm hP hn (hs := [⟨3, .no, some (I (p1.length : Int))⟩, ⟨8, .br false, none⟩]) (rh := []) (ph := .raw) (ps := [AV.lit (.int .i64 (((p1.map o116).length : Nat) : Int)) = (I (p1.length : Int)), (decide ((w64 (p2 - (p1.length : Int))) < 0)) = false, (I (w64 (p2 - (p1.length : Int)))) = (I (w64 (p2 - (p1.length : Int)))), litA (I (w64 (p2 - (p1.length : Int)))) = true]) (by kernel_rfl) ⟨(lenM o116), c4, rfl, rfl, trivial⟩
noncomputable def body33 : Code := match Try.f33.body with | some c => c | none => .skip
noncomputable def laws_szOpSS_l0  (p1 : (List (List GOp))) : Nat → Int → Int → Option Int
  | 0, _, _ => none
  | n + 1, v5, v6 =>
  if (decide (v6 < (p1.length : Int))) = true then
    Option.bind (rd p1 v6) fun x8 =>
    Option.bind (laws_szOpS x8 v5) fun r9 =>
    if (decide (r9 < 0)) = true then
      some (-1)
    else
      laws_szOpSS_l0 p1 n r9 (w64 (v6 + 1))
  else
    some v5
theorem laws_szOpSS_l0_m {E : Env} (hP : E.P = Try.prog) (hn : E.n = 27) (hx : ∀ p, p ∈ E.fx → p.1 ∈ ([] : List Nat)) (p1 : (List (List GOp)))  : ∀ (n : Nat) (v5 : Int) (v6 : Int) (r : Int), laws_szOpSS_l0 p1 n v5 v6 = some r → WAt E body33 (FQ (RetE Θ Try.f33.results.toList [] [] (I r) E)) [true, true, true, false, true, false] ⟨[(0, (AV.ro 1 (p1.map r90))), (1, (I v5)), (5, (I v6))], [], [JJ]⟩ := by
  have hm : E.P.follows .mixedOrders = true := by rw [hP]; exact mixed
  have hΘ : TOK E.P Θ := by rw [hP]; exact Θ_ok
  intro n
  induction n with
  | zero => intro v5 v6 r h; simp only [laws_szOpSS_l0] at h; cases h
  | succ n ih =>
    intro v5 v6 r h
    simp only [laws_szOpSS_l0] at h
    rcases itS h with ⟨c7, h⟩ | ⟨c12, h⟩
    · obtain ⟨x8, hx8, h⟩ := bnS h
      obtain ⟨r9, hr9, h⟩ := bnS h
      rcases itS h with ⟨c10, h⟩ | ⟨c11, h⟩
      · have h := Option.some.inj h
        subst h
        exact go_ret hΘ hm hP hn (hs := [⟨2, .no, some (I (p1.length : Int))⟩, ⟨4, .br true, none⟩, ⟨7, .row (r90 x8), none⟩, ⟨10, .callV [] (I r9), none⟩, ⟨14, .br true, none⟩]) (rh := []) (ph := .raw) (ps := [AV.lit (.int .i64 (((p1.map r90).length : Nat) : Int)) = (I (p1.length : Int)), (decide (v6 < (p1.length : Int))) = true, (0 : Int) ≤ v6, (p1.map r90)[(Int.toNat v6)]? = some (r90 x8), Meets Try.prog 66 [(AV.ro 4 (x8.map o116)), (I v5)] (I r9), litA (I r9) = true, (decide (r9 < 0)) = true, (I (-1)) = (I (-1)), litA (I (-1)) = true]) (by kernel_rfl) ⟨(lenM r90), c7, (rd0 hx8), (rdM r90 hx8), (laws_szOpS_m hr9), rfl, c10, rfl, rfl, trivial⟩
      · exact go_to hΘ hm hx hP hn (hs := [⟨2, .no, some (I (p1.length : Int))⟩, ⟨4, .br true, none⟩, ⟨7, .row (r90 x8), none⟩, ⟨10, .callV [] (I r9), none⟩, ⟨14, .br false, none⟩]) (π := []) (ts := [0, 1, 5]) (kp := []) (ps := [AV.lit (.int .i64 (((p1.map r90).length : Nat) : Int)) = (I (p1.length : Int)), (decide (v6 < (p1.length : Int))) = true, (0 : Int) ≤ v6, (p1.map r90)[(Int.toNat v6)]? = some (r90 x8), Meets Try.prog 66 [(AV.ro 4 (x8.map o116)), (I v5)] (I r9), litA (I r9) = true, (decide (r9 < 0)) = false]) (by kernel_rfl) ⟨(lenM r90), c7, (rd0 hx8), (rdM r90 hx8), (laws_szOpS_m hr9), rfl, c11, trivial⟩ (ih r9 (w64 (v6 + 1)) _ h)
    · have h := Option.some.inj h
      subst h
      exact go_ret hΘ hm hP hn (hs := [⟨2, .no, some (I (p1.length : Int))⟩, ⟨4, .br false, none⟩]) (rh := []) (ph := .raw) (ps := [AV.lit (.int .i64 (((p1.map r90).length : Nat) : Int)) = (I (p1.length : Int)), (decide (v6 < (p1.length : Int))) = false, (I v5) = (I v5), litA (I v5) = true]) (by kernel_rfl) ⟨(lenM r90), c12, rfl, rfl, trivial⟩
noncomputable def laws_szOpSS (p1 : (List (List GOp))) (p2 : Int) : Option Int :=
  if (decide ((w64 (p2 - (p1.length : Int))) < 0)) = true then
    some (-1)
  else
    laws_szOpSS_l0 p1 FU (w64 (p2 - (p1.length : Int))) 0
theorem laws_szOpSS_m {p1 : (List (List GOp))} {p2 : Int} {r : Int} (h : laws_szOpSS p1 p2 = some r) : Meets Try.prog 33 [(AV.ro 1 (p1.map r90)), (I p2)] (I r) := by
  refine meets_ofC Θ_ok Try.func33 rfl (c := body33) (by kernel_rfl) (Nat.le_of_ble_eq_true rfl) ?_
  intro E hP hn hx
  replace hn : E.n = 27 := hn
  have hm : E.P.follows .mixedOrders = true := by rw [hP]; exact mixed
  have hΘ : TOK E.P Θ := by rw [hP]; exact Θ_ok
  unfold laws_szOpSS at h
  show WAt E body33 (FQ (RetE Θ Try.f33.results.toList [] [] (I r) E)) [] ⟨[(0, (AV.ro 1 (p1.map r90))), (1, (I p2))], [], [JJ]⟩
  rcases itS h with ⟨c3, h⟩ | ⟨c4, h⟩
  · have h := Option.some.inj h
    subst h
    exact go_ret hΘ hm hP hn (hs := [⟨3, .no, some (I (p1.length : Int))⟩, ⟨8, .br true, none⟩]) (rh := []) (ph := .raw) (ps := [AV.lit (.int .i64 (((p1.map r90).length : Nat) : Int)) = (I (p1.length : Int)), (decide ((w64 (p2 - (p1.length : Int))) < 0)) = true, (I (-1)) = (I (-1)), litA (I (-1)) = true]) (by kernel_rfl) ⟨(lenM r90), c3, rfl, rfl, trivial⟩
  · exact go_to hΘ hm hx hP hn (hs := [⟨3, .no, some (I (p1.length : Int))⟩, ⟨8, .br false, none⟩]) (π := []) (ts := [0, 1, 5]) (kp := []) (ps := [AV.lit (.int .i64 (((p1.map r90).length : Nat) : Int)) = (I (p1.length : Int)), (decide ((w64 (p2 - (p1.length : Int))) < 0)) = false]) (by kernel_rfl) ⟨(lenM r90), c4, trivial⟩ (laws_szOpSS_l0_m hP hn hx p1 FU (w64 (p2 - (p1.length : Int))) 0 _ h)
noncomputable def body8 : Code := match Try.f8.body with | some c => c | none => .skip
noncomputable def laws_szProg (p1 : GProg) (p2 : Int) : Option Int :=
  Option.bind (laws_szOpSS p1.Routines p2) fun r3 =>
  if (decide (r3 < 0)) = true then
    some (-1)
  else
    some r3
theorem laws_szProg_m {p1 : GProg} {p2 : Int} {r : Int} (h : laws_szProg p1 p2 = some r) : Meets Try.prog 8 [(AV.agg ((r24 p1))), (I p2)] (I r) := by
  refine meets_ofC Θ_ok Try.func8 rfl (c := body8) (by kernel_rfl) (Nat.le_of_ble_eq_true rfl) ?_
  intro E hP hn hx
  replace hn : E.n = 12 := hn
  have hm : E.P.follows .mixedOrders = true := by rw [hP]; exact mixed
  have hΘ : TOK E.P Θ := by rw [hP]; exact Θ_ok
  unfold laws_szProg at h
  show WAt E body8 (FQ (RetE Θ Try.f8.results.toList [] [] (I r) E)) [] ⟨[(0, (AV.agg ((r24 p1)))), (1, (I p2))], [], [JJ]⟩
  obtain ⟨r3, hr3, h⟩ := bnS h
  rcases itS h with ⟨c4, h⟩ | ⟨c5, h⟩
  · have h := Option.some.inj h
    subst h
    exact go_ret hΘ hm hP hn (hs := [⟨0, .new 1001, none⟩, ⟨5, .callV [] (I r3), none⟩, ⟨9, .br true, none⟩]) (rh := []) (ph := .raw) (ps := [Meets Try.prog 33 [(AV.ro 1 (p1.Routines.map r90)), (I p2)] (I r3), litA (I r3) = true, (decide (r3 < 0)) = true, (I (-1)) = (I (-1)), litA (I (-1)) = true]) (by kernel_rfl) ⟨(laws_szOpSS_m hr3), rfl, c4, rfl, rfl, trivial⟩
  · have h := Option.some.inj h
    subst h
    exact go_ret hΘ hm hP hn (hs := [⟨0, .new 1001, none⟩, ⟨5, .callV [] (I r3), none⟩, ⟨9, .br false, none⟩]) (rh := []) (ph := .raw) (ps := [Meets Try.prog 33 [(AV.ro 1 (p1.Routines.map r90)), (I p2)] (I r3), litA (I r3) = true, (decide (r3 < 0)) = false, (I r3) = (I r3), litA (I r3) = true]) (by kernel_rfl) ⟨(laws_szOpSS_m hr3), rfl, c5, rfl, rfl, trivial⟩
noncomputable def body91 : Code := match Try.f91.body with | some c => c | none => .skip
noncomputable def laws_toOp (p1 : GOp) : Option GOp :=
  some (GOp.mk p1.Code p1.A p1.B p1.V)
theorem laws_toOp_m {p1 : GOp} {r : GOp} (h : laws_toOp p1 = some r) : Meets Try.prog 91 [(AV.agg ((o116 p1)))] (AV.agg (o85 r)) := by
  refine meets_ofC Θ_ok Try.func91 rfl (c := body91) (by kernel_rfl) (Nat.le_of_ble_eq_true rfl) ?_
  intro E hP hn hx
  replace hn : E.n = 17 := hn
  have hm : E.P.follows .mixedOrders = true := by rw [hP]; exact mixed
  have hΘ : TOK E.P Θ := by rw [hP]; exact Θ_ok
  unfold laws_toOp at h
  show WAt E body91 (FQ (RetE Θ Try.f91.results.toList [] [] (AV.agg (o85 r)) E)) [] ⟨[(0, (AV.agg ((o116 p1))))], [], [JJ]⟩
  have h := Option.some.inj h
  subst h
  exact go_ret hΘ hm hP hn (hs := [⟨0, .new 1001, none⟩, ⟨1, .new 1002, none⟩, ⟨2, .new 1003, none⟩]) (rh := []) (ph := .raw) (ps := [(AV.agg [(I p1.Code), (I p1.A), (I p1.B), (FK p1.V)]) = (AV.agg [(I p1.Code), (I p1.A), (I p1.B), (FK p1.V)]), litA (AV.agg [(I p1.Code), (I p1.A), (I p1.B), (FK p1.V)]) = true]) (by kernel_rfl) ⟨rfl, rfl, trivial⟩
noncomputable def body72 : Code := match Try.f72.body with | some c => c | none => .skip
noncomputable def laws_toOpS_l0  (p1 : (List GOp)) : Nat → (List GOp) → Int → Option (List GOp)
  | 0, _, _ => none
  | n + 1, a3, v4 =>
  if (decide (v4 < (p1.length : Int))) = true then
    Option.bind (rd p1 v4) fun x6 =>
    Option.bind (laws_toOp x6) fun r7 =>
    Option.bind (rd a3 v4) fun x8 =>
    laws_toOpS_l0 p1 n (a3.set (Int.toNat v4) r7) (w64 (v4 + 1))
  else
    some a3
theorem laws_toOpS_l0_m {E : Env} (hP : E.P = Try.prog) (hn : E.n = 23) (hx : ∀ p, p ∈ E.fx → p.1 ∈ ([] : List Nat)) (p1 : (List GOp))  : ∀ (n : Nat) (a3 : (List GOp)) (v4 : Int) (r : (List GOp)), laws_toOpS_l0 p1 n a3 v4 = some r → WAt E body72 (FQ (RetE Θ Try.f72.results.toList [] [] (AV.own 85 4 (r.map o85)) E)) [true, true, false, true, false] ⟨[(0, (AV.ro 4 (p1.map o116))), (3, (AV.sl 1 0 (List.length (a3.map o85)))), (4, (I v4))], [(1, some ⟨85, 4, (a3.map o85)⟩)], [1, JJ]⟩ := by
  have hm : E.P.follows .mixedOrders = true := by rw [hP]; exact mixed
  have hΘ : TOK E.P Θ := by rw [hP]; exact Θ_ok
  intro n
  induction n with
  | zero => intro a3 v4 r h; simp only [laws_toOpS_l0] at h; cases h
  | succ n ih =>
    intro a3 v4 r h
    simp only [laws_toOpS_l0] at h
    rcases itS h with ⟨c5, h⟩ | ⟨c9, h⟩
    · obtain ⟨x6, hx6, h⟩ := bnS h
      obtain ⟨r7, hr7, h⟩ := bnS h
      obtain ⟨x8, hx8, h⟩ := bnS h
      exact go_to hΘ hm hx hP hn (hs := [⟨2, .no, some (I (p1.length : Int))⟩, ⟨4, .br true, none⟩, ⟨9, .row (o116 x6), none⟩, ⟨11, .callV [[]] (AV.agg (o85 r7)), none⟩, ⟨13, .sto ((o85 x8)) ((a3.set (Int.toNat v4) r7).map o85), none⟩, ⟨17, .slen 3 (List.length ((a3.set (Int.toNat v4) r7).map o85)), none⟩]) (π := [(1, 1)]) (ts := [0, 3, 4]) (kp := []) (ps := [AV.lit (.int .i64 (((p1.map o116).length : Nat) : Int)) = (I (p1.length : Int)), (decide (v4 < (p1.length : Int))) = true, (0 : Int) ≤ v4, (p1.map o116)[(Int.toNat v4)]? = some (o116 x6), Meets Try.prog 91 [(AV.agg ((o116 x6)))] (AV.agg (o85 r7)), litA (AV.agg (o85 r7)) = true, (0 : Int) ≤ v4, v4 < (((List.length (a3.map o85)) : Nat) : Int), (a3.map o85)[(Int.toNat v4)]? = some ((o85 x8)), (a3.map o85).set (Int.toNat v4) (wr ((o85 x8)) 0 ((o85 r7))) = ((a3.set (Int.toNat v4) r7).map o85), ((o85 r7)).length = 4, 0 + ((o85 r7)).length ≤ ((o85 x8)).length, (List.length (a3.map o85)) = (List.length ((a3.set (Int.toNat v4) r7).map o85)), RenOK [(1, 1)] ((a3.set (Int.toNat v4) r7).map o85)]) (by kernel_rfl) ⟨(lenM o116), c5, (rd0 hx6), (rdM o116 hx6), (laws_toOp_m hr7), rfl, (rd0 hx8), (rdL o85 hx8), (rdM o85 hx8), (setMr o85 (by kernel_rfl)), rfl, (Nat.le_of_ble_eq_true rfl), (by first | exact lnSet _ | exact lnSet2 _ | simp only [List.length_map, List.length_set, List.length_cons, List.length_nil]), (rok (treeM t85)), trivial⟩ (ih (a3.set (Int.toNat v4) r7) (w64 (v4 + 1)) _ h)
    · have h := Option.some.inj h
      subst h
      exact go_ret hΘ hm hP hn (hs := [⟨2, .no, some (I (p1.length : Int))⟩, ⟨4, .br false, none⟩]) (rh := []) (ph := .own) (ps := [AV.lit (.int .i64 (((p1.map o116).length : Nat) : Int)) = (I (p1.length : Int)), (decide (v4 < (p1.length : Int))) = false, treeLL ((a3.map o85).take (List.length (a3.map o85))) = true, (a3.map o85).take (List.length (a3.map o85)) = (a3.map o85), noRoLL (a3.map o85) = true]) (by kernel_rfl) ⟨(lenM o116), c9, (treeT t85), takeM, (noRoM n85), trivial⟩
noncomputable def laws_toOpS (p1 : (List GOp)) : Option (List GOp) :=
  Option.bind (mk (GOp.mk 0 0 0 0) (p1.length : Int)) fun l2 =>
  laws_toOpS_l0 p1 FU l2 0
theorem laws_toOpS_m {p1 : (List GOp)} {r : (List GOp)} (h : laws_toOpS p1 = some r) : Meets Try.prog 72 [(AV.ro 4 (p1.map o116))] (AV.own 85 4 (r.map o85)) := by
  refine meets_ofC Θ_ok Try.func72 rfl (c := body72) (by kernel_rfl) (Nat.le_of_ble_eq_true rfl) ?_
  intro E hP hn hx
  replace hn : E.n = 23 := hn
  have hm : E.P.follows .mixedOrders = true := by rw [hP]; exact mixed
  have hΘ : TOK E.P Θ := by rw [hP]; exact Θ_ok
  unfold laws_toOpS at h
  show WAt E body72 (FQ (RetE Θ Try.f72.results.toList [] [] (AV.own 85 4 (r.map o85)) E)) [] ⟨[(0, (AV.ro 4 (p1.map o116)))], [], [JJ]⟩
  obtain ⟨l2, hl2, h⟩ := bnS h
  exact go_to hΘ hm hx hP hn (hs := [⟨2, .no, some (I (p1.length : Int))⟩, ⟨3, .nw 1001 (l2.map o85), some (AV.sl 1001 0 (List.length (l2.map o85)))⟩]) (π := [(1001, 1)]) (ts := [0, 3, 4]) (kp := []) (ps := [AV.lit (.int .i64 (((p1.map o116).length : Nat) : Int)) = (I (p1.length : Int)), List.replicate (Int.toNat (p1.length : Int)) [.lit (.int .i64 0), .lit (.int .i64 0), .lit (.int .i64 0), .lit (.float .f64 0)] = (l2.map o85), AV.sl 1001 0 (Int.toNat (p1.length : Int)) = (AV.sl 1001 0 (List.length (l2.map o85))), (p1.length : Int) = (p1.length : Int), (0 : Int) ≤ (p1.length : Int), (p1.length : Int) * ((32 : Nat) : Int) ≤ 140737488355328, (p1.length : Int) ≤ 140737488355328, RenOK [(1001, 1)] (l2.map o85)]) (by kernel_rfl) ⟨(lenM o116), (mkM o85 hl2), (mkS o85 hl2), rfl, (mk0 hl2), (mkB hl2 (by decide)), (mkC hl2), (rok (treeM t85)), trivial⟩ (laws_toOpS_l0_m hP hn hx p1 FU l2 0 _ h)
noncomputable def body39 : Code := match Try.f39.body with | some c => c | none => .skip
noncomputable def laws_toOpSS_l0  (p1 : (List (List GOp))) : Nat → (List (List GOp)) → Int → Option (List (List GOp))
  | 0, _, _ => none
  | n + 1, a3, v4 =>
  if (decide (v4 < (p1.length : Int))) = true then
    Option.bind (rd p1 v4) fun x6 =>
    Option.bind (laws_toOpS x6) fun r7 =>
    Option.bind (rd a3 v4) fun x8 =>
    laws_toOpSS_l0 p1 n (a3.set (Int.toNat v4) r7) (w64 (v4 + 1))
  else
    some a3
theorem laws_toOpSS_l0_m {E : Env} (hP : E.P = Try.prog) (hn : E.n = 23) (hx : ∀ p, p ∈ E.fx → p.1 ∈ ([] : List Nat)) (p1 : (List (List GOp)))  : ∀ (n : Nat) (a3 : (List (List GOp))) (v4 : Int) (r : (List (List GOp))), laws_toOpSS_l0 p1 n a3 v4 = some r → WAt E body39 (FQ (RetE Θ Try.f39.results.toList [] [] (AV.own 82 1 (r.map o82)) E)) [true, true, false, true, false] ⟨[(0, (AV.ro 1 (p1.map r90))), (3, (AV.sl 1 0 (List.length (a3.map o82)))), (4, (I v4))], [(1, some ⟨82, 1, (a3.map o82)⟩)], [1, JJ]⟩ := by
  have hm : E.P.follows .mixedOrders = true := by rw [hP]; exact mixed
  have hΘ : TOK E.P Θ := by rw [hP]; exact Θ_ok
  intro n
  induction n with
  | zero => intro a3 v4 r h; simp only [laws_toOpSS_l0] at h; cases h
  | succ n ih =>
    intro a3 v4 r h
    simp only [laws_toOpSS_l0] at h
    rcases itS h with ⟨c5, h⟩ | ⟨c9, h⟩
    · obtain ⟨x6, hx6, h⟩ := bnS h
      obtain ⟨r7, hr7, h⟩ := bnS h
      obtain ⟨x8, hx8, h⟩ := bnS h
      exact go_to hΘ hm hx hP hn (hs := [⟨2, .no, some (I (p1.length : Int))⟩, ⟨4, .br true, none⟩, ⟨9, .row (r90 x6), none⟩, ⟨11, .call [] (AV.own 85 4 (r7.map o85)) [1001], none⟩, ⟨13, .sto [(AV.own 85 4 (x8.map o85))] ((a3.map o82).set (Int.toNat v4) [(AV.sl 1001 0 (List.length (r7.map o85)))]), none⟩, ⟨14, .pack 1 1001 (Int.toNat v4) 0 [(AV.sl 1001 0 (List.length (r7.map o85)))] ((a3.set (Int.toNat v4) r7).map o82), none⟩, ⟨17, .slen 3 (List.length ((a3.set (Int.toNat v4) r7).map o82)), none⟩]) (π := [(1, 1)]) (ts := [0, 3, 4]) (kp := []) (ps := [AV.lit (.int .i64 (((p1.map r90).length : Nat) : Int)) = (I (p1.length : Int)), (decide (v4 < (p1.length : Int))) = true, (0 : Int) ≤ v4, (p1.map r90)[(Int.toNat v4)]? = some (r90 x6), Meets Try.prog 72 [(AV.ro 4 (x6.map o116))] (AV.own 85 4 (r7.map o85)), noRo (AV.own 85 4 (r7.map o85)) = true, (0 : Int) ≤ v4, v4 < (((List.length (a3.map o82)) : Nat) : Int), (a3.map o82)[(Int.toNat v4)]? = some [(AV.own 85 4 (x8.map o85))], (a3.map o82).set (Int.toNat v4) (wr [(AV.own 85 4 (x8.map o85))] 0 [(AV.sl 1001 0 (List.length (r7.map o85)))]) = ((a3.map o82).set (Int.toNat v4) [(AV.sl 1001 0 (List.length (r7.map o85)))]), [(AV.sl 1001 0 (List.length (r7.map o85)))].length = 1, 0 + [(AV.sl 1001 0 (List.length (r7.map o85)))].length ≤ [(AV.own 85 4 (x8.map o85))].length, ((a3.map o82).set (Int.toNat v4) [(AV.sl 1001 0 (List.length (r7.map o85)))])[(Int.toNat v4)]? = some [(AV.sl 1001 0 (List.length (r7.map o85)))], [(AV.sl 1001 0 (List.length (r7.map o85)))][0]? = some (AV.sl 1001 0 (List.length (r7.map o85))), treeLL (r7.map o85) = true, ((a3.map o82).set (Int.toNat v4) [(AV.sl 1001 0 (List.length (r7.map o85)))]).set (Int.toNat v4) ([(AV.sl 1001 0 (List.length (r7.map o85)))].set 0 (AV.own 85 4 (r7.map o85))) = ((a3.set (Int.toNat v4) r7).map o82), (List.length (a3.map o82)) = (List.length ((a3.set (Int.toNat v4) r7).map o82)), RenOK [(1, 1)] ((a3.set (Int.toNat v4) r7).map o82)]) (by kernel_rfl) ⟨(lenM r90), c5, (rd0 hx6), (rdM r90 hx6), (laws_toOpS_m hr7), (by simp only [noRo, noRoL, noRoM n85, Bool.and_self]), (rd0 hx8), (rdL o82 hx8), (rdM o82 hx8), rfl, rfl, (Nat.le_of_ble_eq_true rfl), (setE (rdM o82 hx8)), rfl, (treeM t85), (setP o82), (by first | exact lnSet _ | exact lnSet2 _ | simp only [List.length_map, List.length_set, List.length_cons, List.length_nil]), (rok (treeM t82)), trivial⟩ (ih (a3.set (Int.toNat v4) r7) (w64 (v4 + 1)) _ h)
    · have h := Option.some.inj h
      subst h
      exact go_ret hΘ hm hP hn (hs := [⟨2, .no, some (I (p1.length : Int))⟩, ⟨4, .br false, none⟩]) (rh := []) (ph := .own) (ps := [AV.lit (.int .i64 (((p1.map r90).length : Nat) : Int)) = (I (p1.length : Int)), (decide (v4 < (p1.length : Int))) = false, treeLL ((a3.map o82).take (List.length (a3.map o82))) = true, (a3.map o82).take (List.length (a3.map o82)) = (a3.map o82), noRoLL (a3.map o82) = true]) (by kernel_rfl) ⟨(lenM r90), c9, (treeT t82), takeM, (noRoM n82), trivial⟩
noncomputable def laws_toOpSS (p1 : (List (List GOp))) : Option (List (List GOp)) :=
  Option.bind (mk [] (p1.length : Int)) fun l2 =>
  laws_toOpSS_l0 p1 FU l2 0
theorem laws_toOpSS_m {p1 : (List (List GOp))} {r : (List (List GOp))} (h : laws_toOpSS p1 = some r) : Meets Try.prog 39 [(AV.ro 1 (p1.map r90))] (AV.own 82 1 (r.map o82)) := by
  refine meets_ofC Θ_ok Try.func39 rfl (c := body39) (by kernel_rfl) (Nat.le_of_ble_eq_true rfl) ?_
  intro E hP hn hx
  replace hn : E.n = 23 := hn
  have hm : E.P.follows .mixedOrders = true := by rw [hP]; exact mixed
  have hΘ : TOK E.P Θ := by rw [hP]; exact Θ_ok
  unfold laws_toOpSS at h
  show WAt E body39 (FQ (RetE Θ Try.f39.results.toList [] [] (AV.own 82 1 (r.map o82)) E)) [] ⟨[(0, (AV.ro 1 (p1.map r90)))], [], [JJ]⟩
  obtain ⟨l2, hl2, h⟩ := bnS h
  exact go_to hΘ hm hx hP hn (hs := [⟨2, .no, some (I (p1.length : Int))⟩, ⟨3, .nw 1001 (List.replicate (Int.toNat (p1.length : Int)) [AV.lit (.slice none 0 0)]), some (AV.sl 1001 0 (List.length (l2.map o82)))⟩, ⟨4, .own0 1001 (Int.toNat (p1.length : Int)) [] [] 85 4 (l2.map o82), none⟩]) (π := [(1001, 1)]) (ts := [0, 3, 4]) (kp := []) (ps := [AV.lit (.int .i64 (((p1.map r90).length : Nat) : Int)) = (I (p1.length : Int)), List.replicate (Int.toNat (p1.length : Int)) [.lit (.slice none 0 0)] = (List.replicate (Int.toNat (p1.length : Int)) [AV.lit (.slice none 0 0)]), AV.sl 1001 0 (Int.toNat (p1.length : Int)) = (AV.sl 1001 0 (List.length (l2.map o82))), (p1.length : Int) = (p1.length : Int), (0 : Int) ≤ (p1.length : Int), (p1.length : Int) * ((24 : Nat) : Int) ≤ 140737488355328, (p1.length : Int) ≤ 140737488355328, (List.replicate (Int.toNat (p1.length : Int)) [AV.lit (.slice none 0 0)]) = List.replicate (Int.toNat (p1.length : Int)) ([] ++ AV.lit (.slice none 0 0) :: []), List.replicate (Int.toNat (p1.length : Int)) ([] ++ AV.own 85 4 [] :: []) = (l2.map o82), RenOK [(1001, 1)] (l2.map o82)]) (by kernel_rfl) ⟨(lenM r90), rfl, (mkS o82 hl2), rfl, (mk0 hl2), (mkB hl2 (by decide)), (mkC hl2), rfl, (mkM o82 hl2), (rok (treeM t82)), trivial⟩ (laws_toOpSS_l0_m hP hn hx p1 FU l2 0 _ h)
noncomputable def body11 : Code := match Try.f11.body with | some c => c | none => .skip
noncomputable def laws_toProg (p1 : GProg) : Option GProg :=
  Option.bind (laws_toOpSS p1.Routines) fun r2 =>
  some (GProg.mk p1.Cells p1.Locks p1.Conds r2)
theorem laws_toProg_m {p1 : GProg} {r : GProg} (h : laws_toProg p1 = some r) : Meets Try.prog 11 [(AV.agg ((r24 p1)))] (AV.agg (o35 r)) := by
  refine meets_ofC Θ_ok Try.func11 rfl (c := body11) (by kernel_rfl) (Nat.le_of_ble_eq_true rfl) ?_
  intro E hP hn hx
  replace hn : E.n = 18 := hn
  have hm : E.P.follows .mixedOrders = true := by rw [hP]; exact mixed
  have hΘ : TOK E.P Θ := by rw [hP]; exact Θ_ok
  unfold laws_toProg at h
  show WAt E body11 (FQ (RetE Θ Try.f11.results.toList [] [] (AV.agg (o35 r)) E)) [] ⟨[(0, (AV.agg ((r24 p1))))], [], [JJ]⟩
  obtain ⟨r2, hr2, h⟩ := bnS h
  have h := Option.some.inj h
  subst h
  exact go_ret hΘ hm hP hn (hs := [⟨0, .new 1001, none⟩, ⟨1, .new 1002, none⟩, ⟨2, .new 1003, none⟩, ⟨17, .call [] (AV.own 82 1 (r2.map o82)) [1004], none⟩]) (rh := []) (ph := .agg [.raw, .raw, .raw, .own]) (ps := [Meets Try.prog 39 [(AV.ro 1 (p1.Routines.map r90))] (AV.own 82 1 (r2.map o82)), noRo (AV.own 82 1 (r2.map o82)) = true, (I p1.Cells) = (I p1.Cells), litA (I p1.Cells) = true, (I p1.Locks) = (I p1.Locks), litA (I p1.Locks) = true, (I p1.Conds) = (I p1.Conds), litA (I p1.Conds) = true, treeLL ((r2.map o82).take (List.length (r2.map o82))) = true, (r2.map o82).take (List.length (r2.map o82)) = (r2.map o82), noRoLL (r2.map o82) = true]) (by kernel_rfl) ⟨(laws_toOpSS_m hr2), (by simp only [noRo, noRoL, noRoM n82, Bool.and_self]), rfl, rfl, rfl, rfl, rfl, rfl, (treeT t82), takeM, (noRoM n82), trivial⟩
noncomputable def body68 : Code := match Try.f68.body with | some c => c | none => .skip
noncomputable def spec_l1In (p1 : Int) (p2 : Int) (p3 : Int) : Option Bool :=
  if (decide (p1 ≥ p2)) = true then
    some (decide (p1 ≤ p3))
  else
    some false
theorem spec_l1In_m {p1 : Int} {p2 : Int} {p3 : Int} {r : Bool} (h : spec_l1In p1 p2 p3 = some r) : Meets Try.prog 68 [(I p1), (I p2), (I p3)] (B r) := by
  refine meets_ofC Θ_ok Try.func68 rfl (c := body68) (by kernel_rfl) (Nat.le_of_ble_eq_true rfl) ?_
  intro E hP hn hx
  replace hn : E.n = 15 := hn
  have hm : E.P.follows .mixedOrders = true := by rw [hP]; exact mixed
  have hΘ : TOK E.P Θ := by rw [hP]; exact Θ_ok
  unfold spec_l1In at h
  show WAt E body68 (FQ (RetE Θ Try.f68.results.toList [] [] (B r) E)) [] ⟨[(0, (I p1)), (1, (I p2)), (2, (I p3))], [], [JJ]⟩
  rcases itS h with ⟨c4, h⟩ | ⟨c5, h⟩
  · have h := Option.some.inj h
    subst h
    exact go_ret hΘ hm hP hn (hs := [⟨4, .no, some (B true)⟩]) (rh := []) (ph := .raw) (ps := [(B (decide (p1 ≥ p2))) = (B true), (B (decide (p1 ≤ p3))) = (B (decide (p1 ≤ p3))), litA (B (decide (p1 ≤ p3))) = true]) (by kernel_rfl) ⟨(litB c4), rfl, rfl, trivial⟩
  · have h := Option.some.inj h
    subst h
    exact go_ret hΘ hm hP hn (hs := [⟨4, .no, some (B false)⟩]) (rh := []) (ph := .raw) (ps := [(B (decide (p1 ≥ p2))) = (B false), (B false) = (B false), litA (B false) = true]) (by kernel_rfl) ⟨(litB c5), rfl, rfl, trivial⟩
noncomputable def body117 : Code := match Try.f117.body with | some c => c | none => .skip
noncomputable def spec_IsMinus (p1 : Nat) : Option Bool :=
  if ((fcmp p1 0) == some .lt) = true then
    some true
  else
    if ((fcmp p1 0) == some .eq) = true then
      Option.bind (fdv 4607182418800017408 p1) fun x5 =>
      some ((fcmp x5 0) == some .lt)
    else
      some false
theorem spec_IsMinus_m {p1 : Nat} {r : Bool} (h : spec_IsMinus p1 = some r) : Meets Try.prog 117 [(FK p1)] (B r) := by
  refine meets_ofC Θ_ok Try.func117 rfl (c := body117) (by kernel_rfl) (Nat.le_of_ble_eq_true rfl) ?_
  intro E hP hn hx
  replace hn : E.n = 14 := hn
  have hm : E.P.follows .mixedOrders = true := by rw [hP]; exact mixed
  have hΘ : TOK E.P Θ := by rw [hP]; exact Θ_ok
  unfold spec_IsMinus at h
  show WAt E body117 (FQ (RetE Θ Try.f117.results.toList [] [] (B r) E)) [] ⟨[(0, (FK p1))], [], [JJ]⟩
  rcases itS h with ⟨c2, h⟩ | ⟨c3, h⟩
  · have h := Option.some.inj h
    subst h
    exact go_ret hΘ hm hP hn (hs := [⟨2, .bin (B ((fcmp p1 0) == some .lt)), none⟩, ⟨3, .no, some (B true)⟩]) (rh := []) (ph := .raw) (ps := [BinS Try.prog .lss 83 (FK p1) (FK 0) (B ((fcmp p1 0) == some .lt)), (B ((fcmp p1 0) == some .lt)) = (B true), (B true) = (B true), litA (B true) = true]) (by kernel_rfl) ⟨fLss, (litB c2), rfl, rfl, trivial⟩
  · rcases itS h with ⟨c4, h⟩ | ⟨c6, h⟩
    · obtain ⟨x5, hx5, h⟩ := bnS h
      have h := Option.some.inj h
      subst h
      exact go_ret hΘ hm hP hn (hs := [⟨2, .bin (B ((fcmp p1 0) == some .lt)), none⟩, ⟨3, .no, some (B false)⟩, ⟨5, .bin (B ((fcmp p1 0) == some .eq)), none⟩, ⟨6, .no, some (B true)⟩, ⟨8, .bin (FK x5), none⟩, ⟨9, .bin (B ((fcmp x5 0) == some .lt)), none⟩]) (rh := []) (ph := .raw) (ps := [BinS Try.prog .lss 83 (FK p1) (FK 0) (B ((fcmp p1 0) == some .lt)), (B ((fcmp p1 0) == some .lt)) = (B false), BinS Try.prog .eql 83 (FK p1) (FK 0) (B ((fcmp p1 0) == some .eq)), (B ((fcmp p1 0) == some .eq)) = (B true), BinS Try.prog .quo 83 (FK 4607182418800017408) (FK p1) (FK x5), BinS Try.prog .lss 83 (FK x5) (FK 0) (B ((fcmp x5 0) == some .lt)), (B ((fcmp x5 0) == some .lt)) = (B ((fcmp x5 0) == some .lt)), litA (B ((fcmp x5 0) == some .lt)) = true]) (by kernel_rfl) ⟨fLss, (litB c3), fEql, (litB c4), (fQuo hx5), fLss, rfl, rfl, trivial⟩
    · have h := Option.some.inj h
      subst h
      exact go_ret hΘ hm hP hn (hs := [⟨2, .bin (B ((fcmp p1 0) == some .lt)), none⟩, ⟨3, .no, some (B false)⟩, ⟨5, .bin (B ((fcmp p1 0) == some .eq)), none⟩, ⟨6, .no, some (B false)⟩]) (rh := []) (ph := .raw) (ps := [BinS Try.prog .lss 83 (FK p1) (FK 0) (B ((fcmp p1 0) == some .lt)), (B ((fcmp p1 0) == some .lt)) = (B false), BinS Try.prog .eql 83 (FK p1) (FK 0) (B ((fcmp p1 0) == some .eq)), (B ((fcmp p1 0) == some .eq)) = (B false), (B false) = (B false), litA (B false) = true]) (by kernel_rfl) ⟨fLss, (litB c3), fEql, (litB c6), rfl, rfl, trivial⟩
noncomputable def body116 : Code := match Try.f116.body with | some c => c | none => .skip
noncomputable def spec_l1Nan (p1 : Nat) : Option Bool :=
  some ((fcmp p1 p1) != some .eq)
theorem spec_l1Nan_m {p1 : Nat} {r : Bool} (h : spec_l1Nan p1 = some r) : Meets Try.prog 116 [(FK p1)] (B r) := by
  refine meets_ofC Θ_ok Try.func116 rfl (c := body116) (by kernel_rfl) (Nat.le_of_ble_eq_true rfl) ?_
  intro E hP hn hx
  replace hn : E.n = 6 := hn
  have hm : E.P.follows .mixedOrders = true := by rw [hP]; exact mixed
  have hΘ : TOK E.P Θ := by rw [hP]; exact Θ_ok
  unfold spec_l1Nan at h
  show WAt E body116 (FQ (RetE Θ Try.f116.results.toList [] [] (B r) E)) [] ⟨[(0, (FK p1))], [], [JJ]⟩
  have h := Option.some.inj h
  subst h
  exact go_ret hΘ hm hP hn (hs := [⟨3, .bin (B ((fcmp p1 p1) != some .eq)), none⟩]) (rh := []) (ph := .raw) (ps := [BinS Try.prog .neq 83 (FK p1) (FK p1) (B ((fcmp p1 p1) != some .eq)), (B ((fcmp p1 p1) != some .eq)) = (B ((fcmp p1 p1) != some .eq)), litA (B ((fcmp p1 p1) != some .eq)) = true]) (by kernel_rfl) ⟨fNeq, rfl, rfl, trivial⟩
noncomputable def body101 : Code := match Try.f101.body with | some c => c | none => .skip
noncomputable def spec_l1SameNum_j0  (p1 : Nat) (p2 : Nat)  : Option Bool :=
  if ((fcmp p1 p2) == some .eq) = true then
    Option.bind (spec_IsMinus p1) fun r18 =>
    Option.bind (spec_IsMinus p2) fun r19 =>
    some (r18 == r19)
  else
    some false
theorem spec_l1SameNum_j0_m {E : Env} (hP : E.P = Try.prog) (hn : E.n = 27) (hx : ∀ p, p ∈ E.fx → p.1 ∈ ([] : List Nat)) (p1 : Nat) (p2 : Nat)   (r : Bool) (h : spec_l1SameNum_j0 p1 p2  = some r) : WAt E body101 (FQ (RetE Θ Try.f101.results.toList [] [] (B r) E)) [true, false, true, true] ⟨[(0, (FK p1)), (1, (FK p2))], [], [JJ]⟩ := by
  have hm : E.P.follows .mixedOrders = true := by rw [hP]; exact mixed
  have hΘ : TOK E.P Θ := by rw [hP]; exact Θ_ok
  unfold spec_l1SameNum_j0 at h
  rcases itS h with ⟨c17, h⟩ | ⟨c20, h⟩
  · obtain ⟨r18, hr18, h⟩ := bnS h
    obtain ⟨r19, hr19, h⟩ := bnS h
    have h := Option.some.inj h
    subst h
    exact go_ret hΘ hm hP hn (hs := [⟨2, .bin (B ((fcmp p1 p2) == some .eq)), none⟩, ⟨3, .no, some (B true)⟩, ⟨5, .callV [] (B r18), none⟩, ⟨7, .callV [] (B r19), none⟩]) (rh := []) (ph := .raw) (ps := [BinS Try.prog .eql 83 (FK p1) (FK p2) (B ((fcmp p1 p2) == some .eq)), (B ((fcmp p1 p2) == some .eq)) = (B true), Meets Try.prog 117 [(FK p1)] (B r18), litA (B r18) = true, Meets Try.prog 117 [(FK p2)] (B r19), litA (B r19) = true, (B (r18 == r19)) = (B (r18 == r19)), litA (B (r18 == r19)) = true]) (by kernel_rfl) ⟨fEql, (litB c17), (spec_IsMinus_m hr18), rfl, (spec_IsMinus_m hr19), rfl, rfl, rfl, trivial⟩
  · have h := Option.some.inj h
    subst h
    exact go_ret hΘ hm hP hn (hs := [⟨2, .bin (B ((fcmp p1 p2) == some .eq)), none⟩, ⟨3, .no, some (B false)⟩]) (rh := []) (ph := .raw) (ps := [BinS Try.prog .eql 83 (FK p1) (FK p2) (B ((fcmp p1 p2) == some .eq)), (B ((fcmp p1 p2) == some .eq)) = (B false), (B false) = (B false), litA (B false) = true]) (by kernel_rfl) ⟨fEql, (litB c20), rfl, rfl, trivial⟩
noncomputable def spec_l1SameNum (p1 : Nat) (p2 : Nat) : Option Bool :=
  Option.bind (spec_l1Nan p1) fun r3 =>
  if r3 = true then
    Option.bind (spec_l1Nan p1) fun r5 =>
    if r5 = true then
      Option.bind (spec_l1Nan p2) fun r7 =>
      some r7
    else
      some false
  else
    Option.bind (spec_l1Nan p2) fun r10 =>
    if r10 = true then
      Option.bind (spec_l1Nan p1) fun r12 =>
      if r12 = true then
        Option.bind (spec_l1Nan p2) fun r14 =>
        some r14
      else
        some false
    else
      spec_l1SameNum_j0 p1 p2
theorem spec_l1SameNum_m {p1 : Nat} {p2 : Nat} {r : Bool} (h : spec_l1SameNum p1 p2 = some r) : Meets Try.prog 101 [(FK p1), (FK p2)] (B r) := by
  refine meets_ofC Θ_ok Try.func101 rfl (c := body101) (by kernel_rfl) (Nat.le_of_ble_eq_true rfl) ?_
  intro E hP hn hx
  replace hn : E.n = 27 := hn
  have hm : E.P.follows .mixedOrders = true := by rw [hP]; exact mixed
  have hΘ : TOK E.P Θ := by rw [hP]; exact Θ_ok
  unfold spec_l1SameNum at h
  show WAt E body101 (FQ (RetE Θ Try.f101.results.toList [] [] (B r) E)) [] ⟨[(0, (FK p1)), (1, (FK p2))], [], [JJ]⟩
  obtain ⟨r3, hr3, h⟩ := bnS h
  rcases itS h with ⟨c4, h⟩ | ⟨c9, h⟩
  · obtain ⟨r5, hr5, h⟩ := bnS h
    rcases itS h with ⟨c6, h⟩ | ⟨c8, h⟩
    · obtain ⟨r7, hr7, h⟩ := bnS h
      have h := Option.some.inj h
      subst h
      exact go_ret hΘ hm hP hn (hs := [⟨2, .callV [] (B r3), none⟩, ⟨3, .no, some (B true)⟩, ⟨9, .callV [] (B r5), none⟩, ⟨10, .no, some (B true)⟩, ⟨12, .callV [] (B r7), none⟩]) (rh := []) (ph := .raw) (ps := [Meets Try.prog 116 [(FK p1)] (B r3), litA (B r3) = true, (B r3) = (B true), Meets Try.prog 116 [(FK p1)] (B r5), litA (B r5) = true, (B r5) = (B true), Meets Try.prog 116 [(FK p2)] (B r7), litA (B r7) = true, (B r7) = (B r7), litA (B r7) = true]) (by kernel_rfl) ⟨(spec_l1Nan_m hr3), rfl, (litB c4), (spec_l1Nan_m hr5), rfl, (litB c6), (spec_l1Nan_m hr7), rfl, rfl, rfl, trivial⟩
    · have h := Option.some.inj h
      subst h
      exact go_ret hΘ hm hP hn (hs := [⟨2, .callV [] (B r3), none⟩, ⟨3, .no, some (B true)⟩, ⟨9, .callV [] (B r5), none⟩, ⟨10, .no, some (B false)⟩]) (rh := []) (ph := .raw) (ps := [Meets Try.prog 116 [(FK p1)] (B r3), litA (B r3) = true, (B r3) = (B true), Meets Try.prog 116 [(FK p1)] (B r5), litA (B r5) = true, (B r5) = (B false), (B false) = (B false), litA (B false) = true]) (by kernel_rfl) ⟨(spec_l1Nan_m hr3), rfl, (litB c4), (spec_l1Nan_m hr5), rfl, (litB c8), rfl, rfl, trivial⟩
  · obtain ⟨r10, hr10, h⟩ := bnS h
    rcases itS h with ⟨c11, h⟩ | ⟨c16, h⟩
    · obtain ⟨r12, hr12, h⟩ := bnS h
      rcases itS h with ⟨c13, h⟩ | ⟨c15, h⟩
      · obtain ⟨r14, hr14, h⟩ := bnS h
        have h := Option.some.inj h
        subst h
        exact go_ret hΘ hm hP hn (hs := [⟨2, .callV [] (B r3), none⟩, ⟨3, .no, some (B false)⟩, ⟨5, .callV [] (B r10), none⟩, ⟨7, .br true, none⟩, ⟨9, .callV [] (B r12), none⟩, ⟨10, .no, some (B true)⟩, ⟨12, .callV [] (B r14), none⟩]) (rh := []) (ph := .raw) (ps := [Meets Try.prog 116 [(FK p1)] (B r3), litA (B r3) = true, (B r3) = (B false), Meets Try.prog 116 [(FK p2)] (B r10), litA (B r10) = true, r10 = true, Meets Try.prog 116 [(FK p1)] (B r12), litA (B r12) = true, (B r12) = (B true), Meets Try.prog 116 [(FK p2)] (B r14), litA (B r14) = true, (B r14) = (B r14), litA (B r14) = true]) (by kernel_rfl) ⟨(spec_l1Nan_m hr3), rfl, (litB c9), (spec_l1Nan_m hr10), rfl, c11, (spec_l1Nan_m hr12), rfl, (litB c13), (spec_l1Nan_m hr14), rfl, rfl, rfl, trivial⟩
      · have h := Option.some.inj h
        subst h
        exact go_ret hΘ hm hP hn (hs := [⟨2, .callV [] (B r3), none⟩, ⟨3, .no, some (B false)⟩, ⟨5, .callV [] (B r10), none⟩, ⟨7, .br true, none⟩, ⟨9, .callV [] (B r12), none⟩, ⟨10, .no, some (B false)⟩]) (rh := []) (ph := .raw) (ps := [Meets Try.prog 116 [(FK p1)] (B r3), litA (B r3) = true, (B r3) = (B false), Meets Try.prog 116 [(FK p2)] (B r10), litA (B r10) = true, r10 = true, Meets Try.prog 116 [(FK p1)] (B r12), litA (B r12) = true, (B r12) = (B false), (B false) = (B false), litA (B false) = true]) (by kernel_rfl) ⟨(spec_l1Nan_m hr3), rfl, (litB c9), (spec_l1Nan_m hr10), rfl, c11, (spec_l1Nan_m hr12), rfl, (litB c15), rfl, rfl, trivial⟩
    · exact go_to hΘ hm hx hP hn (hs := [⟨2, .callV [] (B r3), none⟩, ⟨3, .no, some (B false)⟩, ⟨5, .callV [] (B r10), none⟩, ⟨7, .br false, none⟩]) (π := []) (ts := [0, 1]) (kp := []) (ps := [Meets Try.prog 116 [(FK p1)] (B r3), litA (B r3) = true, (B r3) = (B false), Meets Try.prog 116 [(FK p2)] (B r10), litA (B r10) = true, r10 = false]) (by kernel_rfl) ⟨(spec_l1Nan_m hr3), rfl, (litB c9), (spec_l1Nan_m hr10), rfl, c16, trivial⟩ (spec_l1SameNum_j0_m hP hn hx p1 p2  _ h)
noncomputable def body100 : Code := match Try.f100.body with | some c => c | none => .skip
noncomputable def spec_l2Uses_j0  (p1 : Int) (v5 : Bool) : Option Str :=
  if v5 = true then
    some [97]
  else
    if (p1 == 16) = true then
      some [97, 98]
    else
      some []
theorem spec_l2Uses_j0_m {E : Env} (hP : E.P = Try.prog) (hn : E.n = 17) (hx : ∀ p, p ∈ E.fx → p.1 ∈ ([] : List Nat)) (p1 : Int)  (v5 : Bool) (r : Str) (h : spec_l2Uses_j0 p1 v5 = some r) : WAt E body100 (FQ (RetE Θ Try.f100.results.toList [] [] (SK r) E)) [true, false, true, false, true, true, true] ⟨[(3, (I p1)), (6, (B v5))], [], [JJ]⟩ := by
  have hm : E.P.follows .mixedOrders = true := by rw [hP]; exact mixed
  have hΘ : TOK E.P Θ := by rw [hP]; exact Θ_ok
  unfold spec_l2Uses_j0 at h
  rcases itS h with ⟨c6, h⟩ | ⟨c7, h⟩
  · have h := Option.some.inj h
    subst h
    exact go_ret hΘ hm hP hn (hs := [⟨0, .br true, none⟩]) (rh := []) (ph := .raw) (ps := [v5 = true, (SK [97]) = (SK [97]), litA (SK [97]) = true]) (by kernel_rfl) ⟨c6, rfl, rfl, trivial⟩
  · rcases itS h with ⟨c8, h⟩ | ⟨c9, h⟩
    · have h := Option.some.inj h
      subst h
      exact go_ret hΘ hm hP hn (hs := [⟨0, .br false, none⟩, ⟨3, .br true, none⟩]) (rh := []) (ph := .raw) (ps := [v5 = false, (p1 == 16) = true, (SK [97, 98]) = (SK [97, 98]), litA (SK [97, 98]) = true]) (by kernel_rfl) ⟨c7, c8, rfl, rfl, trivial⟩
    · have h := Option.some.inj h
      subst h
      exact go_ret hΘ hm hP hn (hs := [⟨0, .br false, none⟩, ⟨3, .br false, none⟩]) (rh := []) (ph := .raw) (ps := [v5 = false, (p1 == 16) = false, (SK []) = (SK []), litA (SK []) = true]) (by kernel_rfl) ⟨c7, c9, rfl, rfl, trivial⟩
noncomputable def spec_l2Uses (p1 : Int) : Option Str :=
  if (p1 == 1) = true then
    some [118]
  else
    if (p1 == 2) = true then
      spec_l2Uses_j0 p1 (p1 == 2)
    else
      if (p1 == 3) = true then
        spec_l2Uses_j0 p1 (p1 == 3)
      else
        if (p1 == 10) = true then
          spec_l2Uses_j0 p1 (p1 == 10)
        else
          if (p1 == 11) = true then
            spec_l2Uses_j0 p1 (p1 == 11)
          else
            if (p1 == 12) = true then
              spec_l2Uses_j0 p1 (p1 == 12)
            else
              if (p1 == 13) = true then
                spec_l2Uses_j0 p1 (p1 == 13)
              else
                if (p1 == 14) = true then
                  spec_l2Uses_j0 p1 (p1 == 14)
                else
                  spec_l2Uses_j0 p1 (p1 == 17)
theorem spec_l2Uses_m {p1 : Int} {r : Str} (h : spec_l2Uses p1 = some r) : Meets Try.prog 100 [(I p1)] (SK r) := by
  refine meets_ofC Θ_ok Try.func100 rfl (c := body100) (by kernel_rfl) (Nat.le_of_ble_eq_true rfl) ?_
  intro E hP hn hx
  replace hn : E.n = 17 := hn
  have hm : E.P.follows .mixedOrders = true := by rw [hP]; exact mixed
  have hΘ : TOK E.P Θ := by rw [hP]; exact Θ_ok
  unfold spec_l2Uses at h
  show WAt E body100 (FQ (RetE Θ Try.f100.results.toList [] [] (SK r) E)) [] ⟨[(0, (I p1))], [], [JJ]⟩
  rcases itS h with ⟨c2, h⟩ | ⟨c3, h⟩
  · have h := Option.some.inj h
    subst h
    exact go_ret hΘ hm hP hn (hs := [⟨4, .br true, none⟩]) (rh := []) (ph := .raw) (ps := [(p1 == 1) = true, (SK [118]) = (SK [118]), litA (SK [118]) = true]) (by kernel_rfl) ⟨c2, rfl, rfl, trivial⟩
  · rcases itS h with ⟨c4, h⟩ | ⟨c10, h⟩
    · exact go_to hΘ hm hx hP hn (hs := [⟨4, .br false, none⟩, ⟨7, .br true, none⟩]) (π := []) (ts := [3, 6]) (kp := []) (ps := [(p1 == 1) = false, (p1 == 2) = true]) (by kernel_rfl) ⟨c3, c4, trivial⟩ (spec_l2Uses_j0_m hP hn hx p1 (p1 == 2) _ h)
    · rcases itS h with ⟨c11, h⟩ | ⟨c12, h⟩
      · exact go_to hΘ hm hx hP hn (hs := [⟨4, .br false, none⟩, ⟨7, .br false, none⟩, ⟨10, .br true, none⟩]) (π := []) (ts := [3, 6]) (kp := []) (ps := [(p1 == 1) = false, (p1 == 2) = false, (p1 == 3) = true]) (by kernel_rfl) ⟨c3, c10, c11, trivial⟩ (spec_l2Uses_j0_m hP hn hx p1 (p1 == 3) _ h)
      · rcases itS h with ⟨c13, h⟩ | ⟨c14, h⟩
        · exact go_to hΘ hm hx hP hn (hs := [⟨4, .br false, none⟩, ⟨7, .br false, none⟩, ⟨10, .br false, none⟩, ⟨13, .br true, none⟩]) (π := []) (ts := [3, 6]) (kp := []) (ps := [(p1 == 1) = false, (p1 == 2) = false, (p1 == 3) = false, (p1 == 10) = true]) (by kernel_rfl) ⟨c3, c10, c12, c13, trivial⟩ (spec_l2Uses_j0_m hP hn hx p1 (p1 == 10) _ h)
        · rcases itS h with ⟨c15, h⟩ | ⟨c16, h⟩
          · exact go_to hΘ hm hx hP hn (hs := [⟨4, .br false, none⟩, ⟨7, .br false, none⟩, ⟨10, .br false, none⟩, ⟨13, .br false, none⟩, ⟨16, .br true, none⟩]) (π := []) (ts := [3, 6]) (kp := []) (ps := [(p1 == 1) = false, (p1 == 2) = false, (p1 == 3) = false, (p1 == 10) = false, (p1 == 11) = true]) (by kernel_rfl) ⟨c3, c10, c12, c14, c15, trivial⟩ (spec_l2Uses_j0_m hP hn hx p1 (p1 == 11) _ h)
          · rcases itS h with ⟨c17, h⟩ | ⟨c18, h⟩
            · exact go_to hΘ hm hx hP hn (hs := [⟨4, .br false, none⟩, ⟨7, .br false, none⟩, ⟨10, .br false, none⟩, ⟨13, .br false, none⟩, ⟨16, .br false, none⟩, ⟨19, .br true, none⟩]) (π := []) (ts := [3, 6]) (kp := []) (ps := [(p1 == 1) = false, (p1 == 2) = false, (p1 == 3) = false, (p1 == 10) = false, (p1 == 11) = false, (p1 == 12) = true]) (by kernel_rfl) ⟨c3, c10, c12, c14, c16, c17, trivial⟩ (spec_l2Uses_j0_m hP hn hx p1 (p1 == 12) _ h)
            · rcases itS h with ⟨c19, h⟩ | ⟨c20, h⟩
              · exact go_to hΘ hm hx hP hn (hs := [⟨4, .br false, none⟩, ⟨7, .br false, none⟩, ⟨10, .br false, none⟩, ⟨13, .br false, none⟩, ⟨16, .br false, none⟩, ⟨19, .br false, none⟩, ⟨22, .br true, none⟩]) (π := []) (ts := [3, 6]) (kp := []) (ps := [(p1 == 1) = false, (p1 == 2) = false, (p1 == 3) = false, (p1 == 10) = false, (p1 == 11) = false, (p1 == 12) = false, (p1 == 13) = true]) (by kernel_rfl) ⟨c3, c10, c12, c14, c16, c18, c19, trivial⟩ (spec_l2Uses_j0_m hP hn hx p1 (p1 == 13) _ h)
              · rcases itS h with ⟨c21, h⟩ | ⟨c22, h⟩
                · exact go_to hΘ hm hx hP hn (hs := [⟨4, .br false, none⟩, ⟨7, .br false, none⟩, ⟨10, .br false, none⟩, ⟨13, .br false, none⟩, ⟨16, .br false, none⟩, ⟨19, .br false, none⟩, ⟨22, .br false, none⟩, ⟨25, .br true, none⟩]) (π := []) (ts := [3, 6]) (kp := []) (ps := [(p1 == 1) = false, (p1 == 2) = false, (p1 == 3) = false, (p1 == 10) = false, (p1 == 11) = false, (p1 == 12) = false, (p1 == 13) = false, (p1 == 14) = true]) (by kernel_rfl) ⟨c3, c10, c12, c14, c16, c18, c20, c21, trivial⟩ (spec_l2Uses_j0_m hP hn hx p1 (p1 == 14) _ h)
                · exact go_to hΘ hm hx hP hn (hs := [⟨4, .br false, none⟩, ⟨7, .br false, none⟩, ⟨10, .br false, none⟩, ⟨13, .br false, none⟩, ⟨16, .br false, none⟩, ⟨19, .br false, none⟩, ⟨22, .br false, none⟩, ⟨25, .br false, none⟩]) (π := []) (ts := [3, 6]) (kp := []) (ps := [(p1 == 1) = false, (p1 == 2) = false, (p1 == 3) = false, (p1 == 10) = false, (p1 == 11) = false, (p1 == 12) = false, (p1 == 13) = false, (p1 == 14) = false]) (by kernel_rfl) ⟨c3, c10, c12, c14, c16, c18, c20, c22, trivial⟩ (spec_l2Uses_j0_m hP hn hx p1 (p1 == 17) _ h)
noncomputable def body90 : Code := match Try.f90.body with | some c => c | none => .skip
noncomputable def spec_l2Plain_j0  (p1 : GOp) (r2 : Str)  : Option Bool :=
  if (r2 == [118]) = true then
    if (r2 == [97]) = true then
      if (r2 == [97, 98]) = true then
        some true
      else
        some (p1.B == 0)
    else
      if (r2 == [97, 98]) = true then
        if (r2 == [97, 98]) = true then
          some true
        else
          some (p1.B == 0)
      else
        if (p1.A == 0) = true then
          if (r2 == [97, 98]) = true then
            some true
          else
            some (p1.B == 0)
        else
          some false
  else
    Option.bind (spec_l1SameNum p1.V 0) fun r26 =>
    if r26 = true then
      if (r2 == [97]) = true then
        if (r2 == [97, 98]) = true then
          some true
        else
          some (p1.B == 0)
      else
        if (r2 == [97, 98]) = true then
          if (r2 == [97, 98]) = true then
            some true
          else
            some (p1.B == 0)
        else
          if (p1.A == 0) = true then
            if (r2 == [97, 98]) = true then
              some true
            else
              some (p1.B == 0)
          else
            some false
    else
      some false
theorem spec_l2Plain_j0_m {E : Env} (hP : E.P = Try.prog) (hn : E.n = 52) (hx : ∀ p, p ∈ E.fx → p.1 ∈ ([] : List Nat)) (p1 : GOp) (r2 : Str)   (r : Bool) (h : spec_l2Plain_j0 p1 r2  = some r) : WAt E body90 (FQ (RetE Θ Try.f90.results.toList [] [] (B r) E)) [true, true, false, true, true] ⟨[(1, (AV.ptr 1 0 0)), (3, (SK r2))], [(1, some ⟨85, 4, [((o85 p1))]⟩)], [1, JJ]⟩ := by
  have hm : E.P.follows .mixedOrders = true := by rw [hP]; exact mixed
  have hΘ : TOK E.P Θ := by rw [hP]; exact Θ_ok
  unfold spec_l2Plain_j0 at h
  rcases itS h with ⟨c12, h⟩ | ⟨c25, h⟩
  · rcases itS h with ⟨c13, h⟩ | ⟨c16, h⟩
    · rcases itS h with ⟨c14, h⟩ | ⟨c15, h⟩
      · have h := Option.some.inj h
        subst h
        exact go_ret hΘ hm hP hn (hs := [⟨1, .bin (B (r2 == [118])), none⟩, ⟨2, .no, some (B true)⟩, ⟨9, .bin (B (r2 == [97])), none⟩, ⟨10, .no, some (B true)⟩, ⟨22, .bin (B (r2 == [97, 98])), none⟩, ⟨23, .no, some (B true)⟩]) (rh := []) (ph := .raw) (ps := [BinS Try.prog .eql 9 (SK r2) (SK [118]) (B (r2 == [118])), (B (r2 == [118])) = (B true), BinS Try.prog .eql 9 (SK r2) (SK [97]) (B (r2 == [97])), (B (r2 == [97])) = (B true), BinS Try.prog .eql 9 (SK r2) (SK [97, 98]) (B (r2 == [97, 98])), (B (r2 == [97, 98])) = (B true), (B true) = (B true), litA (B true) = true]) (by kernel_rfl) ⟨sEql, (litB c12), sEql, (litB c13), sEql, (litB c14), rfl, rfl, trivial⟩
      · have h := Option.some.inj h
        subst h
        exact go_ret hΘ hm hP hn (hs := [⟨1, .bin (B (r2 == [118])), none⟩, ⟨2, .no, some (B true)⟩, ⟨9, .bin (B (r2 == [97])), none⟩, ⟨10, .no, some (B true)⟩, ⟨22, .bin (B (r2 == [97, 98])), none⟩, ⟨23, .no, some (B false)⟩]) (rh := []) (ph := .raw) (ps := [BinS Try.prog .eql 9 (SK r2) (SK [118]) (B (r2 == [118])), (B (r2 == [118])) = (B true), BinS Try.prog .eql 9 (SK r2) (SK [97]) (B (r2 == [97])), (B (r2 == [97])) = (B true), BinS Try.prog .eql 9 (SK r2) (SK [97, 98]) (B (r2 == [97, 98])), (B (r2 == [97, 98])) = (B false), (B (p1.B == 0)) = (B (p1.B == 0)), litA (B (p1.B == 0)) = true]) (by kernel_rfl) ⟨sEql, (litB c12), sEql, (litB c13), sEql, (litB c15), rfl, rfl, trivial⟩
    · rcases itS h with ⟨c17, h⟩ | ⟨c20, h⟩
      · rcases itS h with ⟨c18, h⟩ | ⟨c19, h⟩
        · have h := Option.some.inj h
          subst h
          exact go_ret hΘ hm hP hn (hs := [⟨1, .bin (B (r2 == [118])), none⟩, ⟨2, .no, some (B true)⟩, ⟨9, .bin (B (r2 == [97])), none⟩, ⟨10, .no, some (B false)⟩, ⟨12, .bin (B (r2 == [97, 98])), none⟩, ⟨14, .no, some (B true)⟩, ⟨22, .bin (B (r2 == [97, 98])), none⟩, ⟨23, .no, some (B true)⟩]) (rh := []) (ph := .raw) (ps := [BinS Try.prog .eql 9 (SK r2) (SK [118]) (B (r2 == [118])), (B (r2 == [118])) = (B true), BinS Try.prog .eql 9 (SK r2) (SK [97]) (B (r2 == [97])), (B (r2 == [97])) = (B false), BinS Try.prog .eql 9 (SK r2) (SK [97, 98]) (B (r2 == [97, 98])), (B (r2 == [97, 98])) = (B true), BinS Try.prog .eql 9 (SK r2) (SK [97, 98]) (B (r2 == [97, 98])), (B (r2 == [97, 98])) = (B true), (B true) = (B true), litA (B true) = true]) (by kernel_rfl) ⟨sEql, (litB c12), sEql, (litB c16), sEql, (litB c17), sEql, (litB c18), rfl, rfl, trivial⟩
        · have h := Option.some.inj h
          subst h
          exact go_ret hΘ hm hP hn (hs := [⟨1, .bin (B (r2 == [118])), none⟩, ⟨2, .no, some (B true)⟩, ⟨9, .bin (B (r2 == [97])), none⟩, ⟨10, .no, some (B false)⟩, ⟨12, .bin (B (r2 == [97, 98])), none⟩, ⟨14, .no, some (B true)⟩, ⟨22, .bin (B (r2 == [97, 98])), none⟩, ⟨23, .no, some (B false)⟩]) (rh := []) (ph := .raw) (ps := [BinS Try.prog .eql 9 (SK r2) (SK [118]) (B (r2 == [118])), (B (r2 == [118])) = (B true), BinS Try.prog .eql 9 (SK r2) (SK [97]) (B (r2 == [97])), (B (r2 == [97])) = (B false), BinS Try.prog .eql 9 (SK r2) (SK [97, 98]) (B (r2 == [97, 98])), (B (r2 == [97, 98])) = (B true), BinS Try.prog .eql 9 (SK r2) (SK [97, 98]) (B (r2 == [97, 98])), (B (r2 == [97, 98])) = (B false), (B (p1.B == 0)) = (B (p1.B == 0)), litA (B (p1.B == 0)) = true]) (by kernel_rfl) ⟨sEql, (litB c12), sEql, (litB c16), sEql, (litB c17), sEql, (litB c19), rfl, rfl, trivial⟩
      · rcases itS h with ⟨c21, h⟩ | ⟨c24, h⟩
        · rcases itS h with ⟨c22, h⟩ | ⟨c23, h⟩
          · have h := Option.some.inj h
            subst h
            exact go_ret hΘ hm hP hn (hs := [⟨1, .bin (B (r2 == [118])), none⟩, ⟨2, .no, some (B true)⟩, ⟨9, .bin (B (r2 == [97])), none⟩, ⟨10, .no, some (B false)⟩, ⟨12, .bin (B (r2 == [97, 98])), none⟩, ⟨14, .no, some (B false)⟩, ⟨20, .no, some (B true)⟩, ⟨22, .bin (B (r2 == [97, 98])), none⟩, ⟨23, .no, some (B true)⟩]) (rh := []) (ph := .raw) (ps := [BinS Try.prog .eql 9 (SK r2) (SK [118]) (B (r2 == [118])), (B (r2 == [118])) = (B true), BinS Try.prog .eql 9 (SK r2) (SK [97]) (B (r2 == [97])), (B (r2 == [97])) = (B false), BinS Try.prog .eql 9 (SK r2) (SK [97, 98]) (B (r2 == [97, 98])), (B (r2 == [97, 98])) = (B false), (B (p1.A == 0)) = (B true), BinS Try.prog .eql 9 (SK r2) (SK [97, 98]) (B (r2 == [97, 98])), (B (r2 == [97, 98])) = (B true), (B true) = (B true), litA (B true) = true]) (by kernel_rfl) ⟨sEql, (litB c12), sEql, (litB c16), sEql, (litB c20), (litB c21), sEql, (litB c22), rfl, rfl, trivial⟩
          · have h := Option.some.inj h
            subst h
            exact go_ret hΘ hm hP hn (hs := [⟨1, .bin (B (r2 == [118])), none⟩, ⟨2, .no, some (B true)⟩, ⟨9, .bin (B (r2 == [97])), none⟩, ⟨10, .no, some (B false)⟩, ⟨12, .bin (B (r2 == [97, 98])), none⟩, ⟨14, .no, some (B false)⟩, ⟨20, .no, some (B true)⟩, ⟨22, .bin (B (r2 == [97, 98])), none⟩, ⟨23, .no, some (B false)⟩]) (rh := []) (ph := .raw) (ps := [BinS Try.prog .eql 9 (SK r2) (SK [118]) (B (r2 == [118])), (B (r2 == [118])) = (B true), BinS Try.prog .eql 9 (SK r2) (SK [97]) (B (r2 == [97])), (B (r2 == [97])) = (B false), BinS Try.prog .eql 9 (SK r2) (SK [97, 98]) (B (r2 == [97, 98])), (B (r2 == [97, 98])) = (B false), (B (p1.A == 0)) = (B true), BinS Try.prog .eql 9 (SK r2) (SK [97, 98]) (B (r2 == [97, 98])), (B (r2 == [97, 98])) = (B false), (B (p1.B == 0)) = (B (p1.B == 0)), litA (B (p1.B == 0)) = true]) (by kernel_rfl) ⟨sEql, (litB c12), sEql, (litB c16), sEql, (litB c20), (litB c21), sEql, (litB c23), rfl, rfl, trivial⟩
        · have h := Option.some.inj h
          subst h
          exact go_ret hΘ hm hP hn (hs := [⟨1, .bin (B (r2 == [118])), none⟩, ⟨2, .no, some (B true)⟩, ⟨9, .bin (B (r2 == [97])), none⟩, ⟨10, .no, some (B false)⟩, ⟨12, .bin (B (r2 == [97, 98])), none⟩, ⟨14, .no, some (B false)⟩, ⟨20, .no, some (B false)⟩]) (rh := []) (ph := .raw) (ps := [BinS Try.prog .eql 9 (SK r2) (SK [118]) (B (r2 == [118])), (B (r2 == [118])) = (B true), BinS Try.prog .eql 9 (SK r2) (SK [97]) (B (r2 == [97])), (B (r2 == [97])) = (B false), BinS Try.prog .eql 9 (SK r2) (SK [97, 98]) (B (r2 == [97, 98])), (B (r2 == [97, 98])) = (B false), (B (p1.A == 0)) = (B false), (B false) = (B false), litA (B false) = true]) (by kernel_rfl) ⟨sEql, (litB c12), sEql, (litB c16), sEql, (litB c20), (litB c24), rfl, rfl, trivial⟩
  · obtain ⟨r26, hr26, h⟩ := bnS h
    rcases itS h with ⟨c27, h⟩ | ⟨c40, h⟩
    · rcases itS h with ⟨c28, h⟩ | ⟨c31, h⟩
      · rcases itS h with ⟨c29, h⟩ | ⟨c30, h⟩
        · have h := Option.some.inj h
          subst h
          exact go_ret hΘ hm hP hn (hs := [⟨1, .bin (B (r2 == [118])), none⟩, ⟨2, .no, some (B false)⟩, ⟨5, .callV [] (B r26), none⟩, ⟨7, .no, some (B true)⟩, ⟨9, .bin (B (r2 == [97])), none⟩, ⟨10, .no, some (B true)⟩, ⟨22, .bin (B (r2 == [97, 98])), none⟩, ⟨23, .no, some (B true)⟩]) (rh := []) (ph := .raw) (ps := [BinS Try.prog .eql 9 (SK r2) (SK [118]) (B (r2 == [118])), (B (r2 == [118])) = (B false), Meets Try.prog 101 [(FK p1.V), (FK 0)] (B r26), litA (B r26) = true, (B r26) = (B true), BinS Try.prog .eql 9 (SK r2) (SK [97]) (B (r2 == [97])), (B (r2 == [97])) = (B true), BinS Try.prog .eql 9 (SK r2) (SK [97, 98]) (B (r2 == [97, 98])), (B (r2 == [97, 98])) = (B true), (B true) = (B true), litA (B true) = true]) (by kernel_rfl) ⟨sEql, (litB c25), (spec_l1SameNum_m hr26), rfl, (litB c27), sEql, (litB c28), sEql, (litB c29), rfl, rfl, trivial⟩
        · have h := Option.some.inj h
          subst h
          exact go_ret hΘ hm hP hn (hs := [⟨1, .bin (B (r2 == [118])), none⟩, ⟨2, .no, some (B false)⟩, ⟨5, .callV [] (B r26), none⟩, ⟨7, .no, some (B true)⟩, ⟨9, .bin (B (r2 == [97])), none⟩, ⟨10, .no, some (B true)⟩, ⟨22, .bin (B (r2 == [97, 98])), none⟩, ⟨23, .no, some (B false)⟩]) (rh := []) (ph := .raw) (ps := [BinS Try.prog .eql 9 (SK r2) (SK [118]) (B (r2 == [118])), (B (r2 == [118])) = (B false), Meets Try.prog 101 [(FK p1.V), (FK 0)] (B r26), litA (B r26) = true, (B r26) = (B true), BinS Try.prog .eql 9 (SK r2) (SK [97]) (B (r2 == [97])), (B (r2 == [97])) = (B true), BinS Try.prog .eql 9 (SK r2) (SK [97, 98]) (B (r2 == [97, 98])), (B (r2 == [97, 98])) = (B false), (B (p1.B == 0)) = (B (p1.B == 0)), litA (B (p1.B == 0)) = true]) (by kernel_rfl) ⟨sEql, (litB c25), (spec_l1SameNum_m hr26), rfl, (litB c27), sEql, (litB c28), sEql, (litB c30), rfl, rfl, trivial⟩
      · rcases itS h with ⟨c32, h⟩ | ⟨c35, h⟩
        · rcases itS h with ⟨c33, h⟩ | ⟨c34, h⟩
          · have h := Option.some.inj h
            subst h
            exact go_ret hΘ hm hP hn (hs := [⟨1, .bin (B (r2 == [118])), none⟩, ⟨2, .no, some (B false)⟩, ⟨5, .callV [] (B r26), none⟩, ⟨7, .no, some (B true)⟩, ⟨9, .bin (B (r2 == [97])), none⟩, ⟨10, .no, some (B false)⟩, ⟨12, .bin (B (r2 == [97, 98])), none⟩, ⟨14, .no, some (B true)⟩, ⟨22, .bin (B (r2 == [97, 98])), none⟩, ⟨23, .no, some (B true)⟩]) (rh := []) (ph := .raw) (ps := [BinS Try.prog .eql 9 (SK r2) (SK [118]) (B (r2 == [118])), (B (r2 == [118])) = (B false), Meets Try.prog 101 [(FK p1.V), (FK 0)] (B r26), litA (B r26) = true, (B r26) = (B true), BinS Try.prog .eql 9 (SK r2) (SK [97]) (B (r2 == [97])), (B (r2 == [97])) = (B false), BinS Try.prog .eql 9 (SK r2) (SK [97, 98]) (B (r2 == [97, 98])), (B (r2 == [97, 98])) = (B true), BinS Try.prog .eql 9 (SK r2) (SK [97, 98]) (B (r2 == [97, 98])), (B (r2 == [97, 98])) = (B true), (B true) = (B true), litA (B true) = true]) (by kernel_rfl) ⟨sEql, (litB c25), (spec_l1SameNum_m hr26), rfl, (litB c27), sEql, (litB c31), sEql, (litB c32), sEql, (litB c33), rfl, rfl, trivial⟩
          · have h := Option.some.inj h
            subst h
            exact go_ret hΘ hm hP hn (hs := [⟨1, .bin (B (r2 == [118])), none⟩, ⟨2, .no, some (B false)⟩, ⟨5, .callV [] (B r26), none⟩, ⟨7, .no, some (B true)⟩, ⟨9, .bin (B (r2 == [97])), none⟩, ⟨10, .no, some (B false)⟩, ⟨12, .bin (B (r2 == [97, 98])), none⟩, ⟨14, .no, some (B true)⟩, ⟨22, .bin (B (r2 == [97, 98])), none⟩, ⟨23, .no, some (B false)⟩]) (rh := []) (ph := .raw) (ps := [BinS Try.prog .eql 9 (SK r2) (SK [118]) (B (r2 == [118])), (B (r2 == [118])) = (B false), Meets Try.prog 101 [(FK p1.V), (FK 0)] (B r26), litA (B r26) = true, (B r26) = (B true), BinS Try.prog .eql 9 (SK r2) (SK [97]) (B (r2 == [97])), (B (r2 == [97])) = (B false), BinS Try.prog .eql 9 (SK r2) (SK [97, 98]) (B (r2 == [97, 98])), (B (r2 == [97, 98])) = (B true), BinS Try.prog .eql 9 (SK r2) (SK [97, 98]) (B (r2 == [97, 98])), (B (r2 == [97, 98])) = (B false), (B (p1.B == 0)) = (B (p1.B == 0)), litA (B (p1.B == 0)) = true]) (by kernel_rfl) ⟨sEql, (litB c25), (spec_l1SameNum_m hr26), rfl, (litB c27), sEql, (litB c31), sEql, (litB c32), sEql, (litB c34), rfl, rfl, trivial⟩
        · rcases itS h with ⟨c36, h⟩ | ⟨c39, h⟩
          · rcases itS h with ⟨c37, h⟩ | ⟨c38, h⟩
            · have h := Option.some.inj h
              subst h
              exact go_ret hΘ hm hP hn (hs := [⟨1, .bin (B (r2 == [118])), none⟩, ⟨2, .no, some (B false)⟩, ⟨5, .callV [] (B r26), none⟩, ⟨7, .no, some (B true)⟩, ⟨9, .bin (B (r2 == [97])), none⟩, ⟨10, .no, some (B false)⟩, ⟨12, .bin (B (r2 == [97, 98])), none⟩, ⟨14, .no, some (B false)⟩, ⟨20, .no, some (B true)⟩, ⟨22, .bin (B (r2 == [97, 98])), none⟩, ⟨23, .no, some (B true)⟩]) (rh := []) (ph := .raw) (ps := [BinS Try.prog .eql 9 (SK r2) (SK [118]) (B (r2 == [118])), (B (r2 == [118])) = (B false), Meets Try.prog 101 [(FK p1.V), (FK 0)] (B r26), litA (B r26) = true, (B r26) = (B true), BinS Try.prog .eql 9 (SK r2) (SK [97]) (B (r2 == [97])), (B (r2 == [97])) = (B false), BinS Try.prog .eql 9 (SK r2) (SK [97, 98]) (B (r2 == [97, 98])), (B (r2 == [97, 98])) = (B false), (B (p1.A == 0)) = (B true), BinS Try.prog .eql 9 (SK r2) (SK [97, 98]) (B (r2 == [97, 98])), (B (r2 == [97, 98])) = (B true), (B true) = (B true), litA (B true) = true]) (by kernel_rfl) ⟨sEql, (litB c25), (spec_l1SameNum_m hr26), rfl, (litB c27), sEql, (litB c31), sEql, (litB c35), (litB c36), sEql, (litB c37), rfl, rfl, trivial⟩
            · have h := Option.some.inj h
              subst h
              exact go_ret hΘ hm hP hn (hs := [⟨1, .bin (B (r2 == [118])), none⟩, ⟨2, .no, some (B false)⟩, ⟨5, .callV [] (B r26), none⟩, ⟨7, .no, some (B true)⟩, ⟨9, .bin (B (r2 == [97])), none⟩, ⟨10, .no, some (B false)⟩, ⟨12, .bin (B (r2 == [97, 98])), none⟩, ⟨14, .no, some (B false)⟩, ⟨20, .no, some (B true)⟩, ⟨22, .bin (B (r2 == [97, 98])), none⟩, ⟨23, .no, some (B false)⟩]) (rh := []) (ph := .raw) (ps := [BinS Try.prog .eql 9 (SK r2) (SK [118]) (B (r2 == [118])), (B (r2 == [118])) = (B false), Meets Try.prog 101 [(FK p1.V), (FK 0)] (B r26), litA (B r26) = true, (B r26) = (B true), BinS Try.prog .eql 9 (SK r2) (SK [97]) (B (r2 == [97])), (B (r2 == [97])) = (B false), BinS Try.prog .eql 9 (SK r2) (SK [97, 98]) (B (r2 == [97, 98])), (B (r2 == [97, 98])) = (B false), (B (p1.A == 0)) = (B true), BinS Try.prog .eql 9 (SK r2) (SK [97, 98]) (B (r2 == [97, 98])), (B (r2 == [97, 98])) = (B false), (B (p1.B == 0)) = (B (p1.B == 0)), litA (B (p1.B == 0)) = true]) (by kernel_rfl) ⟨sEql, (litB c25), (spec_l1SameNum_m hr26), rfl, (litB c27), sEql, (litB c31), sEql, (litB c35), (litB c36), sEql, (litB c38), rfl, rfl, trivial⟩
          · have h := Option.some.inj h
            subst h
            exact go_ret hΘ hm hP hn (hs := [⟨1, .bin (B (r2 == [118])), none⟩, ⟨2, .no, some (B false)⟩, ⟨5, .callV [] (B r26), none⟩, ⟨7, .no, some (B true)⟩, ⟨9, .bin (B (r2 == [97])), none⟩, ⟨10, .no, some (B false)⟩, ⟨12, .bin (B (r2 == [97, 98])), none⟩, ⟨14, .no, some (B false)⟩, ⟨20, .no, some (B false)⟩]) (rh := []) (ph := .raw) (ps := [BinS Try.prog .eql 9 (SK r2) (SK [118]) (B (r2 == [118])), (B (r2 == [118])) = (B false), Meets Try.prog 101 [(FK p1.V), (FK 0)] (B r26), litA (B r26) = true, (B r26) = (B true), BinS Try.prog .eql 9 (SK r2) (SK [97]) (B (r2 == [97])), (B (r2 == [97])) = (B false), BinS Try.prog .eql 9 (SK r2) (SK [97, 98]) (B (r2 == [97, 98])), (B (r2 == [97, 98])) = (B false), (B (p1.A == 0)) = (B false), (B false) = (B false), litA (B false) = true]) (by kernel_rfl) ⟨sEql, (litB c25), (spec_l1SameNum_m hr26), rfl, (litB c27), sEql, (litB c31), sEql, (litB c35), (litB c39), rfl, rfl, trivial⟩
    · have h := Option.some.inj h
      subst h
      exact go_ret hΘ hm hP hn (hs := [⟨1, .bin (B (r2 == [118])), none⟩, ⟨2, .no, some (B false)⟩, ⟨5, .callV [] (B r26), none⟩, ⟨7, .no, some (B false)⟩]) (rh := []) (ph := .raw) (ps := [BinS Try.prog .eql 9 (SK r2) (SK [118]) (B (r2 == [118])), (B (r2 == [118])) = (B false), Meets Try.prog 101 [(FK p1.V), (FK 0)] (B r26), litA (B r26) = true, (B r26) = (B false), (B false) = (B false), litA (B false) = true]) (by kernel_rfl) ⟨sEql, (litB c25), (spec_l1SameNum_m hr26), rfl, (litB c40), rfl, rfl, trivial⟩
noncomputable def spec_l2Plain (p1 : GOp) : Option Bool :=
  Option.bind (spec_l2Uses p1.Code) fun r2 =>
  Option.bind (spec_l1In p1.Code 1 17) fun r3 =>
  if (!r3) = true then
    some false
  else
    Option.bind (spec_l1In p1.A 0 999) fun r6 =>
    if (!r6) = true then
      some false
    else
      Option.bind (spec_l1In p1.B 0 999) fun r9 =>
      if (!r9) = true then
        some false
      else
        spec_l2Plain_j0 p1 r2
theorem spec_l2Plain_m {p1 : GOp} {r : Bool} (h : spec_l2Plain p1 = some r) : Meets Try.prog 90 [(AV.agg ((o85 p1)))] (B r) := by
  refine meets_ofC Θ_ok Try.func90 rfl (c := body90) (by kernel_rfl) (Nat.le_of_ble_eq_true rfl) ?_
  intro E hP hn hx
  replace hn : E.n = 52 := hn
  have hm : E.P.follows .mixedOrders = true := by rw [hP]; exact mixed
  have hΘ : TOK E.P Θ := by rw [hP]; exact Θ_ok
  unfold spec_l2Plain at h
  show WAt E body90 (FQ (RetE Θ Try.f90.results.toList [] [] (B r) E)) [] ⟨[(0, (AV.agg ((o85 p1))))], [], [JJ]⟩
  obtain ⟨r2, hr2, h⟩ := bnS h
  obtain ⟨r3, hr3, h⟩ := bnS h
  rcases itS h with ⟨c4, h⟩ | ⟨c5, h⟩
  · have h := Option.some.inj h
    subst h
    exact go_ret hΘ hm hP hn (hs := [⟨0, .new 1001, none⟩, ⟨4, .callV [] (SK r2), none⟩, ⟨8, .callV [] (B r3), none⟩, ⟨10, .no, some (B true)⟩]) (rh := []) (ph := .raw) (ps := [Meets Try.prog 100 [(I p1.Code)] (SK r2), litA (SK r2) = true, Meets Try.prog 68 [(I p1.Code), (I 1), (I 17)] (B r3), litA (B r3) = true, (B (!r3)) = (B true), (B false) = (B false), litA (B false) = true]) (by kernel_rfl) ⟨(spec_l2Uses_m hr2), rfl, (spec_l1In_m hr3), rfl, (litB c4), rfl, rfl, trivial⟩
  · obtain ⟨r6, hr6, h⟩ := bnS h
    rcases itS h with ⟨c7, h⟩ | ⟨c8, h⟩
    · have h := Option.some.inj h
      subst h
      exact go_ret hΘ hm hP hn (hs := [⟨0, .new 1001, none⟩, ⟨4, .callV [] (SK r2), none⟩, ⟨8, .callV [] (B r3), none⟩, ⟨10, .no, some (B false)⟩, ⟨13, .callV [] (B r6), none⟩, ⟨16, .no, some (B true)⟩]) (rh := []) (ph := .raw) (ps := [Meets Try.prog 100 [(I p1.Code)] (SK r2), litA (SK r2) = true, Meets Try.prog 68 [(I p1.Code), (I 1), (I 17)] (B r3), litA (B r3) = true, (B (!r3)) = (B false), Meets Try.prog 68 [(I p1.A), (I 0), (I 999)] (B r6), litA (B r6) = true, (B (!r6)) = (B true), (B false) = (B false), litA (B false) = true]) (by kernel_rfl) ⟨(spec_l2Uses_m hr2), rfl, (spec_l1In_m hr3), rfl, (litB c5), (spec_l1In_m hr6), rfl, (litB c7), rfl, rfl, trivial⟩
    · obtain ⟨r9, hr9, h⟩ := bnS h
      rcases itS h with ⟨c10, h⟩ | ⟨c11, h⟩
      · have h := Option.some.inj h
        subst h
        exact go_ret hΘ hm hP hn (hs := [⟨0, .new 1001, none⟩, ⟨4, .callV [] (SK r2), none⟩, ⟨8, .callV [] (B r3), none⟩, ⟨10, .no, some (B false)⟩, ⟨13, .callV [] (B r6), none⟩, ⟨16, .no, some (B false)⟩, ⟨19, .callV [] (B r9), none⟩, ⟨22, .br true, none⟩]) (rh := []) (ph := .raw) (ps := [Meets Try.prog 100 [(I p1.Code)] (SK r2), litA (SK r2) = true, Meets Try.prog 68 [(I p1.Code), (I 1), (I 17)] (B r3), litA (B r3) = true, (B (!r3)) = (B false), Meets Try.prog 68 [(I p1.A), (I 0), (I 999)] (B r6), litA (B r6) = true, (B (!r6)) = (B false), Meets Try.prog 68 [(I p1.B), (I 0), (I 999)] (B r9), litA (B r9) = true, (!r9) = true, (B false) = (B false), litA (B false) = true]) (by kernel_rfl) ⟨(spec_l2Uses_m hr2), rfl, (spec_l1In_m hr3), rfl, (litB c5), (spec_l1In_m hr6), rfl, (litB c8), (spec_l1In_m hr9), rfl, c10, rfl, rfl, trivial⟩
      · exact go_to hΘ hm hx hP hn (hs := [⟨0, .new 1001, none⟩, ⟨4, .callV [] (SK r2), none⟩, ⟨8, .callV [] (B r3), none⟩, ⟨10, .no, some (B false)⟩, ⟨13, .callV [] (B r6), none⟩, ⟨16, .no, some (B false)⟩, ⟨19, .callV [] (B r9), none⟩, ⟨22, .br false, none⟩]) (π := [(1001, 1)]) (ts := [1, 3]) (kp := []) (ps := [Meets Try.prog 100 [(I p1.Code)] (SK r2), litA (SK r2) = true, Meets Try.prog 68 [(I p1.Code), (I 1), (I 17)] (B r3), litA (B r3) = true, (B (!r3)) = (B false), Meets Try.prog 68 [(I p1.A), (I 0), (I 999)] (B r6), litA (B r6) = true, (B (!r6)) = (B false), Meets Try.prog 68 [(I p1.B), (I 0), (I 999)] (B r9), litA (B r9) = true, (!r9) = false, RenOK [(1001, 1)] [((o85 p1))]]) (by kernel_rfl) ⟨(spec_l2Uses_m hr2), rfl, (spec_l1In_m hr3), rfl, (litB c5), (spec_l1In_m hr6), rfl, (litB c8), (spec_l1In_m hr9), rfl, c11, (rok rfl), trivial⟩ (spec_l2Plain_j0_m hP hn hx p1 r2  _ h)
noncomputable def body69 : Code := match Try.f69.body with | some c => c | none => .skip
noncomputable def spec_l2Op_j2  (p1 : GProg) (p3 : GOp) (v16 : Bool) : Option Bool :=
  if v16 = true then
    some (decide (p3.A < p1.Locks))
  else
    if (p3.Code == 14) = true then
      some (decide (p3.A < (p1.Routines.length : Int)))
    else
      if (p3.Code == 16) = true then
        if (decide (p3.A < p1.Conds)) = true then
          some (decide (p3.B < p1.Locks))
        else
          some false
      else
        if (p3.Code == 17) = true then
          some (decide (p3.A < p1.Conds))
        else
          some true
theorem spec_l2Op_j2_m {E : Env} (hP : E.P = Try.prog) (hn : E.n = 64) (hx : ∀ p, p ∈ E.fx → p.1 ∈ ([] : List Nat)) (p1 : GProg) (p3 : GOp)  (v16 : Bool) (r : Bool) (h : spec_l2Op_j2 p1 p3 v16 = some r) : WAt E body69 (FQ (RetE Θ Try.f69.results.toList [] [] (B r) E)) [true, true, false, true, false, true, true, true, true, true] ⟨[(3, (AV.ptr 1 0 0)), (5, (AV.ptr 2 0 0)), (11, (I p3.Code)), (27, (B v16))], [(1, some ⟨35, 4, [((r35 p1))]⟩), (2, some ⟨85, 4, [((o85 p3))]⟩)], [1, 2, JJ]⟩ := by
  have hm : E.P.follows .mixedOrders = true := by rw [hP]; exact mixed
  have hΘ : TOK E.P Θ := by rw [hP]; exact Θ_ok
  unfold spec_l2Op_j2 at h
  rcases itS h with ⟨c17, h⟩ | ⟨c18, h⟩
  · have h := Option.some.inj h
    subst h
    exact go_ret hΘ hm hP hn (hs := [⟨0, .br true, none⟩]) (rh := []) (ph := .raw) (ps := [v16 = true, (B (decide (p3.A < p1.Locks))) = (B (decide (p3.A < p1.Locks))), litA (B (decide (p3.A < p1.Locks))) = true]) (by kernel_rfl) ⟨c17, rfl, rfl, trivial⟩
  · rcases itS h with ⟨c19, h⟩ | ⟨c20, h⟩
    · have h := Option.some.inj h
      subst h
      exact go_ret hΘ hm hP hn (hs := [⟨0, .br false, none⟩, ⟨3, .br true, none⟩, ⟨8, .no, some (I (p1.Routines.length : Int))⟩]) (rh := []) (ph := .raw) (ps := [v16 = false, (p3.Code == 14) = true, AV.lit (.int .i64 (((p1.Routines.map r82).length : Nat) : Int)) = (I (p1.Routines.length : Int)), (B (decide (p3.A < (p1.Routines.length : Int)))) = (B (decide (p3.A < (p1.Routines.length : Int)))), litA (B (decide (p3.A < (p1.Routines.length : Int)))) = true]) (by kernel_rfl) ⟨c18, c19, (lenM r82), rfl, rfl, trivial⟩
    · rcases itS h with ⟨c21, h⟩ | ⟨c24, h⟩
      · rcases itS h with ⟨c22, h⟩ | ⟨c23, h⟩
        · have h := Option.some.inj h
          subst h
          exact go_ret hΘ hm hP hn (hs := [⟨0, .br false, none⟩, ⟨3, .br false, none⟩, ⟨6, .br true, none⟩, ⟨12, .no, some (B true)⟩]) (rh := []) (ph := .raw) (ps := [v16 = false, (p3.Code == 14) = false, (p3.Code == 16) = true, (B (decide (p3.A < p1.Conds))) = (B true), (B (decide (p3.B < p1.Locks))) = (B (decide (p3.B < p1.Locks))), litA (B (decide (p3.B < p1.Locks))) = true]) (by kernel_rfl) ⟨c18, c20, c21, (litB c22), rfl, rfl, trivial⟩
        · have h := Option.some.inj h
          subst h
          exact go_ret hΘ hm hP hn (hs := [⟨0, .br false, none⟩, ⟨3, .br false, none⟩, ⟨6, .br true, none⟩, ⟨12, .no, some (B false)⟩]) (rh := []) (ph := .raw) (ps := [v16 = false, (p3.Code == 14) = false, (p3.Code == 16) = true, (B (decide (p3.A < p1.Conds))) = (B false), (B false) = (B false), litA (B false) = true]) (by kernel_rfl) ⟨c18, c20, c21, (litB c23), rfl, rfl, trivial⟩
      · rcases itS h with ⟨c25, h⟩ | ⟨c26, h⟩
        · have h := Option.some.inj h
          subst h
          exact go_ret hΘ hm hP hn (hs := [⟨0, .br false, none⟩, ⟨3, .br false, none⟩, ⟨6, .br false, none⟩, ⟨9, .br true, none⟩]) (rh := []) (ph := .raw) (ps := [v16 = false, (p3.Code == 14) = false, (p3.Code == 16) = false, (p3.Code == 17) = true, (B (decide (p3.A < p1.Conds))) = (B (decide (p3.A < p1.Conds))), litA (B (decide (p3.A < p1.Conds))) = true]) (by kernel_rfl) ⟨c18, c20, c24, c25, rfl, rfl, trivial⟩
        · have h := Option.some.inj h
          subst h
          exact go_ret hΘ hm hP hn (hs := [⟨0, .br false, none⟩, ⟨3, .br false, none⟩, ⟨6, .br false, none⟩, ⟨9, .br false, none⟩]) (rh := []) (ph := .raw) (ps := [v16 = false, (p3.Code == 14) = false, (p3.Code == 16) = false, (p3.Code == 17) = false, (B true) = (B true), litA (B true) = true]) (by kernel_rfl) ⟨c18, c20, c24, c26, rfl, rfl, trivial⟩
noncomputable def spec_l2Op_j1  (p1 : GProg) (p2 : Int) (p3 : GOp) (v12 : Bool) : Option Bool :=
  if v12 = true then
    some (decide (p3.A ≤ p2))
  else
    if (p3.Code == 12) = true then
      spec_l2Op_j2 p1 p3 (p3.Code == 12)
    else
      spec_l2Op_j2 p1 p3 (p3.Code == 13)
theorem spec_l2Op_j1_m {E : Env} (hP : E.P = Try.prog) (hn : E.n = 64) (hx : ∀ p, p ∈ E.fx → p.1 ∈ ([] : List Nat)) (p1 : GProg) (p2 : Int) (p3 : GOp)  (v12 : Bool) (r : Bool) (h : spec_l2Op_j1 p1 p2 p3 v12 = some r) : WAt E body69 (FQ (RetE Θ Try.f69.results.toList [] [] (B r) E)) [true, true, false, true, false, true, true, true] ⟨[(1, (I p2)), (3, (AV.ptr 1 0 0)), (5, (AV.ptr 2 0 0)), (11, (I p3.Code)), (20, (B v12))], [(1, some ⟨35, 4, [((r35 p1))]⟩), (2, some ⟨85, 4, [((o85 p3))]⟩)], [1, 2, JJ]⟩ := by
  have hm : E.P.follows .mixedOrders = true := by rw [hP]; exact mixed
  have hΘ : TOK E.P Θ := by rw [hP]; exact Θ_ok
  unfold spec_l2Op_j1 at h
  rcases itS h with ⟨c13, h⟩ | ⟨c14, h⟩
  · have h := Option.some.inj h
    subst h
    exact go_ret hΘ hm hP hn (hs := [⟨0, .br true, none⟩]) (rh := []) (ph := .raw) (ps := [v12 = true, (B (decide (p3.A ≤ p2))) = (B (decide (p3.A ≤ p2))), litA (B (decide (p3.A ≤ p2))) = true]) (by kernel_rfl) ⟨c13, rfl, rfl, trivial⟩
  · rcases itS h with ⟨c15, h⟩ | ⟨c27, h⟩
    · exact go_to hΘ hm hx hP hn (hs := [⟨0, .br false, none⟩, ⟨3, .br true, none⟩]) (π := [(1, 1), (2, 2)]) (ts := [3, 5, 11, 27]) (kp := []) (ps := [v12 = false, (p3.Code == 12) = true, RenOK [(1, 1), (2, 2)] [((r35 p1))], RenOK [(1, 1), (2, 2)] [((o85 p3))]]) (by kernel_rfl) ⟨c14, c15, (rok (treeB t35 p1)), (rok rfl), trivial⟩ (spec_l2Op_j2_m hP hn hx p1 p3 (p3.Code == 12) _ h)
    · exact go_to hΘ hm hx hP hn (hs := [⟨0, .br false, none⟩, ⟨3, .br false, none⟩]) (π := [(1, 1), (2, 2)]) (ts := [3, 5, 11, 27]) (kp := []) (ps := [v12 = false, (p3.Code == 12) = false, RenOK [(1, 1), (2, 2)] [((r35 p1))], RenOK [(1, 1), (2, 2)] [((o85 p3))]]) (by kernel_rfl) ⟨c14, c27, (rok (treeB t35 p1)), (rok rfl), trivial⟩ (spec_l2Op_j2_m hP hn hx p1 p3 (p3.Code == 13) _ h)
noncomputable def spec_l2Op_j0  (p1 : GProg) (p2 : Int) (p3 : GOp) (v8 : Bool) : Option Bool :=
  if v8 = true then
    some (decide (p3.A < p1.Cells))
  else
    if (p3.Code == 10) = true then
      spec_l2Op_j1 p1 p2 p3 (p3.Code == 10)
    else
      spec_l2Op_j1 p1 p2 p3 (p3.Code == 11)
theorem spec_l2Op_j0_m {E : Env} (hP : E.P = Try.prog) (hn : E.n = 64) (hx : ∀ p, p ∈ E.fx → p.1 ∈ ([] : List Nat)) (p1 : GProg) (p2 : Int) (p3 : GOp)  (v8 : Bool) (r : Bool) (h : spec_l2Op_j0 p1 p2 p3 v8 = some r) : WAt E body69 (FQ (RetE Θ Try.f69.results.toList [] [] (B r) E)) [true, true, false, true, false, true] ⟨[(1, (I p2)), (3, (AV.ptr 1 0 0)), (5, (AV.ptr 2 0 0)), (11, (I p3.Code)), (12, (B v8))], [(1, some ⟨35, 4, [((r35 p1))]⟩), (2, some ⟨85, 4, [((o85 p3))]⟩)], [1, 2, JJ]⟩ := by
  have hm : E.P.follows .mixedOrders = true := by rw [hP]; exact mixed
  have hΘ : TOK E.P Θ := by rw [hP]; exact Θ_ok
  unfold spec_l2Op_j0 at h
  rcases itS h with ⟨c9, h⟩ | ⟨c10, h⟩
  · have h := Option.some.inj h
    subst h
    exact go_ret hΘ hm hP hn (hs := [⟨0, .br true, none⟩]) (rh := []) (ph := .raw) (ps := [v8 = true, (B (decide (p3.A < p1.Cells))) = (B (decide (p3.A < p1.Cells))), litA (B (decide (p3.A < p1.Cells))) = true]) (by kernel_rfl) ⟨c9, rfl, rfl, trivial⟩
  · rcases itS h with ⟨c11, h⟩ | ⟨c28, h⟩
    · exact go_to hΘ hm hx hP hn (hs := [⟨0, .br false, none⟩, ⟨3, .br true, none⟩]) (π := [(1, 1), (2, 2)]) (ts := [1, 3, 5, 11, 20]) (kp := []) (ps := [v8 = false, (p3.Code == 10) = true, RenOK [(1, 1), (2, 2)] [((r35 p1))], RenOK [(1, 1), (2, 2)] [((o85 p3))]]) (by kernel_rfl) ⟨c10, c11, (rok (treeB t35 p1)), (rok rfl), trivial⟩ (spec_l2Op_j1_m hP hn hx p1 p2 p3 (p3.Code == 10) _ h)
    · exact go_to hΘ hm hx hP hn (hs := [⟨0, .br false, none⟩, ⟨3, .br false, none⟩]) (π := [(1, 1), (2, 2)]) (ts := [1, 3, 5, 11, 20]) (kp := []) (ps := [v8 = false, (p3.Code == 10) = false, RenOK [(1, 1), (2, 2)] [((r35 p1))], RenOK [(1, 1), (2, 2)] [((o85 p3))]]) (by kernel_rfl) ⟨c10, c28, (rok (treeB t35 p1)), (rok rfl), trivial⟩ (spec_l2Op_j1_m hP hn hx p1 p2 p3 (p3.Code == 11) _ h)
noncomputable def spec_l2Op (p1 : GProg) (p2 : Int) (p3 : GOp) : Option Bool :=
  Option.bind (spec_l2Plain p3) fun r4 =>
  if (!r4) = true then
    some false
  else
    if (p3.Code == 2) = true then
      spec_l2Op_j0 p1 p2 p3 (p3.Code == 2)
    else
      spec_l2Op_j0 p1 p2 p3 (p3.Code == 3)
theorem spec_l2Op_m {p1 : GProg} {p2 : Int} {p3 : GOp} {r : Bool} (h : spec_l2Op p1 p2 p3 = some r) : Meets Try.prog 69 [(AV.agg ((r35 p1))), (I p2), (AV.agg ((o85 p3)))] (B r) := by
  refine meets_ofC Θ_ok Try.func69 rfl (c := body69) (by kernel_rfl) (Nat.le_of_ble_eq_true rfl) ?_
  intro E hP hn hx
  replace hn : E.n = 64 := hn
  have hm : E.P.follows .mixedOrders = true := by rw [hP]; exact mixed
  have hΘ : TOK E.P Θ := by rw [hP]; exact Θ_ok
  unfold spec_l2Op at h
  show WAt E body69 (FQ (RetE Θ Try.f69.results.toList [] [] (B r) E)) [] ⟨[(0, (AV.agg ((r35 p1)))), (1, (I p2)), (2, (AV.agg ((o85 p3))))], [], [JJ]⟩
  obtain ⟨r4, hr4, h⟩ := bnS h
  rcases itS h with ⟨c5, h⟩ | ⟨c6, h⟩
  · have h := Option.some.inj h
    subst h
    exact go_ret hΘ hm hP hn (hs := [⟨0, .new 1001, none⟩, ⟨1, .new 1002, none⟩, ⟨4, .callV [[]] (B r4), none⟩, ⟨6, .br true, none⟩]) (rh := []) (ph := .raw) (ps := [Meets Try.prog 90 [(AV.agg ((o85 p3)))] (B r4), litA (B r4) = true, (!r4) = true, (B false) = (B false), litA (B false) = true]) (by kernel_rfl) ⟨(spec_l2Plain_m hr4), rfl, c5, rfl, rfl, trivial⟩
  · rcases itS h with ⟨c7, h⟩ | ⟨c29, h⟩
    · exact go_to hΘ hm hx hP hn (hs := [⟨0, .new 1001, none⟩, ⟨1, .new 1002, none⟩, ⟨4, .callV [[]] (B r4), none⟩, ⟨6, .br false, none⟩, ⟨11, .br true, none⟩]) (π := [(1001, 1), (1002, 2)]) (ts := [1, 3, 5, 11, 12]) (kp := []) (ps := [Meets Try.prog 90 [(AV.agg ((o85 p3)))] (B r4), litA (B r4) = true, (!r4) = false, (p3.Code == 2) = true, RenOK [(1001, 1), (1002, 2)] [((r35 p1))], RenOK [(1001, 1), (1002, 2)] [((o85 p3))]]) (by kernel_rfl) ⟨(spec_l2Plain_m hr4), rfl, c6, c7, (rok (treeB t35 p1)), (rok rfl), trivial⟩ (spec_l2Op_j0_m hP hn hx p1 p2 p3 (p3.Code == 2) _ h)
    · exact go_to hΘ hm hx hP hn (hs := [⟨0, .new 1001, none⟩, ⟨1, .new 1002, none⟩, ⟨4, .callV [[]] (B r4), none⟩, ⟨6, .br false, none⟩, ⟨11, .br false, none⟩]) (π := [(1001, 1), (1002, 2)]) (ts := [1, 3, 5, 11, 12]) (kp := []) (ps := [Meets Try.prog 90 [(AV.agg ((o85 p3)))] (B r4), litA (B r4) = true, (!r4) = false, (p3.Code == 2) = false, RenOK [(1001, 1), (1002, 2)] [((r35 p1))], RenOK [(1001, 1), (1002, 2)] [((o85 p3))]]) (by kernel_rfl) ⟨(spec_l2Plain_m hr4), rfl, c6, c29, (rok (treeB t35 p1)), (rok rfl), trivial⟩ (spec_l2Op_j0_m hP hn hx p1 p2 p3 (p3.Code == 3) _ h)
end Go.Proofs.Ytgofeoobgpadiaa
