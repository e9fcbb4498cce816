/- Functions as plain data, and that the code comes to them; no condition. -/

import Derived.Test.YtefcdjocfjpjgaaGT
set_option linter.unusedVariables false
set_option maxRecDepth 100000
namespace Go.Proofs.Ytefcdjocfjpjgaa
open Go Go.T
noncomputable def body118 : Code := match Try.f118.body with | some c => c | none => .skip
noncomputable def math_IsNaN (p1 : Nat) : Option Bool :=
  some ((fcmp p1 p1) != some .eq)
theorem math_IsNaN_m {p1 : Nat} {r : Bool} (h : math_IsNaN p1 = some r) : Meets Try.prog 118 [(FK p1)] (B r) := by
  refine meets_ofC Θ_ok Try.func118 rfl (c := body118) (by kernel_rfl) (Nat.le_of_ble_eq_true rfl) ?_
  intro E hP hn hx
  replace hn : E.n = 6 := hn
  have hm : E.P.follows .mixedOrders = true := by rw [hP]; exact mixed
  have hΘ : TOK E.P Θ := by rw [hP]; exact Θ_ok
  unfold math_IsNaN at h
  show WAt E body118 (FQ (RetE Θ Try.f118.results.toList [] [] (B r) E)) [] ⟨[(0, (FK p1))], [], [JJ]⟩
  have h := Option.some.inj h
  subst h
  exact go_ret hΘ hm hP hn (hs := [⟨3, .bin (B ((fcmp p1 p1) != some .eq)), none⟩]) (rh := []) (ph := .raw) (ps := [BinS Try.prog .neq 69 (FK p1) (FK p1) (B ((fcmp p1 p1) != some .eq)), (B ((fcmp p1 p1) != some .eq)) = (B ((fcmp p1 p1) != some .eq)), litA (B ((fcmp p1 p1) != some .eq)) = true]) (by kernel_rfl) ⟨fNeq, rfl, rfl, trivial⟩
noncomputable def body105 : Code := match Try.f105.body with | some c => c | none => .skip
noncomputable def impl_SameNum (p1 : Nat) (p2 : Nat) : Option Bool :=
  Option.bind (math_IsNaN p1) fun r3 =>
  if r3 = true then
    Option.bind (math_IsNaN p2) fun r5 =>
    if r5 = true then
      some true
    else
      some (((p1 : Nat) : Int) == ((p2 : Nat) : Int))
  else
    some (((p1 : Nat) : Int) == ((p2 : Nat) : Int))
theorem impl_SameNum_m {p1 : Nat} {p2 : Nat} {r : Bool} (h : impl_SameNum p1 p2 = some r) : Meets Try.prog 105 [(FK p1), (FK p2)] (B r) := by
  refine meets_ofC Θ_ok Try.func105 rfl (c := body105) (by kernel_rfl) (Nat.le_of_ble_eq_true rfl) ?_
  intro E hP hn hx
  replace hn : E.n = 18 := hn
  have hm : E.P.follows .mixedOrders = true := by rw [hP]; exact mixed
  have hΘ : TOK E.P Θ := by rw [hP]; exact Θ_ok
  unfold impl_SameNum at h
  show WAt E body105 (FQ (RetE Θ Try.f105.results.toList [] [] (B r) E)) [] ⟨[(0, (FK p1)), (1, (FK p2))], [], [JJ]⟩
  obtain ⟨r3, hr3, h⟩ := bnS h
  rcases itS h with ⟨c4, h⟩ | ⟨c8, h⟩
  · obtain ⟨r5, hr5, h⟩ := bnS h
    rcases itS h with ⟨c6, h⟩ | ⟨c7, h⟩
    · have h := Option.some.inj h
      subst h
      exact go_ret hΘ hm hP hn (hs := [⟨2, .callV [] (B r3), none⟩, ⟨3, .no, some (B true)⟩, ⟨5, .callV [] (B r5), none⟩, ⟨7, .no, some (B true)⟩]) (rh := []) (ph := .raw) (ps := [Meets Try.prog 118 [(FK p1)] (B r3), litA (B r3) = true, (B r3) = (B true), Meets Try.prog 118 [(FK p2)] (B r5), litA (B r5) = true, (B r5) = (B true), (B true) = (B true), litA (B true) = true]) (by kernel_rfl) ⟨(math_IsNaN_m hr3), rfl, (litB c4), (math_IsNaN_m hr5), rfl, (litB c6), rfl, rfl, trivial⟩
    · have h := Option.some.inj h
      subst h
      exact go_ret hΘ hm hP hn (hs := [⟨2, .callV [] (B r3), none⟩, ⟨3, .no, some (B true)⟩, ⟨5, .callV [] (B r5), none⟩, ⟨7, .no, some (B false)⟩, ⟨9, .xt (IK .u64 ((p1 : Nat) : Int)), none⟩, ⟨11, .xt (IK .u64 ((p2 : Nat) : Int)), none⟩]) (rh := []) (ph := .raw) (ps := [Meets Try.prog 118 [(FK p1)] (B r3), litA (B r3) = true, (B r3) = (B true), Meets Try.prog 118 [(FK p2)] (B r5), litA (B r5) = true, (B r5) = (B false), ExtS Try.prog 119 (FK p1) (IK .u64 ((p1 : Nat) : Int)), ExtS Try.prog 119 (FK p2) (IK .u64 ((p2 : Nat) : Int)), (B (((p1 : Nat) : Int) == ((p2 : Nat) : Int))) = (B (((p1 : Nat) : Int) == ((p2 : Nat) : Int))), litA (B (((p1 : Nat) : Int) == ((p2 : Nat) : Int))) = true]) (by kernel_rfl) ⟨(math_IsNaN_m hr3), rfl, (litB c4), (math_IsNaN_m hr5), rfl, (litB c7), (xBits Try.func119 (by kernel_rfl) (by kernel_rfl) (by kernel_rfl) (by kernel_rfl)), (xBits Try.func119 (by kernel_rfl) (by kernel_rfl) (by kernel_rfl) (by kernel_rfl)), rfl, rfl, trivial⟩
  · have h := Option.some.inj h
    subst h
    exact go_ret hΘ hm hP hn (hs := [⟨2, .callV [] (B r3), none⟩, ⟨3, .no, some (B false)⟩, ⟨9, .xt (IK .u64 ((p1 : Nat) : Int)), none⟩, ⟨11, .xt (IK .u64 ((p2 : Nat) : Int)), none⟩]) (rh := []) (ph := .raw) (ps := [Meets Try.prog 118 [(FK p1)] (B r3), litA (B r3) = true, (B r3) = (B false), ExtS Try.prog 119 (FK p1) (IK .u64 ((p1 : Nat) : Int)), ExtS Try.prog 119 (FK p2) (IK .u64 ((p2 : Nat) : Int)), (B (((p1 : Nat) : Int) == ((p2 : Nat) : Int))) = (B (((p1 : Nat) : Int) == ((p2 : Nat) : Int))), litA (B (((p1 : Nat) : Int) == ((p2 : Nat) : Int))) = true]) (by kernel_rfl) ⟨(math_IsNaN_m hr3), rfl, (litB c8), (xBits Try.func119 (by kernel_rfl) (by kernel_rfl) (by kernel_rfl) (by kernel_rfl)), (xBits Try.func119 (by kernel_rfl) (by kernel_rfl) (by kernel_rfl) (by kernel_rfl)), rfl, rfl, trivial⟩
noncomputable def body66 : Code := match Try.f66.body with | some c => c | none => .skip
noncomputable def impl_in (p1 : Int) (p2 : Int) (p3 : Int) : Option Bool :=
  if (decide (p2 ≤ p1)) = true then
    some (decide (p1 ≤ p3))
  else
    some false
theorem impl_in_m {p1 : Int} {p2 : Int} {p3 : Int} {r : Bool} (h : impl_in p1 p2 p3 = some r) : Meets Try.prog 66 [(I p1), (I p2), (I p3)] (B r) := by
  refine meets_ofC Θ_ok Try.func66 rfl (c := body66) (by kernel_rfl) (Nat.le_of_ble_eq_true rfl) ?_
  intro E hP hn hx
  replace hn : E.n = 15 := hn
  have hm : E.P.follows .mixedOrders = true := by rw [hP]; exact mixed
  have hΘ : TOK E.P Θ := by rw [hP]; exact Θ_ok
  unfold impl_in at h
  show WAt E body66 (FQ (RetE Θ Try.f66.results.toList [] [] (B r) E)) [] ⟨[(0, (I p1)), (1, (I p2)), (2, (I p3))], [], [JJ]⟩
  rcases itS h with ⟨c4, h⟩ | ⟨c5, h⟩
  · have h := Option.some.inj h
    subst h
    exact go_ret hΘ hm hP hn (hs := [⟨4, .no, some (B true)⟩]) (rh := []) (ph := .raw) (ps := [(B (decide (p2 ≤ p1))) = (B true), (B (decide (p1 ≤ p3))) = (B (decide (p1 ≤ p3))), litA (B (decide (p1 ≤ p3))) = true]) (by kernel_rfl) ⟨(litB c4), rfl, rfl, trivial⟩
  · have h := Option.some.inj h
    subst h
    exact go_ret hΘ hm hP hn (hs := [⟨4, .no, some (B false)⟩]) (rh := []) (ph := .raw) (ps := [(B (decide (p2 ≤ p1))) = (B false), (B false) = (B false), litA (B false) = true]) (by kernel_rfl) ⟨(litB c5), rfl, rfl, trivial⟩
noncomputable def body75 : Code := match Try.f75.body with | some c => c | none => .skip
noncomputable def impl_Act_isGood (p1 : GAct) : Option Bool :=
  if (p1.Kind == 1) = true then
    Option.bind (impl_in p1.Cell 0 1) fun r3 =>
    some r3
  else
    if (p1.Kind == 2) = true then
      Option.bind (impl_in p1.Cell 0 1) fun r6 =>
      if r6 = true then
        Option.bind (impl_SameNum p1.V 0) fun r8 =>
        some r8
      else
        some false
    else
      if (p1.Kind == 3) = true then
        if (p1.Cell == 0) = true then
          Option.bind (impl_SameNum p1.V 0) fun r13 =>
          some r13
        else
          some false
      else
        some false
theorem impl_Act_isGood_m {p1 : GAct} {r : Bool} (h : impl_Act_isGood p1 = some r) : Meets Try.prog 75 [(AV.agg ((o71 p1)))] (B r) := by
  refine meets_ofC Θ_ok Try.func75 rfl (c := body75) (by kernel_rfl) (Nat.le_of_ble_eq_true rfl) ?_
  intro E hP hn hx
  replace hn : E.n = 33 := hn
  have hm : E.P.follows .mixedOrders = true := by rw [hP]; exact mixed
  have hΘ : TOK E.P Θ := by rw [hP]; exact Θ_ok
  unfold impl_Act_isGood at h
  show WAt E body75 (FQ (RetE Θ Try.f75.results.toList [] [] (B r) E)) [] ⟨[(0, (AV.agg ((o71 p1))))], [], [JJ]⟩
  rcases itS h with ⟨c2, h⟩ | ⟨c4, h⟩
  · obtain ⟨r3, hr3, h⟩ := bnS h
    have h := Option.some.inj h
    subst h
    exact go_ret hΘ hm hP hn (hs := [⟨0, .new 1001, none⟩, ⟨6, .br true, none⟩, ⟨9, .callV [] (B r3), none⟩]) (rh := []) (ph := .raw) (ps := [(p1.Kind == 1) = true, Meets Try.prog 66 [(I p1.Cell), (I 0), (I 1)] (B r3), litA (B r3) = true, (B r3) = (B r3), litA (B r3) = true]) (by kernel_rfl) ⟨c2, (impl_in_m hr3), rfl, rfl, rfl, trivial⟩
  · rcases itS h with ⟨c5, h⟩ | ⟨c10, h⟩
    · obtain ⟨r6, hr6, h⟩ := bnS h
      rcases itS h with ⟨c7, h⟩ | ⟨c9, h⟩
      · obtain ⟨r8, hr8, h⟩ := bnS h
        have h := Option.some.inj h
        subst h
        exact go_ret hΘ hm hP hn (hs := [⟨0, .new 1001, none⟩, ⟨6, .br false, none⟩, ⟨9, .br true, none⟩, ⟨12, .callV [] (B r6), none⟩, ⟨13, .no, some (B true)⟩, ⟨16, .callV [] (B r8), none⟩]) (rh := []) (ph := .raw) (ps := [(p1.Kind == 1) = false, (p1.Kind == 2) = true, Meets Try.prog 66 [(I p1.Cell), (I 0), (I 1)] (B r6), litA (B r6) = true, (B r6) = (B true), Meets Try.prog 105 [(FK p1.V), (FK 0)] (B r8), litA (B r8) = true, (B r8) = (B r8), litA (B r8) = true]) (by kernel_rfl) ⟨c4, c5, (impl_in_m hr6), rfl, (litB c7), (impl_SameNum_m hr8), rfl, rfl, rfl, trivial⟩
      · have h := Option.some.inj h
        subst h
        exact go_ret hΘ hm hP hn (hs := [⟨0, .new 1001, none⟩, ⟨6, .br false, none⟩, ⟨9, .br true, none⟩, ⟨12, .callV [] (B r6), none⟩, ⟨13, .no, some (B false)⟩]) (rh := []) (ph := .raw) (ps := [(p1.Kind == 1) = false, (p1.Kind == 2) = true, Meets Try.prog 66 [(I p1.Cell), (I 0), (I 1)] (B r6), litA (B r6) = true, (B r6) = (B false), (B false) = (B false), litA (B false) = true]) (by kernel_rfl) ⟨c4, c5, (impl_in_m hr6), rfl, (litB c9), rfl, rfl, trivial⟩
    · rcases itS h with ⟨c11, h⟩ | ⟨c15, h⟩
      · rcases itS h with ⟨c12, h⟩ | ⟨c14, h⟩
        · obtain ⟨r13, hr13, h⟩ := bnS h
          have h := Option.some.inj h
          subst h
          exact go_ret hΘ hm hP hn (hs := [⟨0, .new 1001, none⟩, ⟨6, .br false, none⟩, ⟨9, .br false, none⟩, ⟨13, .no, some (B true)⟩, ⟨18, .no, some (B true)⟩, ⟨21, .callV [] (B r13), none⟩]) (rh := []) (ph := .raw) (ps := [(p1.Kind == 1) = false, (p1.Kind == 2) = false, (B (p1.Kind == 3)) = (B true), (B (p1.Cell == 0)) = (B true), Meets Try.prog 105 [(FK p1.V), (FK 0)] (B r13), litA (B r13) = true, (B r13) = (B r13), litA (B r13) = true]) (by kernel_rfl) ⟨c4, c10, (litB c11), (litB c12), (impl_SameNum_m hr13), rfl, rfl, rfl, trivial⟩
        · have h := Option.some.inj h
          subst h
          exact go_ret hΘ hm hP hn (hs := [⟨0, .new 1001, none⟩, ⟨6, .br false, none⟩, ⟨9, .br false, none⟩, ⟨13, .no, some (B true)⟩, ⟨18, .no, some (B false)⟩]) (rh := []) (ph := .raw) (ps := [(p1.Kind == 1) = false, (p1.Kind == 2) = false, (B (p1.Kind == 3)) = (B true), (B (p1.Cell == 0)) = (B false), (B false) = (B false), litA (B false) = true]) (by kernel_rfl) ⟨c4, c10, (litB c11), (litB c14), rfl, rfl, trivial⟩
      · have h := Option.some.inj h
        subst h
        exact go_ret hΘ hm hP hn (hs := [⟨0, .new 1001, none⟩, ⟨6, .br false, none⟩, ⟨9, .br false, none⟩, ⟨13, .no, some (B false)⟩]) (rh := []) (ph := .raw) (ps := [(p1.Kind == 1) = false, (p1.Kind == 2) = false, (B (p1.Kind == 3)) = (B false), (B false) = (B false), litA (B false) = true]) (by kernel_rfl) ⟨c4, c10, (litB c15), rfl, rfl, trivial⟩
noncomputable def body74 : Code := match Try.f74.body with | some c => c | none => .skip
noncomputable def impl_GoodLitmus_1 (p1 : GAct) : Option Bool :=
  Option.bind (impl_Act_isGood p1) fun r2 =>
  some (!r2)
theorem impl_GoodLitmus_1_m {p1 : GAct} {r : Bool} (h : impl_GoodLitmus_1 p1 = some r) : Meets Try.prog 74 [(AV.agg ((o71 p1)))] (B r) := by
  refine meets_ofC Θ_ok Try.func74 rfl (c := body74) (by kernel_rfl) (Nat.le_of_ble_eq_true rfl) ?_
  intro E hP hn hx
  replace hn : E.n = 6 := hn
  have hm : E.P.follows .mixedOrders = true := by rw [hP]; exact mixed
  have hΘ : TOK E.P Θ := by rw [hP]; exact Θ_ok
  unfold impl_GoodLitmus_1 at h
  show WAt E body74 (FQ (RetE Θ Try.f74.results.toList [] [] (B r) E)) [] ⟨[(0, (AV.agg ((o71 p1))))], [], [JJ]⟩
  obtain ⟨r2, hr2, h⟩ := bnS h
  have h := Option.some.inj h
  subst h
  exact go_ret hΘ hm hP hn (hs := [⟨0, .new 1001, none⟩, ⟨3, .callV [[]] (B r2), none⟩]) (rh := []) (ph := .raw) (ps := [Meets Try.prog 75 [(AV.agg ((o71 p1)))] (B r2), litA (B r2) = true, (B (!r2)) = (B (!r2)), litA (B (!r2)) = true]) (by kernel_rfl) ⟨(impl_Act_isGood_m hr2), rfl, rfl, rfl, trivial⟩
noncomputable def body104 : Code := match Try.f104.body with | some c => c | none => .skip
noncomputable def slices_IndexFunc_Act_Act_104__impl_GoodLitmus_1_l0  (p1 : (List GAct)) : Nat → Int → Option Int
  | 0, _ => none
  | n + 1, v2 =>
  if (decide (v2 < (p1.length : Int))) = true then
    Option.bind (rd p1 v2) fun x4 =>
    Option.bind (impl_GoodLitmus_1 x4) fun r5 =>
    if r5 = true then
      some v2
    else
      slices_IndexFunc_Act_Act_104__impl_GoodLitmus_1_l0 p1 n (w64 (v2 + 1))
  else
    some (-1)
theorem slices_IndexFunc_Act_Act_104__impl_GoodLitmus_1_l0_m {E : Env} (hP : E.P = Try.prog) (hn : E.n = 19) (hx : ∀ p, p ∈ E.fx → p.1 ∈ ([] : List Nat)) (p1 : (List GAct))  : ∀ (n : Nat) (v2 : Int) (r : Int), slices_IndexFunc_Act_Act_104__impl_GoodLitmus_1_l0 p1 n v2 = some r → WAt E body104 (FQ (RetE Θ Try.f104.results.toList [] [] (I r) E)) [true, false, true, false] ⟨[(0, (AV.ro 3 (p1.map o71))), (1, (AV.fn 74 [])), (7, (I (p1.length : Int))), (8, (I v2))], [], [JJ]⟩ := by
  have hm : E.P.follows .mixedOrders = true := by rw [hP]; exact mixed
  have hΘ : TOK E.P Θ := by rw [hP]; exact Θ_ok
  intro n
  induction n with
  | zero => intro v2 r h; simp only [slices_IndexFunc_Act_Act_104__impl_GoodLitmus_1_l0] at h; cases h
  | succ n ih =>
    intro v2 r h
    simp only [slices_IndexFunc_Act_Act_104__impl_GoodLitmus_1_l0] at h
    rcases itS h with ⟨c3, h⟩ | ⟨c8, h⟩
    · obtain ⟨x4, hx4, h⟩ := bnS h
      obtain ⟨r5, hr5, h⟩ := bnS h
      rcases itS h with ⟨c6, h⟩ | ⟨c7, h⟩
      · have h := Option.some.inj h
        subst h
        exact go_ret hΘ hm hP hn (hs := [⟨1, .br true, none⟩, ⟨7, .row (o71 x4), none⟩, ⟨9, .callV [[]] (B r5), none⟩, ⟨10, .br true, none⟩]) (rh := []) (ph := .raw) (ps := [(decide (v2 < (p1.length : Int))) = true, (0 : Int) ≤ v2, (p1.map o71)[(Int.toNat v2)]? = some (o71 x4), Meets Try.prog 74 [(AV.agg ((o71 x4)))] (B r5), litA (B r5) = true, r5 = true, (I v2) = (I v2), litA (I v2) = true]) (by kernel_rfl) ⟨c3, (rd0 hx4), (rdM o71 hx4), (impl_GoodLitmus_1_m hr5), rfl, c6, rfl, rfl, trivial⟩
      · exact go_to hΘ hm hx hP hn (hs := [⟨1, .br true, none⟩, ⟨7, .row (o71 x4), none⟩, ⟨9, .callV [[]] (B r5), none⟩, ⟨10, .br false, none⟩]) (π := []) (ts := [0, 1, 7, 8]) (kp := []) (ps := [(decide (v2 < (p1.length : Int))) = true, (0 : Int) ≤ v2, (p1.map o71)[(Int.toNat v2)]? = some (o71 x4), Meets Try.prog 74 [(AV.agg ((o71 x4)))] (B r5), litA (B r5) = true, r5 = false]) (by kernel_rfl) ⟨c3, (rd0 hx4), (rdM o71 hx4), (impl_GoodLitmus_1_m hr5), rfl, c7, trivial⟩ (ih (w64 (v2 + 1)) _ h)
    · have h := Option.some.inj h
      subst h
      exact go_ret hΘ hm hP hn (hs := [⟨1, .br false, none⟩]) (rh := []) (ph := .raw) (ps := [(decide (v2 < (p1.length : Int))) = false, (I (-1)) = (I (-1)), litA (I (-1)) = true]) (by kernel_rfl) ⟨c8, rfl, rfl, trivial⟩
noncomputable def slices_IndexFunc_Act_Act_104__impl_GoodLitmus_1 (p1 : (List GAct)) : Option Int :=
  slices_IndexFunc_Act_Act_104__impl_GoodLitmus_1_l0 p1 FU 0
theorem slices_IndexFunc_Act_Act_104__impl_GoodLitmus_1_m {p1 : (List GAct)} {r : Int} (h : slices_IndexFunc_Act_Act_104__impl_GoodLitmus_1 p1 = some r) : Meets Try.prog 104 [(AV.ro 3 (p1.map o71)), (AV.fn 74 [])] (I r) := by
  refine meets_ofC Θ_ok Try.func104 rfl (c := body104) (by kernel_rfl) (Nat.le_of_ble_eq_true rfl) ?_
  intro E hP hn hx
  replace hn : E.n = 19 := hn
  have hm : E.P.follows .mixedOrders = true := by rw [hP]; exact mixed
  have hΘ : TOK E.P Θ := by rw [hP]; exact Θ_ok
  unfold slices_IndexFunc_Act_Act_104__impl_GoodLitmus_1 at h
  show WAt E body104 (FQ (RetE Θ Try.f104.results.toList [] [] (I r) E)) [] ⟨[(0, (AV.ro 3 (p1.map o71))), (1, (AV.fn 74 []))], [], [JJ]⟩
  exact go_to hΘ hm hx hP hn (hs := [⟨2, .no, some (I (p1.length : Int))⟩]) (π := []) (ts := [0, 1, 7, 8]) (kp := []) (ps := [AV.lit (.int .i64 (((p1.map o71).length : Nat) : Int)) = (I (p1.length : Int))]) (by kernel_rfl) ⟨(lenM o71), trivial⟩ (slices_IndexFunc_Act_Act_104__impl_GoodLitmus_1_l0_m hP hn hx p1 FU 0 _ h)
noncomputable def body73 : Code := match Try.f73.body with | some c => c | none => .skip
noncomputable def slices_ContainsFunc_Act_Act_73__impl_GoodLitmus_1 (p1 : (List GAct)) : Option Bool :=
  Option.bind (slices_IndexFunc_Act_Act_104__impl_GoodLitmus_1 p1) fun r2 =>
  some (decide (r2 ≥ 0))
theorem slices_ContainsFunc_Act_Act_73__impl_GoodLitmus_1_m {p1 : (List GAct)} {r : Bool} (h : slices_ContainsFunc_Act_Act_73__impl_GoodLitmus_1 p1 = some r) : Meets Try.prog 73 [(AV.ro 3 (p1.map o71)), (AV.fn 74 [])] (B r) := by
  refine meets_ofC Θ_ok Try.func73 rfl (c := body73) (by kernel_rfl) (Nat.le_of_ble_eq_true rfl) ?_
  intro E hP hn hx
  replace hn : E.n = 9 := hn
  have hm : E.P.follows .mixedOrders = true := by rw [hP]; exact mixed
  have hΘ : TOK E.P Θ := by rw [hP]; exact Θ_ok
  unfold slices_ContainsFunc_Act_Act_73__impl_GoodLitmus_1 at h
  show WAt E body73 (FQ (RetE Θ Try.f73.results.toList [] [] (B r) E)) [] ⟨[(0, (AV.ro 3 (p1.map o71))), (1, (AV.fn 74 []))], [], [JJ]⟩
  obtain ⟨r2, hr2, h⟩ := bnS h
  have h := Option.some.inj h
  subst h
  exact go_ret hΘ hm hP hn (hs := [⟨3, .callV [] (I r2), none⟩]) (rh := []) (ph := .raw) (ps := [Meets Try.prog 104 [(AV.ro 3 (p1.map o71)), (AV.fn 74 [])] (I r2), litA (I r2) = true, (B (decide (r2 ≥ 0))) = (B (decide (r2 ≥ 0))), litA (B (decide (r2 ≥ 0))) = true]) (by kernel_rfl) ⟨(slices_IndexFunc_Act_Act_104__impl_GoodLitmus_1_m hr2), rfl, rfl, rfl, trivial⟩
noncomputable def body43 : Code := match Try.f43.body with | some c => c | none => .skip
noncomputable def impl_GoodLitmus_l0  (p1 : (List (List GAct))) : Nat → Int → Option Bool
  | 0, _ => none
  | n + 1, v2 =>
  if (decide (v2 < (p1.length : Int))) = true then
    Option.bind (rd p1 v2) fun x4 =>
    if (decide ((x4.length : Int) > 6)) = true then
      some false
    else
      Option.bind (slices_ContainsFunc_Act_Act_73__impl_GoodLitmus_1 x4) fun r7 =>
      if r7 = true then
        some false
      else
        impl_GoodLitmus_l0 p1 n (w64 (v2 + 1))
  else
    some (decide ((p1.length : Int) ≤ 3))
theorem impl_GoodLitmus_l0_m {E : Env} (hP : E.P = Try.prog) (hn : E.n = 22) (hx : ∀ p, p ∈ E.fx → p.1 ∈ ([] : List Nat)) (p1 : (List (List GAct)))  : ∀ (n : Nat) (v2 : Int) (r : Bool), impl_GoodLitmus_l0 p1 n v2 = some r → WAt E body43 (FQ (RetE Θ Try.f43.results.toList [] [] (B r) E)) [true, false, true, false] ⟨[(0, (AV.ro 1 (p1.map r68))), (5, (AV.ro 1 (p1.map r68))), (6, (I (p1.length : Int))), (7, (I v2))], [], [JJ]⟩ := by
  have hm : E.P.follows .mixedOrders = true := by rw [hP]; exact mixed
  have hΘ : TOK E.P Θ := by rw [hP]; exact Θ_ok
  intro n
  induction n with
  | zero => intro v2 r h; simp only [impl_GoodLitmus_l0] at h; cases h
  | succ n ih =>
    intro v2 r h
    simp only [impl_GoodLitmus_l0] at h
    rcases itS h with ⟨c3, h⟩ | ⟨c10, h⟩
    · obtain ⟨x4, hx4, h⟩ := bnS h
      rcases itS h with ⟨c5, h⟩ | ⟨c6, h⟩
      · have h := Option.some.inj h
        subst h
        exact go_ret hΘ hm hP hn (hs := [⟨1, .br true, none⟩, ⟨2, .row (r68 x4), none⟩, ⟨6, .no, some (I (x4.length : Int))⟩, ⟨8, .no, some (B true)⟩]) (rh := []) (ph := .raw) (ps := [(decide (v2 < (p1.length : Int))) = true, (0 : Int) ≤ v2, (p1.map r68)[(Int.toNat v2)]? = some (r68 x4), AV.lit (.int .i64 (((x4.map o71).length : Nat) : Int)) = (I (x4.length : Int)), (B (decide ((x4.length : Int) > 6))) = (B true), (B false) = (B false), litA (B false) = true]) (by kernel_rfl) ⟨c3, (rd0 hx4), (rdM r68 hx4), (lenM o71), (litB c5), rfl, rfl, trivial⟩
      · obtain ⟨r7, hr7, h⟩ := bnS h
        rcases itS h with ⟨c8, h⟩ | ⟨c9, h⟩
        · have h := Option.some.inj h
          subst h
          exact go_ret hΘ hm hP hn (hs := [⟨1, .br true, none⟩, ⟨2, .row (r68 x4), none⟩, ⟨6, .no, some (I (x4.length : Int))⟩, ⟨8, .no, some (B false)⟩, ⟨10, .callV [] (B r7), none⟩, ⟨12, .br true, none⟩]) (rh := []) (ph := .raw) (ps := [(decide (v2 < (p1.length : Int))) = true, (0 : Int) ≤ v2, (p1.map r68)[(Int.toNat v2)]? = some (r68 x4), AV.lit (.int .i64 (((x4.map o71).length : Nat) : Int)) = (I (x4.length : Int)), (B (decide ((x4.length : Int) > 6))) = (B false), Meets Try.prog 73 [(AV.ro 3 (x4.map o71)), (AV.fn 74 [])] (B r7), litA (B r7) = true, r7 = true, (B false) = (B false), litA (B false) = true]) (by kernel_rfl) ⟨c3, (rd0 hx4), (rdM r68 hx4), (lenM o71), (litB c6), (slices_ContainsFunc_Act_Act_73__impl_GoodLitmus_1_m hr7), rfl, c8, rfl, rfl, trivial⟩
        · exact go_to hΘ hm hx hP hn (hs := [⟨1, .br true, none⟩, ⟨2, .row (r68 x4), none⟩, ⟨6, .no, some (I (x4.length : Int))⟩, ⟨8, .no, some (B false)⟩, ⟨10, .callV [] (B r7), none⟩, ⟨12, .br false, none⟩]) (π := []) (ts := [0, 5, 6, 7]) (kp := []) (ps := [(decide (v2 < (p1.length : Int))) = true, (0 : Int) ≤ v2, (p1.map r68)[(Int.toNat v2)]? = some (r68 x4), AV.lit (.int .i64 (((x4.map o71).length : Nat) : Int)) = (I (x4.length : Int)), (B (decide ((x4.length : Int) > 6))) = (B false), Meets Try.prog 73 [(AV.ro 3 (x4.map o71)), (AV.fn 74 [])] (B r7), litA (B r7) = true, r7 = false]) (by kernel_rfl) ⟨c3, (rd0 hx4), (rdM r68 hx4), (lenM o71), (litB c6), (slices_ContainsFunc_Act_Act_73__impl_GoodLitmus_1_m hr7), rfl, c9, trivial⟩ (ih (w64 (v2 + 1)) _ h)
    · have h := Option.some.inj h
      subst h
      exact go_ret hΘ hm hP hn (hs := [⟨1, .br false, none⟩, ⟨3, .no, some (I (p1.length : Int))⟩]) (rh := []) (ph := .raw) (ps := [(decide (v2 < (p1.length : Int))) = false, AV.lit (.int .i64 (((p1.map r68).length : Nat) : Int)) = (I (p1.length : Int)), (B (decide ((p1.length : Int) ≤ 3))) = (B (decide ((p1.length : Int) ≤ 3))), litA (B (decide ((p1.length : Int) ≤ 3))) = true]) (by kernel_rfl) ⟨c10, (lenM r68), rfl, rfl, trivial⟩
noncomputable def impl_GoodLitmus (p1 : (List (List GAct))) : Option Bool :=
  impl_GoodLitmus_l0 p1 FU 0
theorem impl_GoodLitmus_m {p1 : (List (List GAct))} {r : Bool} (h : impl_GoodLitmus p1 = some r) : Meets Try.prog 43 [(AV.ro 1 (p1.map r68))] (B r) := by
  refine meets_ofC Θ_ok Try.func43 rfl (c := body43) (by kernel_rfl) (Nat.le_of_ble_eq_true rfl) ?_
  intro E hP hn hx
  replace hn : E.n = 22 := hn
  have hm : E.P.follows .mixedOrders = true := by rw [hP]; exact mixed
  have hΘ : TOK E.P Θ := by rw [hP]; exact Θ_ok
  unfold impl_GoodLitmus at h
  show WAt E body43 (FQ (RetE Θ Try.f43.results.toList [] [] (B r) E)) [] ⟨[(0, (AV.ro 1 (p1.map r68)))], [], [JJ]⟩
  exact go_to hΘ hm hx hP hn (hs := [⟨2, .no, some (I (p1.length : Int))⟩]) (π := []) (ts := [0, 5, 6, 7]) (kp := []) (ps := [AV.lit (.int .i64 (((p1.map r68).length : Nat) : Int)) = (I (p1.length : Int))]) (by kernel_rfl) ⟨(lenM r68), trivial⟩ (impl_GoodLitmus_l0_m hP hn hx p1 FU 0 _ h)
noncomputable def body45 : Code := match Try.f45.body with | some c => c | none => .skip
noncomputable def impl_FencedOf_1 (p1 : (List GAct)) : Option Bool :=
  some (decide ((p1.length : Int) > 3))
theorem impl_FencedOf_1_m {p1 : (List GAct)} {r : Bool} (h : impl_FencedOf_1 p1 = some r) : Meets Try.prog 45 [(AV.ro 3 (p1.map o71))] (B r) := by
  refine meets_ofC Θ_ok Try.func45 rfl (c := body45) (by kernel_rfl) (Nat.le_of_ble_eq_true rfl) ?_
  intro E hP hn hx
  replace hn : E.n = 6 := hn
  have hm : E.P.follows .mixedOrders = true := by rw [hP]; exact mixed
  have hΘ : TOK E.P Θ := by rw [hP]; exact Θ_ok
  unfold impl_FencedOf_1 at h
  show WAt E body45 (FQ (RetE Θ Try.f45.results.toList [] [] (B r) E)) [] ⟨[(0, (AV.ro 3 (p1.map o71)))], [], [JJ]⟩
  have h := Option.some.inj h
  subst h
  exact go_ret hΘ hm hP hn (hs := [⟨2, .no, some (I (p1.length : Int))⟩]) (rh := []) (ph := .raw) (ps := [AV.lit (.int .i64 (((p1.map o71).length : Nat) : Int)) = (I (p1.length : Int)), (B (decide ((p1.length : Int) > 3))) = (B (decide ((p1.length : Int) > 3))), litA (B (decide ((p1.length : Int) > 3))) = true]) (by kernel_rfl) ⟨(lenM o71), rfl, rfl, trivial⟩
noncomputable def body76 : Code := match Try.f76.body with | some c => c | none => .skip
noncomputable def slices_IndexFunc_Act_Act_76__impl_FencedOf_1_l0  (p1 : (List (List GAct))) : Nat → Int → Option Int
  | 0, _ => none
  | n + 1, v2 =>
  if (decide (v2 < (p1.length : Int))) = true then
    Option.bind (rd p1 v2) fun x4 =>
    Option.bind (impl_FencedOf_1 x4) fun r5 =>
    if r5 = true then
      some v2
    else
      slices_IndexFunc_Act_Act_76__impl_FencedOf_1_l0 p1 n (w64 (v2 + 1))
  else
    some (-1)
theorem slices_IndexFunc_Act_Act_76__impl_FencedOf_1_l0_m {E : Env} (hP : E.P = Try.prog) (hn : E.n = 19) (hx : ∀ p, p ∈ E.fx → p.1 ∈ ([] : List Nat)) (p1 : (List (List GAct)))  : ∀ (n : Nat) (v2 : Int) (r : Int), slices_IndexFunc_Act_Act_76__impl_FencedOf_1_l0 p1 n v2 = some r → WAt E body76 (FQ (RetE Θ Try.f76.results.toList [] [] (I r) E)) [true, false, true, false] ⟨[(0, (AV.ro 1 (p1.map r68))), (1, (AV.fn 45 [])), (7, (I (p1.length : Int))), (8, (I v2))], [], [JJ]⟩ := by
  have hm : E.P.follows .mixedOrders = true := by rw [hP]; exact mixed
  have hΘ : TOK E.P Θ := by rw [hP]; exact Θ_ok
  intro n
  induction n with
  | zero => intro v2 r h; simp only [slices_IndexFunc_Act_Act_76__impl_FencedOf_1_l0] at h; cases h
  | succ n ih =>
    intro v2 r h
    simp only [slices_IndexFunc_Act_Act_76__impl_FencedOf_1_l0] at h
    rcases itS h with ⟨c3, h⟩ | ⟨c8, h⟩
    · obtain ⟨x4, hx4, h⟩ := bnS h
      obtain ⟨r5, hr5, h⟩ := bnS h
      rcases itS h with ⟨c6, h⟩ | ⟨c7, h⟩
      · have h := Option.some.inj h
        subst h
        exact go_ret hΘ hm hP hn (hs := [⟨1, .br true, none⟩, ⟨7, .row (r68 x4), none⟩, ⟨9, .callV [] (B r5), none⟩, ⟨10, .br true, none⟩]) (rh := []) (ph := .raw) (ps := [(decide (v2 < (p1.length : Int))) = true, (0 : Int) ≤ v2, (p1.map r68)[(Int.toNat v2)]? = some (r68 x4), Meets Try.prog 45 [(AV.ro 3 (x4.map o71))] (B r5), litA (B r5) = true, r5 = true, (I v2) = (I v2), litA (I v2) = true]) (by kernel_rfl) ⟨c3, (rd0 hx4), (rdM r68 hx4), (impl_FencedOf_1_m hr5), rfl, c6, rfl, rfl, trivial⟩
      · exact go_to hΘ hm hx hP hn (hs := [⟨1, .br true, none⟩, ⟨7, .row (r68 x4), none⟩, ⟨9, .callV [] (B r5), none⟩, ⟨10, .br false, none⟩]) (π := []) (ts := [0, 1, 7, 8]) (kp := []) (ps := [(decide (v2 < (p1.length : Int))) = true, (0 : Int) ≤ v2, (p1.map r68)[(Int.toNat v2)]? = some (r68 x4), Meets Try.prog 45 [(AV.ro 3 (x4.map o71))] (B r5), litA (B r5) = true, r5 = false]) (by kernel_rfl) ⟨c3, (rd0 hx4), (rdM r68 hx4), (impl_FencedOf_1_m hr5), rfl, c7, trivial⟩ (ih (w64 (v2 + 1)) _ h)
    · have h := Option.some.inj h
      subst h
      exact go_ret hΘ hm hP hn (hs := [⟨1, .br false, none⟩]) (rh := []) (ph := .raw) (ps := [(decide (v2 < (p1.length : Int))) = false, (I (-1)) = (I (-1)), litA (I (-1)) = true]) (by kernel_rfl) ⟨c8, rfl, rfl, trivial⟩
noncomputable def slices_IndexFunc_Act_Act_76__impl_FencedOf_1 (p1 : (List (List GAct))) : Option Int :=
  slices_IndexFunc_Act_Act_76__impl_FencedOf_1_l0 p1 FU 0
theorem slices_IndexFunc_Act_Act_76__impl_FencedOf_1_m {p1 : (List (List GAct))} {r : Int} (h : slices_IndexFunc_Act_Act_76__impl_FencedOf_1 p1 = some r) : Meets Try.prog 76 [(AV.ro 1 (p1.map r68)), (AV.fn 45 [])] (I r) := by
  refine meets_ofC Θ_ok Try.func76 rfl (c := body76) (by kernel_rfl) (Nat.le_of_ble_eq_true rfl) ?_
  intro E hP hn hx
  replace hn : E.n = 19 := hn
  have hm : E.P.follows .mixedOrders = true := by rw [hP]; exact mixed
  have hΘ : TOK E.P Θ := by rw [hP]; exact Θ_ok
  unfold slices_IndexFunc_Act_Act_76__impl_FencedOf_1 at h
  show WAt E body76 (FQ (RetE Θ Try.f76.results.toList [] [] (I r) E)) [] ⟨[(0, (AV.ro 1 (p1.map r68))), (1, (AV.fn 45 []))], [], [JJ]⟩
  exact go_to hΘ hm hx hP hn (hs := [⟨2, .no, some (I (p1.length : Int))⟩]) (π := []) (ts := [0, 1, 7, 8]) (kp := []) (ps := [AV.lit (.int .i64 (((p1.map r68).length : Nat) : Int)) = (I (p1.length : Int))]) (by kernel_rfl) ⟨(lenM r68), trivial⟩ (slices_IndexFunc_Act_Act_76__impl_FencedOf_1_l0_m hP hn hx p1 FU 0 _ h)
noncomputable def body44 : Code := match Try.f44.body with | some c => c | none => .skip
noncomputable def slices_ContainsFunc_Act_Act_44__impl_FencedOf_1 (p1 : (List (List GAct))) : Option Bool :=
  Option.bind (slices_IndexFunc_Act_Act_76__impl_FencedOf_1 p1) fun r2 =>
  some (decide (r2 ≥ 0))
theorem slices_ContainsFunc_Act_Act_44__impl_FencedOf_1_m {p1 : (List (List GAct))} {r : Bool} (h : slices_ContainsFunc_Act_Act_44__impl_FencedOf_1 p1 = some r) : Meets Try.prog 44 [(AV.ro 1 (p1.map r68)), (AV.fn 45 [])] (B r) := by
  refine meets_ofC Θ_ok Try.func44 rfl (c := body44) (by kernel_rfl) (Nat.le_of_ble_eq_true rfl) ?_
  intro E hP hn hx
  replace hn : E.n = 9 := hn
  have hm : E.P.follows .mixedOrders = true := by rw [hP]; exact mixed
  have hΘ : TOK E.P Θ := by rw [hP]; exact Θ_ok
  unfold slices_ContainsFunc_Act_Act_44__impl_FencedOf_1 at h
  show WAt E body44 (FQ (RetE Θ Try.f44.results.toList [] [] (B r) E)) [] ⟨[(0, (AV.ro 1 (p1.map r68))), (1, (AV.fn 45 []))], [], [JJ]⟩
  obtain ⟨r2, hr2, h⟩ := bnS h
  have h := Option.some.inj h
  subst h
  exact go_ret hΘ hm hP hn (hs := [⟨3, .callV [] (I r2), none⟩]) (rh := []) (ph := .raw) (ps := [Meets Try.prog 76 [(AV.ro 1 (p1.map r68)), (AV.fn 45 [])] (I r2), litA (I r2) = true, (B (decide (r2 ≥ 0))) = (B (decide (r2 ≥ 0))), litA (B (decide (r2 ≥ 0))) = true]) (by kernel_rfl) ⟨(slices_IndexFunc_Act_Act_76__impl_FencedOf_1_m hr2), rfl, rfl, rfl, trivial⟩
noncomputable def body12 : Code := match Try.f12.body with | some c => c | none => .skip
noncomputable def impl_FencedOf_l1 (K0 : (List (List GAct)) → Int → Option ((List (List GAct)) × Bool)) (p1 : (List (List GAct))) (v9 : Int) (x11 : (List GAct)) : Nat → (List (List GAct)) → (List GAct) → Int → Option ((List (List GAct)) × Bool)
  | 0, _, _, _ => none
  | n + 1, a12, a13, v14 =>
  if (decide (v14 < (x11.length : Int))) = true then
    Option.bind (rd x11 v14) fun x16 =>
    Option.bind (app a13 [x16]) fun l17 =>
    if (x16.Kind == 1) = true then
      Option.bind (app l17 [(GAct.mk 3 0 0)]) fun l19 =>
      impl_FencedOf_l1 K0 p1 v9 x11 n a12 l19 (w64 (v14 + 1))
    else
      impl_FencedOf_l1 K0 p1 v9 x11 n a12 l17 (w64 (v14 + 1))
  else
    Option.bind (app a12 [a13]) fun l22 =>
    K0 l22 (w64 (v9 + 1))
theorem impl_FencedOf_l1_m {E : Env} (hP : E.P = Try.prog) (hn : E.n = 49) (hx : ∀ p, p ∈ E.fx → p.1 ∈ ([] : List Nat)) (p1 : (List (List GAct))) (v9 : Int) (x11 : (List GAct)) {K0 : (List (List GAct)) → Int → Option ((List (List GAct)) × Bool)} (hK0 : ∀ (a8 : (List (List GAct))) (v9 : Int) (r : ((List (List GAct)) × Bool)), K0 a8 v9 = some r → WAt E body12 (FQ (RetE Θ Try.f12.results.toList [] [] (AV.tup [(AV.own 68 1 (r.1.map o68)), (B r.2)]) E)) [true, true, true, false, true, false] ⟨[(4, (AV.sl 1 0 (List.length (a8.map o68)))), (18, (AV.ro 1 (p1.map r68))), (19, (I (p1.length : Int))), (20, (I v9))], [(1, some ⟨68, 1, (a8.map o68)⟩)], [1, JJ]⟩) : ∀ (n : Nat) (a12 : (List (List GAct))) (a13 : (List GAct)) (v14 : Int) (r : ((List (List GAct)) × Bool)), impl_FencedOf_l1 K0 p1 v9 x11 n a12 a13 v14 = some r → WAt E body12 (FQ (RetE Θ Try.f12.results.toList [] [] (AV.tup [(AV.own 68 1 (r.1.map o68)), (B r.2)]) E)) [true, true, true, false, true, false, false, true, true, false, false, true, true, false, true, false] ⟨[(4, (AV.sl 1 0 (List.length (a12.map o68)))), (7, (AV.sl 2 0 (List.length (a13.map o71)))), (18, (AV.ro 1 (p1.map r68))), (19, (I (p1.length : Int))), (20, (I v9)), (25, (AV.ro 3 (x11.map o71))), (26, (I (x11.length : Int))), (27, (I v14))], [(1, some ⟨68, 1, (a12.map o68)⟩), (2, some ⟨71, 3, (a13.map o71)⟩)], [1, 2, JJ]⟩ := by
  have hm : E.P.follows .mixedOrders = true := by rw [hP]; exact mixed
  have hΘ : TOK E.P Θ := by rw [hP]; exact Θ_ok
  intro n
  induction n with
  | zero => intro a12 a13 v14 r h; simp only [impl_FencedOf_l1] at h; cases h
  | succ n ih =>
    intro a12 a13 v14 r h
    simp only [impl_FencedOf_l1] at h
    rcases itS h with ⟨c15, h⟩ | ⟨c21, h⟩
    · obtain ⟨x16, hx16, h⟩ := bnS h
      obtain ⟨l17, hl17, h⟩ := bnS h
      rcases itS h with ⟨c18, h⟩ | ⟨c20, h⟩
      · obtain ⟨l19, hl19, h⟩ := bnS h
        exact go_to hΘ hm hx hP hn (hs := [⟨1, .br true, none⟩, ⟨2, .row (o71 x16), none⟩, ⟨4, .new 1001, none⟩, ⟨8, .new 1002, none⟩, ⟨9, .app 1003 (l17.map o71), none⟩, ⟨14, .br true, none⟩, ⟨17, .new 1004, none⟩, ⟨18, .app 1005 (l19.map o71), none⟩]) (π := [(1, 1), (1005, 2)]) (ts := [4, 7, 18, 19, 20, 25, 26, 27]) (kp := []) (ps := [(decide (v14 < (x11.length : Int))) = true, (0 : Int) ≤ v14, (x11.map o71)[(Int.toNat v14)]? = some (o71 x16), (a13.map o71).take (List.length (a13.map o71)) ++ ((([x16].map o71).drop 0).take (List.length ([x16].map o71))) = (l17.map o71), ((([x16].map o71).drop 0).take (List.length ([x16].map o71))).all (fun r => r.all AV.plain) = true, (List.length (l17.map o71)) * 24 ≤ 140737488355328, (List.length (l17.map o71)) ≤ 140737488355328, (x16.Kind == 1) = true, (l17.map o71).take (List.length (l17.map o71)) ++ ((([(GAct.mk 3 0 0)].map o71).drop 0).take (List.length ([(GAct.mk 3 0 0)].map o71))) = (l19.map o71), ((([(GAct.mk 3 0 0)].map o71).drop 0).take (List.length ([(GAct.mk 3 0 0)].map o71))).all (fun r => r.all AV.plain) = true, (List.length (l19.map o71)) * 24 ≤ 140737488355328, (List.length (l19.map o71)) ≤ 140737488355328, RenOK [(1, 1), (1005, 2)] (a12.map o68), RenOK [(1, 1), (1005, 2)] (l19.map o71)]) (by kernel_rfl) ⟨c15, (rd0 hx16), (rdM o71 hx16), (appTD o71 hl17), (plD p71), (appB o71 hl17 (by decide)), (appC o71 hl17), c18, (appTD o71 hl19), (plD p71), (appB o71 hl19 (by decide)), (appC o71 hl19), (rok (treeM t68)), (rok (treeM t71)), trivial⟩ (ih a12 l19 (w64 (v14 + 1)) _ h)
      · exact go_to hΘ hm hx hP hn (hs := [⟨1, .br true, none⟩, ⟨2, .row (o71 x16), none⟩, ⟨4, .new 1001, none⟩, ⟨8, .new 1002, none⟩, ⟨9, .app 1003 (l17.map o71), none⟩, ⟨14, .br false, none⟩]) (π := [(1, 1), (1003, 2)]) (ts := [4, 7, 18, 19, 20, 25, 26, 27]) (kp := []) (ps := [(decide (v14 < (x11.length : Int))) = true, (0 : Int) ≤ v14, (x11.map o71)[(Int.toNat v14)]? = some (o71 x16), (a13.map o71).take (List.length (a13.map o71)) ++ ((([x16].map o71).drop 0).take (List.length ([x16].map o71))) = (l17.map o71), ((([x16].map o71).drop 0).take (List.length ([x16].map o71))).all (fun r => r.all AV.plain) = true, (List.length (l17.map o71)) * 24 ≤ 140737488355328, (List.length (l17.map o71)) ≤ 140737488355328, (x16.Kind == 1) = false, RenOK [(1, 1), (1003, 2)] (a12.map o68), RenOK [(1, 1), (1003, 2)] (l17.map o71)]) (by kernel_rfl) ⟨c15, (rd0 hx16), (rdM o71 hx16), (appTD o71 hl17), (plD p71), (appB o71 hl17 (by decide)), (appC o71 hl17), c20, (rok (treeM t68)), (rok (treeM t71)), trivial⟩ (ih a12 l17 (w64 (v14 + 1)) _ h)
    · obtain ⟨l22, hl22, h⟩ := bnS h
      exact go_to hΘ hm hx hP hn (hs := [⟨1, .br false, none⟩, ⟨4, .new 1006, none⟩, ⟨5, .app 1007 ((a12.map o68) ++ [[(AV.sl 2 0 (List.length (a13.map o71)))]]), none⟩, ⟨6, .pack 1007 2 (List.length a12) 0 [(AV.sl 2 0 (List.length (a13.map o71)))] (l22.map o68), none⟩, ⟨9, .slen 4 (List.length (l22.map o68)), none⟩]) (π := [(1007, 1)]) (ts := [4, 18, 19, 20]) (kp := []) (ps := [(decide (v14 < (x11.length : Int))) = false, (a12.map o68).take (List.length (a12.map o68)) ++ [[(AV.sl 2 0 (List.length (a13.map o71)))]] = ((a12.map o68) ++ [[(AV.sl 2 0 (List.length (a13.map o71)))]]), [[(AV.sl 2 0 (List.length (a13.map o71)))]].all (fun r => r.all AV.plain) = true, (List.length ((a12.map o68) ++ [[(AV.sl 2 0 (List.length (a13.map o71)))]])) * 24 ≤ 140737488355328, (List.length ((a12.map o68) ++ [[(AV.sl 2 0 (List.length (a13.map o71)))]])) ≤ 140737488355328, ((a12.map o68) ++ [[(AV.sl 2 0 (List.length (a13.map o71)))]])[(List.length a12)]? = some [(AV.sl 2 0 (List.length (a13.map o71)))], [(AV.sl 2 0 (List.length (a13.map o71)))][0]? = some (AV.sl 2 0 (List.length (a13.map o71))), treeLL (a13.map o71) = true, ((a12.map o68) ++ [[(AV.sl 2 0 (List.length (a13.map o71)))]]).set (List.length a12) ([(AV.sl 2 0 (List.length (a13.map o71)))].set 0 (AV.own 71 3 (a13.map o71))) = (l22.map o68), (List.length ((a12.map o68) ++ [[(AV.sl 2 0 (List.length (a13.map o71)))]])) = (List.length (l22.map o68)), RenOK [(1007, 1)] (l22.map o68)]) (by kernel_rfl) ⟨c21, (apT o68), rfl, (apB o68 hl22 (by decide)), (apC o68 hl22), (apG o68), rfl, (treeM t71), (apS o68 hl22), (apLn o68 hl22), (rok (treeM t68)), trivial⟩ (hK0 l22 (w64 (v9 + 1)) _ h)
noncomputable def impl_FencedOf_l0  (p1 : (List (List GAct))) : Nat → (List (List GAct)) → Int → Option ((List (List GAct)) × Bool)
  | 0, _, _ => none
  | n + 1, a8, v9 =>
  if (decide (v9 < (p1.length : Int))) = true then
    Option.bind (rd p1 v9) fun x11 =>
    impl_FencedOf_l1 (impl_FencedOf_l0 p1 n) p1 v9 x11 FU a8 [] 0
  else
    some (a8, true)
theorem impl_FencedOf_l0_m {E : Env} (hP : E.P = Try.prog) (hn : E.n = 49) (hx : ∀ p, p ∈ E.fx → p.1 ∈ ([] : List Nat)) (p1 : (List (List GAct)))  : ∀ (n : Nat) (a8 : (List (List GAct))) (v9 : Int) (r : ((List (List GAct)) × Bool)), impl_FencedOf_l0 p1 n a8 v9 = some r → WAt E body12 (FQ (RetE Θ Try.f12.results.toList [] [] (AV.tup [(AV.own 68 1 (r.1.map o68)), (B r.2)]) E)) [true, true, true, false, true, false] ⟨[(4, (AV.sl 1 0 (List.length (a8.map o68)))), (18, (AV.ro 1 (p1.map r68))), (19, (I (p1.length : Int))), (20, (I v9))], [(1, some ⟨68, 1, (a8.map o68)⟩)], [1, JJ]⟩ := by
  have hm : E.P.follows .mixedOrders = true := by rw [hP]; exact mixed
  have hΘ : TOK E.P Θ := by rw [hP]; exact Θ_ok
  intro n
  induction n with
  | zero => intro a8 v9 r h; simp only [impl_FencedOf_l0] at h; cases h
  | succ n ih =>
    intro a8 v9 r h
    simp only [impl_FencedOf_l0] at h
    rcases itS h with ⟨c10, h⟩ | ⟨c23, h⟩
    · obtain ⟨x11, hx11, h⟩ := bnS h
      exact go_to hΘ hm hx hP hn (hs := [⟨1, .br true, none⟩, ⟨2, .row (r68 x11), none⟩, ⟨5, .new 1001, none⟩, ⟨8, .no, some (I (x11.length : Int))⟩]) (π := [(1, 1), (1001, 2)]) (ts := [4, 7, 18, 19, 20, 25, 26, 27]) (kp := []) (ps := [(decide (v9 < (p1.length : Int))) = true, (0 : Int) ≤ v9, (p1.map r68)[(Int.toNat v9)]? = some (r68 x11), AV.lit (.int .i64 (((x11.map o71).length : Nat) : Int)) = (I (x11.length : Int)), RenOK [(1, 1), (1001, 2)] (a8.map o68), RenOK [(1, 1), (1001, 2)] ([].map o71)]) (by kernel_rfl) ⟨c10, (rd0 hx11), (rdM r68 hx11), (lenM o71), (rok (treeM t68)), (rok (treeM t71)), trivial⟩ (impl_FencedOf_l1_m hP hn hx p1 v9 x11 ih FU a8 [] 0 _ h)
    · have h := Option.some.inj h
      subst h
      exact go_ret hΘ hm hP hn (hs := [⟨1, .br false, none⟩]) (rh := []) (ph := .agg [.own, .raw]) (ps := [(decide (v9 < (p1.length : Int))) = false, treeLL ((a8.map o68).take (List.length (a8.map o68))) = true, (a8.map o68).take (List.length (a8.map o68)) = (a8.map o68), noRoLL (a8.map o68) = true, (B true) = (B true), litA (B true) = true]) (by kernel_rfl) ⟨c23, (treeT t68), takeM, (noRoM n68), rfl, rfl, trivial⟩
noncomputable def impl_FencedOf (p1 : (List (List GAct))) : Option ((List (List GAct)) × Bool) :=
  Option.bind (impl_GoodLitmus p1) fun r2 =>
  if (!r2) = true then
    some ([], false)
  else
    Option.bind (slices_ContainsFunc_Act_Act_44__impl_FencedOf_1 p1) fun r5 =>
    if r5 = true then
      some ([], false)
    else
      impl_FencedOf_l0 p1 FU [] 0
theorem impl_FencedOf_m {p1 : (List (List GAct))} {r : ((List (List GAct)) × Bool)} (h : impl_FencedOf p1 = some r) : Meets Try.prog 12 [(AV.ro 1 (p1.map r68))] (AV.tup [(AV.own 68 1 (r.1.map o68)), (B r.2)]) := by
  refine meets_ofC Θ_ok Try.func12 rfl (c := body12) (by kernel_rfl) (Nat.le_of_ble_eq_true rfl) ?_
  intro E hP hn hx
  replace hn : E.n = 49 := hn
  have hm : E.P.follows .mixedOrders = true := by rw [hP]; exact mixed
  have hΘ : TOK E.P Θ := by rw [hP]; exact Θ_ok
  unfold impl_FencedOf at h
  show WAt E body12 (FQ (RetE Θ Try.f12.results.toList [] [] (AV.tup [(AV.own 68 1 (r.1.map o68)), (B r.2)]) E)) [] ⟨[(0, (AV.ro 1 (p1.map r68)))], [], [JJ]⟩
  obtain ⟨r2, hr2, h⟩ := bnS h
  rcases itS h with ⟨c3, h⟩ | ⟨c4, h⟩
  · have h := Option.some.inj h
    subst h
    exact go_ret hΘ hm hP hn (hs := [⟨3, .callV [] (B r2), none⟩, ⟨5, .no, some (B true)⟩]) (rh := []) (ph := .agg [.own, .raw]) (ps := [Meets Try.prog 43 [(AV.ro 1 (p1.map r68))] (B r2), litA (B r2) = true, (B (!r2)) = (B true), (B false) = (B false), litA (B false) = true]) (by kernel_rfl) ⟨(impl_GoodLitmus_m hr2), rfl, (litB c3), rfl, rfl, trivial⟩
  · obtain ⟨r5, hr5, h⟩ := bnS h
    rcases itS h with ⟨c6, h⟩ | ⟨c7, h⟩
    · have h := Option.some.inj h
      subst h
      exact go_ret hΘ hm hP hn (hs := [⟨3, .callV [] (B r2), none⟩, ⟨5, .no, some (B false)⟩, ⟨7, .callV [] (B r5), none⟩, ⟨9, .br true, none⟩]) (rh := []) (ph := .agg [.own, .raw]) (ps := [Meets Try.prog 43 [(AV.ro 1 (p1.map r68))] (B r2), litA (B r2) = true, (B (!r2)) = (B false), Meets Try.prog 44 [(AV.ro 1 (p1.map r68)), (AV.fn 45 [])] (B r5), litA (B r5) = true, r5 = true, (B false) = (B false), litA (B false) = true]) (by kernel_rfl) ⟨(impl_GoodLitmus_m hr2), rfl, (litB c4), (slices_ContainsFunc_Act_Act_44__impl_FencedOf_1_m hr5), rfl, c6, rfl, rfl, trivial⟩
    · exact go_to hΘ hm hx hP hn (hs := [⟨3, .callV [] (B r2), none⟩, ⟨5, .no, some (B false)⟩, ⟨7, .callV [] (B r5), none⟩, ⟨9, .br false, none⟩, ⟨10, .new 1001, none⟩, ⟨13, .no, some (I (p1.length : Int))⟩]) (π := [(1001, 1)]) (ts := [4, 18, 19, 20]) (kp := []) (ps := [Meets Try.prog 43 [(AV.ro 1 (p1.map r68))] (B r2), litA (B r2) = true, (B (!r2)) = (B false), Meets Try.prog 44 [(AV.ro 1 (p1.map r68)), (AV.fn 45 [])] (B r5), litA (B r5) = true, r5 = false, AV.lit (.int .i64 (((p1.map r68).length : Nat) : Int)) = (I (p1.length : Int)), RenOK [(1001, 1)] ([].map o68)]) (by kernel_rfl) ⟨(impl_GoodLitmus_m hr2), rfl, (litB c4), (slices_ContainsFunc_Act_Act_44__impl_FencedOf_1_m hr5), rfl, c7, (lenM r68), (rok (treeM t68)), trivial⟩ (impl_FencedOf_l0_m hP hn hx p1 FU [] 0 _ h)
noncomputable def body106 : Code := match Try.f106.body with | some c => c | none => .skip
noncomputable def laws_sameFloat_j0  (p1 : Nat) (p2 : Nat)  : Option Bool :=
  if ((fcmp p1 0) == some .eq) = true then
    if ((fcmp p2 0) == some .eq) = true then
      Option.bind (fdv 4607182418800017408 p1) fun x13 =>
      Option.bind (fdv 4607182418800017408 p2) fun x14 =>
      some (((fcmp x13 0) == some .gt) == ((fcmp x14 0) == some .gt))
    else
      some ((fcmp p1 p2) == some .eq)
  else
    some ((fcmp p1 p2) == some .eq)
theorem laws_sameFloat_j0_m {E : Env} (hP : E.P = Try.prog) (hn : E.n = 37) (hx : ∀ p, p ∈ E.fx → p.1 ∈ ([] : List Nat)) (p1 : Nat) (p2 : Nat)   (r : Bool) (h : laws_sameFloat_j0 p1 p2  = some r) : WAt E body106 (FQ (RetE Θ Try.f106.results.toList [] [] (B r) E)) [true, false, true, true] ⟨[(0, (FK p1)), (1, (FK p2))], [], [JJ]⟩ := by
  have hm : E.P.follows .mixedOrders = true := by rw [hP]; exact mixed
  have hΘ : TOK E.P Θ := by rw [hP]; exact Θ_ok
  unfold laws_sameFloat_j0 at h
  rcases itS h with ⟨c11, h⟩ | ⟨c16, h⟩
  · rcases itS h with ⟨c12, h⟩ | ⟨c15, h⟩
    · obtain ⟨x13, hx13, h⟩ := bnS h
      obtain ⟨x14, hx14, h⟩ := bnS h
      have h := Option.some.inj h
      subst h
      exact go_ret hΘ hm hP hn (hs := [⟨1, .bin (B ((fcmp p1 0) == some .eq)), none⟩, ⟨2, .no, some (B true)⟩, ⟨4, .bin (B ((fcmp p2 0) == some .eq)), none⟩, ⟨6, .br true, none⟩, ⟨8, .bin (FK x13), none⟩, ⟨9, .bin (B ((fcmp x13 0) == some .gt)), none⟩, ⟨11, .bin (FK x14), none⟩, ⟨12, .bin (B ((fcmp x14 0) == some .gt)), none⟩]) (rh := []) (ph := .raw) (ps := [BinS Try.prog .eql 69 (FK p1) (FK 0) (B ((fcmp p1 0) == some .eq)), (B ((fcmp p1 0) == some .eq)) = (B true), BinS Try.prog .eql 69 (FK p2) (FK 0) (B ((fcmp p2 0) == some .eq)), ((fcmp p2 0) == some .eq) = true, BinS Try.prog .quo 69 (FK 4607182418800017408) (FK p1) (FK x13), BinS Try.prog .gtr 69 (FK x13) (FK 0) (B ((fcmp x13 0) == some .gt)), BinS Try.prog .quo 69 (FK 4607182418800017408) (FK p2) (FK x14), BinS Try.prog .gtr 69 (FK x14) (FK 0) (B ((fcmp x14 0) == some .gt)), (B (((fcmp x13 0) == some .gt) == ((fcmp x14 0) == some .gt))) = (B (((fcmp x13 0) == some .gt) == ((fcmp x14 0) == some .gt))), litA (B (((fcmp x13 0) == some .gt) == ((fcmp x14 0) == some .gt))) = true]) (by kernel_rfl) ⟨fEql, (litB c11), fEql, c12, (fQuo hx13), fGtr, (fQuo hx14), fGtr, rfl, rfl, trivial⟩
    · have h := Option.some.inj h
      subst h
      exact go_ret hΘ hm hP hn (hs := [⟨1, .bin (B ((fcmp p1 0) == some .eq)), none⟩, ⟨2, .no, some (B true)⟩, ⟨4, .bin (B ((fcmp p2 0) == some .eq)), none⟩, ⟨6, .br false, none⟩, ⟨9, .bin (B ((fcmp p1 p2) == some .eq)), none⟩]) (rh := []) (ph := .raw) (ps := [BinS Try.prog .eql 69 (FK p1) (FK 0) (B ((fcmp p1 0) == some .eq)), (B ((fcmp p1 0) == some .eq)) = (B true), BinS Try.prog .eql 69 (FK p2) (FK 0) (B ((fcmp p2 0) == some .eq)), ((fcmp p2 0) == some .eq) = false, BinS Try.prog .eql 69 (FK p1) (FK p2) (B ((fcmp p1 p2) == some .eq)), (B ((fcmp p1 p2) == some .eq)) = (B ((fcmp p1 p2) == some .eq)), litA (B ((fcmp p1 p2) == some .eq)) = true]) (by kernel_rfl) ⟨fEql, (litB c11), fEql, c15, fEql, rfl, rfl, trivial⟩
  · have h := Option.some.inj h
    subst h
    exact go_ret hΘ hm hP hn (hs := [⟨1, .bin (B ((fcmp p1 0) == some .eq)), none⟩, ⟨2, .no, some (B false)⟩, ⟨9, .bin (B ((fcmp p1 p2) == some .eq)), none⟩]) (rh := []) (ph := .raw) (ps := [BinS Try.prog .eql 69 (FK p1) (FK 0) (B ((fcmp p1 0) == some .eq)), (B ((fcmp p1 0) == some .eq)) = (B false), BinS Try.prog .eql 69 (FK p1) (FK p2) (B ((fcmp p1 p2) == some .eq)), (B ((fcmp p1 p2) == some .eq)) = (B ((fcmp p1 p2) == some .eq)), litA (B ((fcmp p1 p2) == some .eq)) = true]) (by kernel_rfl) ⟨fEql, (litB c16), fEql, rfl, rfl, trivial⟩
noncomputable def laws_sameFloat (p1 : Nat) (p2 : Nat) : Option Bool :=
  if ((fcmp p1 p1) != some .eq) = true then
    if ((fcmp p1 p1) != some .eq) = true then
      some ((fcmp p2 p2) != some .eq)
    else
      some false
  else
    if ((fcmp p2 p2) != some .eq) = true then
      if ((fcmp p1 p1) != some .eq) = true then
        some ((fcmp p2 p2) != some .eq)
      else
        some false
    else
      laws_sameFloat_j0 p1 p2
theorem laws_sameFloat_m {p1 : Nat} {p2 : Nat} {r : Bool} (h : laws_sameFloat p1 p2 = some r) : Meets Try.prog 106 [(FK p1), (FK p2)] (B r) := by
  refine meets_ofC Θ_ok Try.func106 rfl (c := body106) (by kernel_rfl) (Nat.le_of_ble_eq_true rfl) ?_
  intro E hP hn hx
  replace hn : E.n = 37 := hn
  have hm : E.P.follows .mixedOrders = true := by rw [hP]; exact mixed
  have hΘ : TOK E.P Θ := by rw [hP]; exact Θ_ok
  unfold laws_sameFloat at h
  show WAt E body106 (FQ (RetE Θ Try.f106.results.toList [] [] (B r) E)) [] ⟨[(0, (FK p1)), (1, (FK p2))], [], [JJ]⟩
  rcases itS h with ⟨c3, h⟩ | ⟨c6, h⟩
  · rcases itS h with ⟨c4, h⟩ | ⟨c5, h⟩
    · have h := Option.some.inj h
      subst h
      exact go_ret hΘ hm hP hn (hs := [⟨3, .bin (B ((fcmp p1 p1) != some .eq)), none⟩, ⟨4, .no, some (B true)⟩, ⟨12, .bin (B ((fcmp p1 p1) != some .eq)), none⟩, ⟨13, .no, some (B true)⟩, ⟨16, .bin (B ((fcmp p2 p2) != some .eq)), none⟩]) (rh := []) (ph := .raw) (ps := [BinS Try.prog .neq 69 (FK p1) (FK p1) (B ((fcmp p1 p1) != some .eq)), (B ((fcmp p1 p1) != some .eq)) = (B true), BinS Try.prog .neq 69 (FK p1) (FK p1) (B ((fcmp p1 p1) != some .eq)), (B ((fcmp p1 p1) != some .eq)) = (B true), BinS Try.prog .neq 69 (FK p2) (FK p2) (B ((fcmp p2 p2) != some .eq)), (B ((fcmp p2 p2) != some .eq)) = (B ((fcmp p2 p2) != some .eq)), litA (B ((fcmp p2 p2) != some .eq)) = true]) (by kernel_rfl) ⟨fNeq, (litB c3), fNeq, (litB c4), fNeq, rfl, rfl, trivial⟩
    · have h := Option.some.inj h
      subst h
      exact go_ret hΘ hm hP hn (hs := [⟨3, .bin (B ((fcmp p1 p1) != some .eq)), none⟩, ⟨4, .no, some (B true)⟩, ⟨12, .bin (B ((fcmp p1 p1) != some .eq)), none⟩, ⟨13, .no, some (B false)⟩]) (rh := []) (ph := .raw) (ps := [BinS Try.prog .neq 69 (FK p1) (FK p1) (B ((fcmp p1 p1) != some .eq)), (B ((fcmp p1 p1) != some .eq)) = (B true), BinS Try.prog .neq 69 (FK p1) (FK p1) (B ((fcmp p1 p1) != some .eq)), (B ((fcmp p1 p1) != some .eq)) = (B false), (B false) = (B false), litA (B false) = true]) (by kernel_rfl) ⟨fNeq, (litB c3), fNeq, (litB c5), rfl, rfl, trivial⟩
  · rcases itS h with ⟨c7, h⟩ | ⟨c10, h⟩
    · rcases itS h with ⟨c8, h⟩ | ⟨c9, h⟩
      · have h := Option.some.inj h
        subst h
        exact go_ret hΘ hm hP hn (hs := [⟨3, .bin (B ((fcmp p1 p1) != some .eq)), none⟩, ⟨4, .no, some (B false)⟩, ⟨7, .bin (B ((fcmp p2 p2) != some .eq)), none⟩, ⟨9, .br true, none⟩, ⟨12, .bin (B ((fcmp p1 p1) != some .eq)), none⟩, ⟨13, .no, some (B true)⟩, ⟨16, .bin (B ((fcmp p2 p2) != some .eq)), none⟩]) (rh := []) (ph := .raw) (ps := [BinS Try.prog .neq 69 (FK p1) (FK p1) (B ((fcmp p1 p1) != some .eq)), (B ((fcmp p1 p1) != some .eq)) = (B false), BinS Try.prog .neq 69 (FK p2) (FK p2) (B ((fcmp p2 p2) != some .eq)), ((fcmp p2 p2) != some .eq) = true, BinS Try.prog .neq 69 (FK p1) (FK p1) (B ((fcmp p1 p1) != some .eq)), (B ((fcmp p1 p1) != some .eq)) = (B true), BinS Try.prog .neq 69 (FK p2) (FK p2) (B ((fcmp p2 p2) != some .eq)), (B ((fcmp p2 p2) != some .eq)) = (B ((fcmp p2 p2) != some .eq)), litA (B ((fcmp p2 p2) != some .eq)) = true]) (by kernel_rfl) ⟨fNeq, (litB c6), fNeq, c7, fNeq, (litB c8), fNeq, rfl, rfl, trivial⟩
      · have h := Option.some.inj h
        subst h
        exact go_ret hΘ hm hP hn (hs := [⟨3, .bin (B ((fcmp p1 p1) != some .eq)), none⟩, ⟨4, .no, some (B false)⟩, ⟨7, .bin (B ((fcmp p2 p2) != some .eq)), none⟩, ⟨9, .br true, none⟩, ⟨12, .bin (B ((fcmp p1 p1) != some .eq)), none⟩, ⟨13, .no, some (B false)⟩]) (rh := []) (ph := .raw) (ps := [BinS Try.prog .neq 69 (FK p1) (FK p1) (B ((fcmp p1 p1) != some .eq)), (B ((fcmp p1 p1) != some .eq)) = (B false), BinS Try.prog .neq 69 (FK p2) (FK p2) (B ((fcmp p2 p2) != some .eq)), ((fcmp p2 p2) != some .eq) = true, BinS Try.prog .neq 69 (FK p1) (FK p1) (B ((fcmp p1 p1) != some .eq)), (B ((fcmp p1 p1) != some .eq)) = (B false), (B false) = (B false), litA (B false) = true]) (by kernel_rfl) ⟨fNeq, (litB c6), fNeq, c7, fNeq, (litB c9), rfl, rfl, trivial⟩
    · exact go_to hΘ hm hx hP hn (hs := [⟨3, .bin (B ((fcmp p1 p1) != some .eq)), none⟩, ⟨4, .no, some (B false)⟩, ⟨7, .bin (B ((fcmp p2 p2) != some .eq)), none⟩, ⟨9, .br false, none⟩]) (π := []) (ts := [0, 1]) (kp := []) (ps := [BinS Try.prog .neq 69 (FK p1) (FK p1) (B ((fcmp p1 p1) != some .eq)), (B ((fcmp p1 p1) != some .eq)) = (B false), BinS Try.prog .neq 69 (FK p2) (FK p2) (B ((fcmp p2 p2) != some .eq)), ((fcmp p2 p2) != some .eq) = false]) (by kernel_rfl) ⟨fNeq, (litB c6), fNeq, c10, trivial⟩ (laws_sameFloat_j0_m hP hn hx p1 p2  _ h)
noncomputable def body77 : Code := match Try.f77.body with | some c => c | none => .skip
noncomputable def laws_eqAct (p1 : GAct) (p2 : GAct) : Option Bool :=
  if (p1.Kind != p2.Kind) = true then
    some false
  else
    if (p1.Cell != p2.Cell) = true then
      some false
    else
      Option.bind (laws_sameFloat p1.V p2.V) fun r7 =>
      if (!r7) = true then
        some false
      else
        some true
theorem laws_eqAct_m {p1 : GAct} {p2 : GAct} {r : Bool} (h : laws_eqAct p1 p2 = some r) : Meets Try.prog 77 [(AV.agg ((o71 p1))), (AV.agg ((o71 p2)))] (B r) := by
  refine meets_ofC Θ_ok Try.func77 rfl (c := body77) (by kernel_rfl) (Nat.le_of_ble_eq_true rfl) ?_
  intro E hP hn hx
  replace hn : E.n = 21 := hn
  have hm : E.P.follows .mixedOrders = true := by rw [hP]; exact mixed
  have hΘ : TOK E.P Θ := by rw [hP]; exact Θ_ok
  unfold laws_eqAct at h
  show WAt E body77 (FQ (RetE Θ Try.f77.results.toList [] [] (B r) E)) [] ⟨[(0, (AV.agg ((o71 p1)))), (1, (AV.agg ((o71 p2))))], [], [JJ]⟩
  rcases itS h with ⟨c3, h⟩ | ⟨c4, h⟩
  · have h := Option.some.inj h
    subst h
    exact go_ret hΘ hm hP hn (hs := [⟨0, .new 1001, none⟩, ⟨1, .new 1002, none⟩, ⟨8, .br true, none⟩]) (rh := []) (ph := .raw) (ps := [(p1.Kind != p2.Kind) = true, (B false) = (B false), litA (B false) = true]) (by kernel_rfl) ⟨c3, rfl, rfl, trivial⟩
  · rcases itS h with ⟨c5, h⟩ | ⟨c6, h⟩
    · have h := Option.some.inj h
      subst h
      exact go_ret hΘ hm hP hn (hs := [⟨0, .new 1001, none⟩, ⟨1, .new 1002, none⟩, ⟨8, .br false, none⟩, ⟨14, .br true, none⟩]) (rh := []) (ph := .raw) (ps := [(p1.Kind != p2.Kind) = false, (p1.Cell != p2.Cell) = true, (B false) = (B false), litA (B false) = true]) (by kernel_rfl) ⟨c4, c5, rfl, rfl, trivial⟩
    · obtain ⟨r7, hr7, h⟩ := bnS h
      rcases itS h with ⟨c8, h⟩ | ⟨c9, h⟩
      · have h := Option.some.inj h
        subst h
        exact go_ret hΘ hm hP hn (hs := [⟨0, .new 1001, none⟩, ⟨1, .new 1002, none⟩, ⟨8, .br false, none⟩, ⟨14, .br false, none⟩, ⟨19, .callV [] (B r7), none⟩, ⟨21, .br true, none⟩]) (rh := []) (ph := .raw) (ps := [(p1.Kind != p2.Kind) = false, (p1.Cell != p2.Cell) = false, Meets Try.prog 106 [(FK p1.V), (FK p2.V)] (B r7), litA (B r7) = true, (!r7) = true, (B false) = (B false), litA (B false) = true]) (by kernel_rfl) ⟨c4, c6, (laws_sameFloat_m hr7), rfl, c8, rfl, rfl, trivial⟩
      · have h := Option.some.inj h
        subst h
        exact go_ret hΘ hm hP hn (hs := [⟨0, .new 1001, none⟩, ⟨1, .new 1002, none⟩, ⟨8, .br false, none⟩, ⟨14, .br false, none⟩, ⟨19, .callV [] (B r7), none⟩, ⟨21, .br false, none⟩]) (rh := []) (ph := .raw) (ps := [(p1.Kind != p2.Kind) = false, (p1.Cell != p2.Cell) = false, Meets Try.prog 106 [(FK p1.V), (FK p2.V)] (B r7), litA (B r7) = true, (!r7) = false, (B true) = (B true), litA (B true) = true]) (by kernel_rfl) ⟨c4, c6, (laws_sameFloat_m hr7), rfl, c9, rfl, rfl, trivial⟩
noncomputable def body46 : Code := match Try.f46.body with | some c => c | none => .skip
noncomputable def laws_eqActS_l0  (p1 : (List GAct)) (p2 : (List GAct)) : Nat → Int → Option Bool
  | 0, _ => none
  | n + 1, v5 =>
  if (decide (v5 < (p1.length : Int))) = true then
    Option.bind (rd p1 v5) fun x7 =>
    Option.bind (rd p2 v5) fun x8 =>
    Option.bind (laws_eqAct x7 x8) fun r9 =>
    if (!r9) = true then
      some false
    else
      laws_eqActS_l0 p1 p2 n (w64 (v5 + 1))
  else
    some true
theorem laws_eqActS_l0_m {E : Env} (hP : E.P = Try.prog) (hn : E.n = 27) (hx : ∀ p, p ∈ E.fx → p.1 ∈ ([] : List Nat)) (p1 : (List GAct)) (p2 : (List GAct))  : ∀ (n : Nat) (v5 : Int) (r : Bool), laws_eqActS_l0 p1 p2 n v5 = some r → WAt E body46 (FQ (RetE Θ Try.f46.results.toList [] [] (B r) E)) [true, true, false, true, false] ⟨[(0, (AV.ro 3 (p1.map o71))), (1, (AV.ro 3 (p2.map o71))), (5, (I v5))], [], [JJ]⟩ := by
  have hm : E.P.follows .mixedOrders = true := by rw [hP]; exact mixed
  have hΘ : TOK E.P Θ := by rw [hP]; exact Θ_ok
  intro n
  induction n with
  | zero => intro v5 r h; simp only [laws_eqActS_l0] at h; cases h
  | succ n ih =>
    intro v5 r h
    simp only [laws_eqActS_l0] at h
    rcases itS h with ⟨c6, h⟩ | ⟨c12, h⟩
    · obtain ⟨x7, hx7, h⟩ := bnS h
      obtain ⟨x8, hx8, h⟩ := bnS h
      obtain ⟨r9, hr9, h⟩ := bnS h
      rcases itS h with ⟨c10, h⟩ | ⟨c11, h⟩
      · have h := Option.some.inj h
        subst h
        exact go_ret hΘ hm hP hn (hs := [⟨2, .no, some (I (p1.length : Int))⟩, ⟨4, .br true, none⟩, ⟨7, .row (o71 x7), none⟩, ⟨11, .row (o71 x8), none⟩, ⟨13, .callV [[], []] (B r9), none⟩, ⟨15, .br true, none⟩]) (rh := []) (ph := .raw) (ps := [AV.lit (.int .i64 (((p1.map o71).length : Nat) : Int)) = (I (p1.length : Int)), (decide (v5 < (p1.length : Int))) = true, (0 : Int) ≤ v5, (p1.map o71)[(Int.toNat v5)]? = some (o71 x7), (0 : Int) ≤ v5, (p2.map o71)[(Int.toNat v5)]? = some (o71 x8), Meets Try.prog 77 [(AV.agg ((o71 x7))), (AV.agg ((o71 x8)))] (B r9), litA (B r9) = true, (!r9) = true, (B false) = (B false), litA (B false) = true]) (by kernel_rfl) ⟨(lenM o71), c6, (rd0 hx7), (rdM o71 hx7), (rd0 hx8), (rdM o71 hx8), (laws_eqAct_m hr9), rfl, c10, rfl, rfl, trivial⟩
      · exact go_to hΘ hm hx hP hn (hs := [⟨2, .no, some (I (p1.length : Int))⟩, ⟨4, .br true, none⟩, ⟨7, .row (o71 x7), none⟩, ⟨11, .row (o71 x8), none⟩, ⟨13, .callV [[], []] (B r9), none⟩, ⟨15, .br false, none⟩]) (π := []) (ts := [0, 1, 5]) (kp := []) (ps := [AV.lit (.int .i64 (((p1.map o71).length : Nat) : Int)) = (I (p1.length : Int)), (decide (v5 < (p1.length : Int))) = true, (0 : Int) ≤ v5, (p1.map o71)[(Int.toNat v5)]? = some (o71 x7), (0 : Int) ≤ v5, (p2.map o71)[(Int.toNat v5)]? = some (o71 x8), Meets Try.prog 77 [(AV.agg ((o71 x7))), (AV.agg ((o71 x8)))] (B r9), litA (B r9) = true, (!r9) = false]) (by kernel_rfl) ⟨(lenM o71), c6, (rd0 hx7), (rdM o71 hx7), (rd0 hx8), (rdM o71 hx8), (laws_eqAct_m hr9), rfl, c11, trivial⟩ (ih (w64 (v5 + 1)) _ h)
    · have h := Option.some.inj h
      subst h
      exact go_ret hΘ hm hP hn (hs := [⟨2, .no, some (I (p1.length : Int))⟩, ⟨4, .br false, none⟩]) (rh := []) (ph := .raw) (ps := [AV.lit (.int .i64 (((p1.map o71).length : Nat) : Int)) = (I (p1.length : Int)), (decide (v5 < (p1.length : Int))) = false, (B true) = (B true), litA (B true) = true]) (by kernel_rfl) ⟨(lenM o71), c12, rfl, rfl, trivial⟩
noncomputable def laws_eqActS (p1 : (List GAct)) (p2 : (List GAct)) : Option Bool :=
  if ((p1.length : Int) != (p2.length : Int)) = true then
    some false
  else
    laws_eqActS_l0 p1 p2 FU 0
theorem laws_eqActS_m {p1 : (List GAct)} {p2 : (List GAct)} {r : Bool} (h : laws_eqActS p1 p2 = some r) : Meets Try.prog 46 [(AV.ro 3 (p1.map o71)), (AV.ro 3 (p2.map o71))] (B r) := by
  refine meets_ofC Θ_ok Try.func46 rfl (c := body46) (by kernel_rfl) (Nat.le_of_ble_eq_true rfl) ?_
  intro E hP hn hx
  replace hn : E.n = 27 := hn
  have hm : E.P.follows .mixedOrders = true := by rw [hP]; exact mixed
  have hΘ : TOK E.P Θ := by rw [hP]; exact Θ_ok
  unfold laws_eqActS at h
  show WAt E body46 (FQ (RetE Θ Try.f46.results.toList [] [] (B r) E)) [] ⟨[(0, (AV.ro 3 (p1.map o71))), (1, (AV.ro 3 (p2.map o71)))], [], [JJ]⟩
  rcases itS h with ⟨c3, h⟩ | ⟨c4, h⟩
  · have h := Option.some.inj h
    subst h
    exact go_ret hΘ hm hP hn (hs := [⟨2, .no, some (I (p1.length : Int))⟩, ⟨4, .no, some (I (p2.length : Int))⟩, ⟨6, .br true, none⟩]) (rh := []) (ph := .raw) (ps := [AV.lit (.int .i64 (((p1.map o71).length : Nat) : Int)) = (I (p1.length : Int)), AV.lit (.int .i64 (((p2.map o71).length : Nat) : Int)) = (I (p2.length : Int)), ((p1.length : Int) != (p2.length : Int)) = true, (B false) = (B false), litA (B false) = true]) (by kernel_rfl) ⟨(lenM o71), (lenM o71), c3, rfl, rfl, trivial⟩
  · exact go_to hΘ hm hx hP hn (hs := [⟨2, .no, some (I (p1.length : Int))⟩, ⟨4, .no, some (I (p2.length : Int))⟩, ⟨6, .br false, none⟩]) (π := []) (ts := [0, 1, 5]) (kp := []) (ps := [AV.lit (.int .i64 (((p1.map o71).length : Nat) : Int)) = (I (p1.length : Int)), AV.lit (.int .i64 (((p2.map o71).length : Nat) : Int)) = (I (p2.length : Int)), ((p1.length : Int) != (p2.length : Int)) = false]) (by kernel_rfl) ⟨(lenM o71), (lenM o71), c4, trivial⟩ (laws_eqActS_l0_m hP hn hx p1 p2 FU 0 _ h)
noncomputable def body13 : Code := match Try.f13.body with | some c => c | none => .skip
noncomputable def laws_eqActSS_l0  (p1 : (List (List GAct))) (p2 : (List (List GAct))) : Nat → Int → Option Bool
  | 0, _ => none
  | n + 1, v5 =>
  if (decide (v5 < (p1.length : Int))) = true then
    Option.bind (rd p1 v5) fun x7 =>
    Option.bind (rd p2 v5) fun x8 =>
    Option.bind (laws_eqActS x7 x8) fun r9 =>
    if (!r9) = true then
      some false
    else
      laws_eqActSS_l0 p1 p2 n (w64 (v5 + 1))
  else
    some true
theorem laws_eqActSS_l0_m {E : Env} (hP : E.P = Try.prog) (hn : E.n = 27) (hx : ∀ p, p ∈ E.fx → p.1 ∈ ([] : List Nat)) (p1 : (List (List GAct))) (p2 : (List (List GAct)))  : ∀ (n : Nat) (v5 : Int) (r : Bool), laws_eqActSS_l0 p1 p2 n v5 = some r → WAt E body13 (FQ (RetE Θ Try.f13.results.toList [] [] (B r) E)) [true, true, false, true, false] ⟨[(0, (AV.ro 1 (p1.map r68))), (1, (AV.ro 1 (p2.map r68))), (5, (I v5))], [], [JJ]⟩ := by
  have hm : E.P.follows .mixedOrders = true := by rw [hP]; exact mixed
  have hΘ : TOK E.P Θ := by rw [hP]; exact Θ_ok
  intro n
  induction n with
  | zero => intro v5 r h; simp only [laws_eqActSS_l0] at h; cases h
  | succ n ih =>
    intro v5 r h
    simp only [laws_eqActSS_l0] at h
    rcases itS h with ⟨c6, h⟩ | ⟨c12, h⟩
    · obtain ⟨x7, hx7, h⟩ := bnS h
      obtain ⟨x8, hx8, h⟩ := bnS h
      obtain ⟨r9, hr9, h⟩ := bnS h
      rcases itS h with ⟨c10, h⟩ | ⟨c11, h⟩
      · have h := Option.some.inj h
        subst h
        exact go_ret hΘ hm hP hn (hs := [⟨2, .no, some (I (p1.length : Int))⟩, ⟨4, .br true, none⟩, ⟨7, .row (r68 x7), none⟩, ⟨11, .row (r68 x8), none⟩, ⟨13, .callV [] (B r9), none⟩, ⟨15, .br true, none⟩]) (rh := []) (ph := .raw) (ps := [AV.lit (.int .i64 (((p1.map r68).length : Nat) : Int)) = (I (p1.length : Int)), (decide (v5 < (p1.length : Int))) = true, (0 : Int) ≤ v5, (p1.map r68)[(Int.toNat v5)]? = some (r68 x7), (0 : Int) ≤ v5, (p2.map r68)[(Int.toNat v5)]? = some (r68 x8), Meets Try.prog 46 [(AV.ro 3 (x7.map o71)), (AV.ro 3 (x8.map o71))] (B r9), litA (B r9) = true, (!r9) = true, (B false) = (B false), litA (B false) = true]) (by kernel_rfl) ⟨(lenM r68), c6, (rd0 hx7), (rdM r68 hx7), (rd0 hx8), (rdM r68 hx8), (laws_eqActS_m hr9), rfl, c10, rfl, rfl, trivial⟩
      · exact go_to hΘ hm hx hP hn (hs := [⟨2, .no, some (I (p1.length : Int))⟩, ⟨4, .br true, none⟩, ⟨7, .row (r68 x7), none⟩, ⟨11, .row (r68 x8), none⟩, ⟨13, .callV [] (B r9), none⟩, ⟨15, .br false, none⟩]) (π := []) (ts := [0, 1, 5]) (kp := []) (ps := [AV.lit (.int .i64 (((p1.map r68).length : Nat) : Int)) = (I (p1.length : Int)), (decide (v5 < (p1.length : Int))) = true, (0 : Int) ≤ v5, (p1.map r68)[(Int.toNat v5)]? = some (r68 x7), (0 : Int) ≤ v5, (p2.map r68)[(Int.toNat v5)]? = some (r68 x8), Meets Try.prog 46 [(AV.ro 3 (x7.map o71)), (AV.ro 3 (x8.map o71))] (B r9), litA (B r9) = true, (!r9) = false]) (by kernel_rfl) ⟨(lenM r68), c6, (rd0 hx7), (rdM r68 hx7), (rd0 hx8), (rdM r68 hx8), (laws_eqActS_m hr9), rfl, c11, trivial⟩ (ih (w64 (v5 + 1)) _ h)
    · have h := Option.some.inj h
      subst h
      exact go_ret hΘ hm hP hn (hs := [⟨2, .no, some (I (p1.length : Int))⟩, ⟨4, .br false, none⟩]) (rh := []) (ph := .raw) (ps := [AV.lit (.int .i64 (((p1.map r68).length : Nat) : Int)) = (I (p1.length : Int)), (decide (v5 < (p1.length : Int))) = false, (B true) = (B true), litA (B true) = true]) (by kernel_rfl) ⟨(lenM r68), c12, rfl, rfl, trivial⟩
noncomputable def laws_eqActSS (p1 : (List (List GAct))) (p2 : (List (List GAct))) : Option Bool :=
  if ((p1.length : Int) != (p2.length : Int)) = true then
    some false
  else
    laws_eqActSS_l0 p1 p2 FU 0
theorem laws_eqActSS_m {p1 : (List (List GAct))} {p2 : (List (List GAct))} {r : Bool} (h : laws_eqActSS p1 p2 = some r) : Meets Try.prog 13 [(AV.ro 1 (p1.map r68)), (AV.ro 1 (p2.map r68))] (B r) := by
  refine meets_ofC Θ_ok Try.func13 rfl (c := body13) (by kernel_rfl) (Nat.le_of_ble_eq_true rfl) ?_
  intro E hP hn hx
  replace hn : E.n = 27 := hn
  have hm : E.P.follows .mixedOrders = true := by rw [hP]; exact mixed
  have hΘ : TOK E.P Θ := by rw [hP]; exact Θ_ok
  unfold laws_eqActSS at h
  show WAt E body13 (FQ (RetE Θ Try.f13.results.toList [] [] (B r) E)) [] ⟨[(0, (AV.ro 1 (p1.map r68))), (1, (AV.ro 1 (p2.map r68)))], [], [JJ]⟩
  rcases itS h with ⟨c3, h⟩ | ⟨c4, h⟩
  · have h := Option.some.inj h
    subst h
    exact go_ret hΘ hm hP hn (hs := [⟨2, .no, some (I (p1.length : Int))⟩, ⟨4, .no, some (I (p2.length : Int))⟩, ⟨6, .br true, none⟩]) (rh := []) (ph := .raw) (ps := [AV.lit (.int .i64 (((p1.map r68).length : Nat) : Int)) = (I (p1.length : Int)), AV.lit (.int .i64 (((p2.map r68).length : Nat) : Int)) = (I (p2.length : Int)), ((p1.length : Int) != (p2.length : Int)) = true, (B false) = (B false), litA (B false) = true]) (by kernel_rfl) ⟨(lenM r68), (lenM r68), c3, rfl, rfl, trivial⟩
  · exact go_to hΘ hm hx hP hn (hs := [⟨2, .no, some (I (p1.length : Int))⟩, ⟨4, .no, some (I (p2.length : Int))⟩, ⟨6, .br false, none⟩]) (π := []) (ts := [0, 1, 5]) (kp := []) (ps := [AV.lit (.int .i64 (((p1.map r68).length : Nat) : Int)) = (I (p1.length : Int)), AV.lit (.int .i64 (((p2.map r68).length : Nat) : Int)) = (I (p2.length : Int)), ((p1.length : Int) != (p2.length : Int)) = false]) (by kernel_rfl) ⟨(lenM r68), (lenM r68), c4, trivial⟩ (laws_eqActSS_l0_m hP hn hx p1 p2 FU 0 _ h)
noncomputable def body48 : Code := match Try.f48.body with | some c => c | none => .skip
noncomputable def laws_heldActS_l0  (p1 : (List GAct)) : Nat → Int → Int → Option Int
  | 0, _, _ => none
  | n + 1, v3, v4 =>
  if (decide (v4 < (p1.length : Int))) = true then
    Option.bind (rd p1 v4) fun x6 =>
    if (x6.Kind != v3) = true then
      some (-1)
    else
      if (x6.Cell != (w64 (v3 + 1))) = true then
        some (-1)
      else
        if ((fcmp x6.V (fOf (w64 ((w64 (v3 + 1)) + 1)))) != some .eq) = true then
          some (-1)
        else
          laws_heldActS_l0 p1 n (w64 ((w64 ((w64 (v3 + 1)) + 1)) + 1)) (w64 (v4 + 1))
  else
    some v3
theorem laws_heldActS_l0_m {E : Env} (hP : E.P = Try.prog) (hn : E.n = 41) (hx : ∀ p, p ∈ E.fx → p.1 ∈ ([] : List Nat)) (p1 : (List GAct))  : ∀ (n : Nat) (v3 : Int) (v4 : Int) (r : Int), laws_heldActS_l0 p1 n v3 v4 = some r → WAt E body48 (FQ (RetE Θ Try.f48.results.toList [] [] (I r) E)) [true, false, true, false] ⟨[(0, (AV.ro 3 (p1.map o71))), (1, (I v3)), (5, (I v4))], [], [JJ]⟩ := by
  have hm : E.P.follows .mixedOrders = true := by rw [hP]; exact mixed
  have hΘ : TOK E.P Θ := by rw [hP]; exact Θ_ok
  intro n
  induction n with
  | zero => intro v3 v4 r h; simp only [laws_heldActS_l0] at h; cases h
  | succ n ih =>
    intro v3 v4 r h
    simp only [laws_heldActS_l0] at h
    rcases itS h with ⟨c5, h⟩ | ⟨c13, h⟩
    · obtain ⟨x6, hx6, h⟩ := bnS h
      rcases itS h with ⟨c7, h⟩ | ⟨c8, h⟩
      · have h := Option.some.inj h
        subst h
        exact go_ret hΘ hm hP hn (hs := [⟨2, .no, some (I (p1.length : Int))⟩, ⟨4, .br true, none⟩, ⟨7, .row (o71 x6), none⟩, ⟨12, .br true, none⟩]) (rh := []) (ph := .raw) (ps := [AV.lit (.int .i64 (((p1.map o71).length : Nat) : Int)) = (I (p1.length : Int)), (decide (v4 < (p1.length : Int))) = true, (0 : Int) ≤ v4, (p1.map o71)[(Int.toNat v4)]? = some (o71 x6), (x6.Kind != v3) = true, (I (-1)) = (I (-1)), litA (I (-1)) = true]) (by kernel_rfl) ⟨(lenM o71), c5, (rd0 hx6), (rdM o71 hx6), c7, rfl, rfl, trivial⟩
      · rcases itS h with ⟨c9, h⟩ | ⟨c10, h⟩
        · have h := Option.some.inj h
          subst h
          exact go_ret hΘ hm hP hn (hs := [⟨2, .no, some (I (p1.length : Int))⟩, ⟨4, .br true, none⟩, ⟨7, .row (o71 x6), none⟩, ⟨12, .br false, none⟩, ⟨18, .row (o71 x6), none⟩, ⟨23, .br true, none⟩]) (rh := []) (ph := .raw) (ps := [AV.lit (.int .i64 (((p1.map o71).length : Nat) : Int)) = (I (p1.length : Int)), (decide (v4 < (p1.length : Int))) = true, (0 : Int) ≤ v4, (p1.map o71)[(Int.toNat v4)]? = some (o71 x6), (x6.Kind != v3) = false, (0 : Int) ≤ v4, (p1.map o71)[(Int.toNat v4)]? = some (o71 x6), (x6.Cell != (w64 (v3 + 1))) = true, (I (-1)) = (I (-1)), litA (I (-1)) = true]) (by kernel_rfl) ⟨(lenM o71), c5, (rd0 hx6), (rdM o71 hx6), c8, (rd0 hx6), (rdM o71 hx6), c9, rfl, rfl, trivial⟩
        · rcases itS h with ⟨c11, h⟩ | ⟨c12, h⟩
          · have h := Option.some.inj h
            subst h
            exact go_ret hΘ hm hP hn (hs := [⟨2, .no, some (I (p1.length : Int))⟩, ⟨4, .br true, none⟩, ⟨7, .row (o71 x6), none⟩, ⟨12, .br false, none⟩, ⟨18, .row (o71 x6), none⟩, ⟨23, .br false, none⟩, ⟨29, .row (o71 x6), none⟩, ⟨33, .cnv (FK (fOf (w64 ((w64 (v3 + 1)) + 1)))), none⟩, ⟨34, .bin (B ((fcmp x6.V (fOf (w64 ((w64 (v3 + 1)) + 1)))) != some .eq)), none⟩, ⟨35, .br true, none⟩]) (rh := []) (ph := .raw) (ps := [AV.lit (.int .i64 (((p1.map o71).length : Nat) : Int)) = (I (p1.length : Int)), (decide (v4 < (p1.length : Int))) = true, (0 : Int) ≤ v4, (p1.map o71)[(Int.toNat v4)]? = some (o71 x6), (x6.Kind != v3) = false, (0 : Int) ≤ v4, (p1.map o71)[(Int.toNat v4)]? = some (o71 x6), (x6.Cell != (w64 (v3 + 1))) = false, (0 : Int) ≤ v4, (p1.map o71)[(Int.toNat v4)]? = some (o71 x6), CnvS Try.prog 3 69 (I (w64 ((w64 (v3 + 1)) + 1))) (FK (fOf (w64 ((w64 (v3 + 1)) + 1)))), BinS Try.prog .neq 69 (FK x6.V) (FK (fOf (w64 ((w64 (v3 + 1)) + 1)))) (B ((fcmp x6.V (fOf (w64 ((w64 (v3 + 1)) + 1)))) != some .eq)), ((fcmp x6.V (fOf (w64 ((w64 (v3 + 1)) + 1)))) != some .eq) = true, (I (-1)) = (I (-1)), litA (I (-1)) = true]) (by kernel_rfl) ⟨(lenM o71), c5, (rd0 hx6), (rdM o71 hx6), c8, (rd0 hx6), (rdM o71 hx6), c10, (rd0 hx6), (rdM o71 hx6), (cIF (P := Try.prog) ty3 ty69), fNeq, c11, rfl, rfl, trivial⟩
          · exact go_to hΘ hm hx hP hn (hs := [⟨2, .no, some (I (p1.length : Int))⟩, ⟨4, .br true, none⟩, ⟨7, .row (o71 x6), none⟩, ⟨12, .br false, none⟩, ⟨18, .row (o71 x6), none⟩, ⟨23, .br false, none⟩, ⟨29, .row (o71 x6), none⟩, ⟨33, .cnv (FK (fOf (w64 ((w64 (v3 + 1)) + 1)))), none⟩, ⟨34, .bin (B ((fcmp x6.V (fOf (w64 ((w64 (v3 + 1)) + 1)))) != some .eq)), none⟩, ⟨35, .br false, none⟩]) (π := []) (ts := [0, 1, 5]) (kp := []) (ps := [AV.lit (.int .i64 (((p1.map o71).length : Nat) : Int)) = (I (p1.length : Int)), (decide (v4 < (p1.length : Int))) = true, (0 : Int) ≤ v4, (p1.map o71)[(Int.toNat v4)]? = some (o71 x6), (x6.Kind != v3) = false, (0 : Int) ≤ v4, (p1.map o71)[(Int.toNat v4)]? = some (o71 x6), (x6.Cell != (w64 (v3 + 1))) = false, (0 : Int) ≤ v4, (p1.map o71)[(Int.toNat v4)]? = some (o71 x6), CnvS Try.prog 3 69 (I (w64 ((w64 (v3 + 1)) + 1))) (FK (fOf (w64 ((w64 (v3 + 1)) + 1)))), BinS Try.prog .neq 69 (FK x6.V) (FK (fOf (w64 ((w64 (v3 + 1)) + 1)))) (B ((fcmp x6.V (fOf (w64 ((w64 (v3 + 1)) + 1)))) != some .eq)), ((fcmp x6.V (fOf (w64 ((w64 (v3 + 1)) + 1)))) != some .eq) = false]) (by kernel_rfl) ⟨(lenM o71), c5, (rd0 hx6), (rdM o71 hx6), c8, (rd0 hx6), (rdM o71 hx6), c10, (rd0 hx6), (rdM o71 hx6), (cIF (P := Try.prog) ty3 ty69), fNeq, c12, trivial⟩ (ih (w64 ((w64 ((w64 (v3 + 1)) + 1)) + 1)) (w64 (v4 + 1)) _ h)
    · have h := Option.some.inj h
      subst h
      exact go_ret hΘ hm hP hn (hs := [⟨2, .no, some (I (p1.length : Int))⟩, ⟨4, .br false, none⟩]) (rh := []) (ph := .raw) (ps := [AV.lit (.int .i64 (((p1.map o71).length : Nat) : Int)) = (I (p1.length : Int)), (decide (v4 < (p1.length : Int))) = false, (I v3) = (I v3), litA (I v3) = true]) (by kernel_rfl) ⟨(lenM o71), c13, rfl, rfl, trivial⟩
noncomputable def laws_heldActS (p1 : (List GAct)) (p2 : Int) : Option Int :=
  laws_heldActS_l0 p1 FU p2 0
theorem laws_heldActS_m {p1 : (List GAct)} {p2 : Int} {r : Int} (h : laws_heldActS p1 p2 = some r) : Meets Try.prog 48 [(AV.ro 3 (p1.map o71)), (I p2)] (I r) := by
  refine meets_ofC Θ_ok Try.func48 rfl (c := body48) (by kernel_rfl) (Nat.le_of_ble_eq_true rfl) ?_
  intro E hP hn hx
  replace hn : E.n = 41 := hn
  have hm : E.P.follows .mixedOrders = true := by rw [hP]; exact mixed
  have hΘ : TOK E.P Θ := by rw [hP]; exact Θ_ok
  unfold laws_heldActS at h
  show WAt E body48 (FQ (RetE Θ Try.f48.results.toList [] [] (I r) E)) [] ⟨[(0, (AV.ro 3 (p1.map o71))), (1, (I p2))], [], [JJ]⟩
  exact go_to hΘ hm hx hP hn (hs := []) (π := []) (ts := [0, 1, 5]) (kp := []) (ps := []) (by kernel_rfl) trivial (laws_heldActS_l0_m hP hn hx p1 FU p2 0 _ h)
noncomputable def body15 : Code := match Try.f15.body with | some c => c | none => .skip
noncomputable def laws_heldActSS_l0  (p1 : (List (List GAct))) : Nat → Int → Int → Option Int
  | 0, _, _ => none
  | n + 1, v3, v4 =>
  if (decide (v4 < (p1.length : Int))) = true then
    Option.bind (rd p1 v4) fun x6 =>
    Option.bind (laws_heldActS x6 v3) fun r7 =>
    if (decide (r7 < 0)) = true then
      some (-1)
    else
      laws_heldActSS_l0 p1 n r7 (w64 (v4 + 1))
  else
    some v3
theorem laws_heldActSS_l0_m {E : Env} (hP : E.P = Try.prog) (hn : E.n = 21) (hx : ∀ p, p ∈ E.fx → p.1 ∈ ([] : List Nat)) (p1 : (List (List GAct)))  : ∀ (n : Nat) (v3 : Int) (v4 : Int) (r : Int), laws_heldActSS_l0 p1 n v3 v4 = some r → WAt E body15 (FQ (RetE Θ Try.f15.results.toList [] [] (I r) E)) [true, false, true, false] ⟨[(0, (AV.ro 1 (p1.map r68))), (1, (I v3)), (5, (I v4))], [], [JJ]⟩ := by
  have hm : E.P.follows .mixedOrders = true := by rw [hP]; exact mixed
  have hΘ : TOK E.P Θ := by rw [hP]; exact Θ_ok
  intro n
  induction n with
  | zero => intro v3 v4 r h; simp only [laws_heldActSS_l0] at h; cases h
  | succ n ih =>
    intro v3 v4 r h
    simp only [laws_heldActSS_l0] at h
    rcases itS h with ⟨c5, h⟩ | ⟨c10, h⟩
    · obtain ⟨x6, hx6, h⟩ := bnS h
      obtain ⟨r7, hr7, h⟩ := bnS h
      rcases itS h with ⟨c8, h⟩ | ⟨c9, h⟩
      · have h := Option.some.inj h
        subst h
        exact go_ret hΘ hm hP hn (hs := [⟨2, .no, some (I (p1.length : Int))⟩, ⟨4, .br true, none⟩, ⟨7, .row (r68 x6), none⟩, ⟨10, .callV [] (I r7), none⟩, ⟨14, .br true, none⟩]) (rh := []) (ph := .raw) (ps := [AV.lit (.int .i64 (((p1.map r68).length : Nat) : Int)) = (I (p1.length : Int)), (decide (v4 < (p1.length : Int))) = true, (0 : Int) ≤ v4, (p1.map r68)[(Int.toNat v4)]? = some (r68 x6), Meets Try.prog 48 [(AV.ro 3 (x6.map o71)), (I v3)] (I r7), litA (I r7) = true, (decide (r7 < 0)) = true, (I (-1)) = (I (-1)), litA (I (-1)) = true]) (by kernel_rfl) ⟨(lenM r68), c5, (rd0 hx6), (rdM r68 hx6), (laws_heldActS_m hr7), rfl, c8, rfl, rfl, trivial⟩
      · exact go_to hΘ hm hx hP hn (hs := [⟨2, .no, some (I (p1.length : Int))⟩, ⟨4, .br true, none⟩, ⟨7, .row (r68 x6), none⟩, ⟨10, .callV [] (I r7), none⟩, ⟨14, .br false, none⟩]) (π := []) (ts := [0, 1, 5]) (kp := []) (ps := [AV.lit (.int .i64 (((p1.map r68).length : Nat) : Int)) = (I (p1.length : Int)), (decide (v4 < (p1.length : Int))) = true, (0 : Int) ≤ v4, (p1.map r68)[(Int.toNat v4)]? = some (r68 x6), Meets Try.prog 48 [(AV.ro 3 (x6.map o71)), (I v3)] (I r7), litA (I r7) = true, (decide (r7 < 0)) = false]) (by kernel_rfl) ⟨(lenM r68), c5, (rd0 hx6), (rdM r68 hx6), (laws_heldActS_m hr7), rfl, c9, trivial⟩ (ih r7 (w64 (v4 + 1)) _ h)
    · have h := Option.some.inj h
      subst h
      exact go_ret hΘ hm hP hn (hs := [⟨2, .no, some (I (p1.length : Int))⟩, ⟨4, .br false, none⟩]) (rh := []) (ph := .raw) (ps := [AV.lit (.int .i64 (((p1.map r68).length : Nat) : Int)) = (I (p1.length : Int)), (decide (v4 < (p1.length : Int))) = false, (I v3) = (I v3), litA (I v3) = true]) (by kernel_rfl) ⟨(lenM r68), c10, rfl, rfl, trivial⟩
noncomputable def laws_heldActSS (p1 : (List (List GAct))) (p2 : Int) : Option Int :=
  laws_heldActSS_l0 p1 FU p2 0
theorem laws_heldActSS_m {p1 : (List (List GAct))} {p2 : Int} {r : Int} (h : laws_heldActSS p1 p2 = some r) : Meets Try.prog 15 [(AV.ro 1 (p1.map r68)), (I p2)] (I r) := by
  refine meets_ofC Θ_ok Try.func15 rfl (c := body15) (by kernel_rfl) (Nat.le_of_ble_eq_true rfl) ?_
  intro E hP hn hx
  replace hn : E.n = 21 := hn
  have hm : E.P.follows .mixedOrders = true := by rw [hP]; exact mixed
  have hΘ : TOK E.P Θ := by rw [hP]; exact Θ_ok
  unfold laws_heldActSS at h
  show WAt E body15 (FQ (RetE Θ Try.f15.results.toList [] [] (I r) E)) [] ⟨[(0, (AV.ro 1 (p1.map r68))), (1, (I p2))], [], [JJ]⟩
  exact go_to hΘ hm hx hP hn (hs := []) (π := []) (ts := [0, 1, 5]) (kp := []) (ps := []) (by kernel_rfl) trivial (laws_heldActSS_l0_m hP hn hx p1 FU p2 0 _ h)
noncomputable def body47 : Code := match Try.f47.body with | some c => c | none => .skip
noncomputable def laws_markActS_l0   : Nat → (List GAct) → Int → Int → Option (Int × (List GAct))
  | 0, _, _, _ => none
  | n + 1, a3, v4, v5 =>
  if (decide (v5 < (a3.length : Int))) = true then
    Option.bind (rd a3 v5) fun x7 =>
    laws_markActS_l0 n (a3.set (Int.toNat v5) (GAct.mk v4 (w64 (v4 + 1)) (fOf (w64 ((w64 (v4 + 1)) + 1))))) (w64 ((w64 ((w64 (v4 + 1)) + 1)) + 1)) (w64 (v5 + 1))
  else
    some (v4, a3)
theorem laws_markActS_l0_m {E : Env} (hP : E.P = Try.prog) (hn : E.n = 35) (hx : ∀ p, p ∈ E.fx → p.1 ∈ ([0] : List Nat))   : ∀ (n : Nat) (a3 : (List GAct)) (v4 : Int) (v5 : Int) (r : (Int × (List GAct))), laws_markActS_l0  n a3 v4 v5 = some r → WAt E body47 (FQ (RetE Θ Try.f47.results.toList [true] [⟨71, 3, (r.2.map o71)⟩] (I r.1) E)) [true, false, true, false] ⟨[(0, (AV.sl 0 0 (List.length (a3.map o71)))), (1, (I v4)), (5, (I v5))], [(0, some ⟨71, 3, (a3.map o71)⟩)], [0, JJ]⟩ := by
  have hm : E.P.follows .mixedOrders = true := by rw [hP]; exact mixed
  have hΘ : TOK E.P Θ := by rw [hP]; exact Θ_ok
  intro n
  induction n with
  | zero => intro a3 v4 v5 r h; simp only [laws_markActS_l0] at h; cases h
  | succ n ih =>
    intro a3 v4 v5 r h
    simp only [laws_markActS_l0] at h
    rcases itS h with ⟨c6, h⟩ | ⟨c8, h⟩
    · obtain ⟨x7, hx7, h⟩ := bnS h
      exact go_to hΘ hm hx hP hn (hs := [⟨2, .no, some (I (a3.length : Int))⟩, ⟨4, .br true, none⟩, ⟨10, .sto ((o71 x7)) ((a3.set (Int.toNat v5) (GAct.mk v4 x7.Cell x7.V)).map o71), none⟩, ⟨14, .slen 0 (List.length ((a3.set (Int.toNat v5) (GAct.mk v4 x7.Cell x7.V)).map o71)), none⟩, ⟨19, .sto [(I v4), (I x7.Cell), (FK x7.V)] ((a3.set (Int.toNat v5) (GAct.mk v4 (w64 (v4 + 1)) x7.V)).map o71), none⟩, ⟨23, .slen 0 (List.length ((a3.set (Int.toNat v5) (GAct.mk v4 (w64 (v4 + 1)) x7.V)).map o71)), none⟩, ⟨26, .cnv (FK (fOf (w64 ((w64 (v4 + 1)) + 1)))), none⟩, ⟨29, .sto [(I v4), (I (w64 (v4 + 1))), (FK x7.V)] ((a3.set (Int.toNat v5) (GAct.mk v4 (w64 (v4 + 1)) (fOf (w64 ((w64 (v4 + 1)) + 1))))).map o71), none⟩, ⟨36, .slen 0 (List.length ((a3.set (Int.toNat v5) (GAct.mk v4 (w64 (v4 + 1)) (fOf (w64 ((w64 (v4 + 1)) + 1))))).map o71)), none⟩]) (π := [(0, 0)]) (ts := [0, 1, 5]) (kp := []) (ps := [AV.lit (.int .i64 (((List.length (a3.map o71)) : Nat) : Int)) = (I (a3.length : Int)), (decide (v5 < (a3.length : Int))) = true, (0 : Int) ≤ v5, v5 < (((List.length (a3.map o71)) : Nat) : Int), (a3.map o71)[(Int.toNat v5)]? = some ((o71 x7)), (a3.map o71).set (Int.toNat v5) (wr ((o71 x7)) 0 [(I v4)]) = ((a3.set (Int.toNat v5) (GAct.mk v4 x7.Cell x7.V)).map o71), [(I v4)].length = 1, 0 + [(I v4)].length ≤ ((o71 x7)).length, (List.length (a3.map o71)) = (List.length ((a3.set (Int.toNat v5) (GAct.mk v4 x7.Cell x7.V)).map o71)), (0 : Int) ≤ v5, v5 < (((List.length ((a3.set (Int.toNat v5) (GAct.mk v4 x7.Cell x7.V)).map o71)) : Nat) : Int), ((a3.set (Int.toNat v5) (GAct.mk v4 x7.Cell x7.V)).map o71)[(Int.toNat v5)]? = some [(I v4), (I x7.Cell), (FK x7.V)], ((a3.set (Int.toNat v5) (GAct.mk v4 x7.Cell x7.V)).map o71).set (Int.toNat v5) (wr [(I v4), (I x7.Cell), (FK x7.V)] 1 [(I (w64 (v4 + 1)))]) = ((a3.set (Int.toNat v5) (GAct.mk v4 (w64 (v4 + 1)) x7.V)).map o71), [(I (w64 (v4 + 1)))].length = 1, 1 + [(I (w64 (v4 + 1)))].length ≤ [(I v4), (I x7.Cell), (FK x7.V)].length, (List.length ((a3.set (Int.toNat v5) (GAct.mk v4 x7.Cell x7.V)).map o71)) = (List.length ((a3.set (Int.toNat v5) (GAct.mk v4 (w64 (v4 + 1)) x7.V)).map o71)), CnvS Try.prog 3 69 (I (w64 ((w64 (v4 + 1)) + 1))) (FK (fOf (w64 ((w64 (v4 + 1)) + 1)))), (0 : Int) ≤ v5, v5 < (((List.length ((a3.set (Int.toNat v5) (GAct.mk v4 (w64 (v4 + 1)) x7.V)).map o71)) : Nat) : Int), ((a3.set (Int.toNat v5) (GAct.mk v4 (w64 (v4 + 1)) x7.V)).map o71)[(Int.toNat v5)]? = some [(I v4), (I (w64 (v4 + 1))), (FK x7.V)], ((a3.set (Int.toNat v5) (GAct.mk v4 (w64 (v4 + 1)) x7.V)).map o71).set (Int.toNat v5) (wr [(I v4), (I (w64 (v4 + 1))), (FK x7.V)] 2 [(FK (fOf (w64 ((w64 (v4 + 1)) + 1))))]) = ((a3.set (Int.toNat v5) (GAct.mk v4 (w64 (v4 + 1)) (fOf (w64 ((w64 (v4 + 1)) + 1))))).map o71), [(FK (fOf (w64 ((w64 (v4 + 1)) + 1))))].length = 1, 2 + [(FK (fOf (w64 ((w64 (v4 + 1)) + 1))))].length ≤ [(I v4), (I (w64 (v4 + 1))), (FK x7.V)].length, (List.length ((a3.set (Int.toNat v5) (GAct.mk v4 (w64 (v4 + 1)) x7.V)).map o71)) = (List.length ((a3.set (Int.toNat v5) (GAct.mk v4 (w64 (v4 + 1)) (fOf (w64 ((w64 (v4 + 1)) + 1))))).map o71)), RenOK [(0, 0)] ((a3.set (Int.toNat v5) (GAct.mk v4 (w64 (v4 + 1)) (fOf (w64 ((w64 (v4 + 1)) + 1))))).map o71)]) (by kernel_rfl) ⟨(lenM o71), c6, (rd0 hx7), (rdL o71 hx7), (rdM o71 hx7), (setMr o71 (by kernel_rfl)), rfl, (Nat.le_of_ble_eq_true rfl), (by first | exact lnSet _ | exact lnSet2 _ | simp only [List.length_map, List.length_set, List.length_cons, List.length_nil]), (rd0 hx7), (rdL o71 (rdS (y := (GAct.mk v4 x7.Cell x7.V)) hx7)), (rdM o71 (rdS (y := (GAct.mk v4 x7.Cell x7.V)) hx7)), (setSS o71 (by kernel_rfl)), rfl, (Nat.le_of_ble_eq_true rfl), (by first | exact lnSet _ | exact lnSet2 _ | simp only [List.length_map, List.length_set, List.length_cons, List.length_nil]), (cIF (P := Try.prog) ty3 ty69), (rd0 hx7), (rdL o71 (rdS (y := (GAct.mk v4 (w64 (v4 + 1)) x7.V)) hx7)), (rdM o71 (rdS (y := (GAct.mk v4 (w64 (v4 + 1)) x7.V)) hx7)), (setSS o71 (by kernel_rfl)), rfl, (Nat.le_of_ble_eq_true rfl), (by first | exact lnSet _ | exact lnSet2 _ | simp only [List.length_map, List.length_set, List.length_cons, List.length_nil]), (rok (treeM t71)), trivial⟩ (ih (a3.set (Int.toNat v5) (GAct.mk v4 (w64 (v4 + 1)) (fOf (w64 ((w64 (v4 + 1)) + 1))))) (w64 ((w64 ((w64 (v4 + 1)) + 1)) + 1)) (w64 (v5 + 1)) _ h)
    · have h := Option.some.inj h
      subst h
      exact go_ret hΘ hm hP hn (hs := [⟨2, .no, some (I (a3.length : Int))⟩, ⟨4, .br false, none⟩]) (rh := []) (ph := .raw) (ps := [AV.lit (.int .i64 (((List.length (a3.map o71)) : Nat) : Int)) = (I (a3.length : Int)), (decide (v5 < (a3.length : Int))) = false, (a3.map o71) = (a3.map o71), treeLL (a3.map o71) = true, noRoLL (a3.map o71) = true, (I v4) = (I v4), litA (I v4) = true]) (by kernel_rfl) ⟨(lenM o71), c8, rfl, (treeM t71), (noRoM n71), rfl, rfl, trivial⟩
noncomputable def laws_markActS (p1 : (List GAct)) (p2 : Int) : Option (Int × (List GAct)) :=
  laws_markActS_l0 FU p1 p2 0
theorem laws_markActS_m {p1 : (List GAct)} {p2 : Int} {r : (Int × (List GAct))} (h : laws_markActS p1 p2 = some r) : MeetsR Try.prog 47 [⟨71, 3, (p1.map o71)⟩] [(AV.sl 0 0 (List.length (p1.map o71))), (I p2)] [true] [⟨71, 3, (r.2.map o71)⟩] (I r.1) := by
  refine meetsR_of Θ_ok Try.func47 rfl (c := body47) (by kernel_rfl) (Nat.le_of_ble_eq_true rfl) rfl (Nat.le_of_ble_eq_true rfl) rfl (fr := [0]) (frI rfl) ?_
  intro E hP hn hx
  replace hn : E.n = 35 := hn
  have hm : E.P.follows .mixedOrders = true := by rw [hP]; exact mixed
  have hΘ : TOK E.P Θ := by rw [hP]; exact Θ_ok
  unfold laws_markActS at h
  show WAt E body47 (FQ (RetE Θ Try.f47.results.toList [true] [⟨71, 3, (r.2.map o71)⟩] (I r.1) E)) [] ⟨[(0, (AV.sl 0 0 (List.length (p1.map o71)))), (1, (I p2))], [(0, some ⟨71, 3, (p1.map o71)⟩)], [0, JJ]⟩
  exact go_to hΘ hm hx hP hn (hs := []) (π := [(0, 0)]) (ts := [0, 1, 5]) (kp := []) (ps := [RenOK [(0, 0)] (p1.map o71)]) (by kernel_rfl) ⟨(rok (treeM t71)), trivial⟩ (laws_markActS_l0_m hP hn hx FU p1 p2 0 _ h)
noncomputable def body14 : Code := match Try.f14.body with | some c => c | none => .skip
noncomputable def laws_markActSS_l0   : Nat → (List (List GAct)) → Int → Int → Option (Int × (List (List GAct)))
  | 0, _, _, _ => none
  | n + 1, a3, v4, v5 =>
  if (decide (v5 < (a3.length : Int))) = true then
    Option.bind (rd a3 v5) fun x7 =>
    Option.bind (laws_markActS x7 v4) fun r8 =>
    Option.bind (sameLen x7 r8.2) fun q9 =>
    laws_markActSS_l0 n (a3.set (Int.toNat v5) r8.2) r8.1 (w64 (v5 + 1))
  else
    some (v4, a3)
theorem laws_markActSS_l0_m {E : Env} (hP : E.P = Try.prog) (hn : E.n = 19) (hx : ∀ p, p ∈ E.fx → p.1 ∈ ([0] : List Nat))   : ∀ (n : Nat) (a3 : (List (List GAct))) (v4 : Int) (v5 : Int) (r : (Int × (List (List GAct)))), laws_markActSS_l0  n a3 v4 v5 = some r → WAt E body14 (FQ (RetE Θ Try.f14.results.toList [true] [⟨68, 1, (r.2.map o68)⟩] (I r.1) E)) [true, false, true, false] ⟨[(0, (AV.sl 0 0 (List.length (a3.map o68)))), (1, (I v4)), (5, (I v5))], [(0, some ⟨68, 1, (a3.map o68)⟩)], [0, JJ]⟩ := by
  have hm : E.P.follows .mixedOrders = true := by rw [hP]; exact mixed
  have hΘ : TOK E.P Θ := by rw [hP]; exact Θ_ok
  intro n
  induction n with
  | zero => intro a3 v4 v5 r h; simp only [laws_markActSS_l0] at h; cases h
  | succ n ih =>
    intro a3 v4 v5 r h
    simp only [laws_markActSS_l0] at h
    rcases itS h with ⟨c6, h⟩ | ⟨c10, h⟩
    · obtain ⟨x7, hx7, h⟩ := bnS h
      obtain ⟨r8, hr8, h⟩ := bnS h
      obtain ⟨q9, hq9, h⟩ := bnS h
      exact go_to hΘ hm hx hP hn (hs := [⟨2, .no, some (I (a3.length : Int))⟩, ⟨4, .br true, none⟩, ⟨8, .unpack 0 1001 (Int.toNat v5) 0 [(AV.own 71 3 (x7.map o71))] 71 3 (x7.map o71) ((a3.map o68).set (Int.toNat v5) [(AV.sl 1001 0 (List.length (x7.map o71)))]), none⟩, ⟨8, .row [(AV.sl 1001 0 (List.length (x7.map o71)))], none⟩, ⟨10, .callX [1001] [true] [⟨71, 3, (x7.map o71)⟩] [⟨71, 3, (r8.2.map o71)⟩] [] (I r8.1) [] (I r8.1) [], none⟩, ⟨15, .pack 0 1001 (Int.toNat v5) 0 [(AV.sl 1001 0 (List.length (x7.map o71)))] ((a3.set (Int.toNat v5) r8.2).map o68), none⟩, ⟨15, .slen 0 (List.length ((a3.set (Int.toNat v5) r8.2).map o68)), none⟩]) (π := [(0, 0)]) (ts := [0, 1, 5]) (kp := []) (ps := [AV.lit (.int .i64 (((List.length (a3.map o68)) : Nat) : Int)) = (I (a3.length : Int)), (decide (v5 < (a3.length : Int))) = true, (0 : Int) ≤ v5, v5 < (((List.length (a3.map o68)) : Nat) : Int), (a3.map o68)[(Int.toNat v5)]? = some [(AV.own 71 3 (x7.map o71))], [(AV.own 71 3 (x7.map o71))][0]? = some (AV.own 71 3 (x7.map o71)), 0 < 3, (a3.map o68).set (Int.toNat v5) ([(AV.own 71 3 (x7.map o71))].set 0 (AV.sl 1001 0 (List.length (x7.map o71)))) = ((a3.map o68).set (Int.toNat v5) [(AV.sl 1001 0 (List.length (x7.map o71)))]), ((a3.map o68).set (Int.toNat v5) [(AV.sl 1001 0 (List.length (x7.map o71)))])[(Int.toNat v5)]? = some [(AV.sl 1001 0 (List.length (x7.map o71)))], MeetsR Try.prog 47 [⟨71, 3, (x7.map o71)⟩] [(AV.sl 0 0 (List.length (x7.map o71))), (I v4)] [true] [⟨71, 3, (r8.2.map o71)⟩] (I r8.1), (some (Root.mk 71 3 (x7.map o71)) = some (Root.mk 71 3 (x7.map o71))) ∧ True, (treeLL (x7.map o71) = true ∧ noRoLL (x7.map o71) = true) ∧ True, ((r8.2.map o71).length = (x7.map o71).length) ∧ True, (rtf (renA [(0, 1001)] (I r8.1)) []).1 = (I r8.1), (rtf (renA [(0, 1001)] (I r8.1)) []).2.1 = [], ((a3.map o68).set (Int.toNat v5) [(AV.sl 1001 0 (List.length (x7.map o71)))])[(Int.toNat v5)]? = some [(AV.sl 1001 0 (List.length (x7.map o71)))], [(AV.sl 1001 0 (List.length (x7.map o71)))][0]? = some (AV.sl 1001 0 (List.length (r8.2.map o71))), treeLL (r8.2.map o71) = true, ((a3.map o68).set (Int.toNat v5) [(AV.sl 1001 0 (List.length (x7.map o71)))]).set (Int.toNat v5) ([(AV.sl 1001 0 (List.length (x7.map o71)))].set 0 (AV.own 71 3 (r8.2.map o71))) = ((a3.set (Int.toNat v5) r8.2).map o68), (List.length (a3.map o68)) = (List.length ((a3.set (Int.toNat v5) r8.2).map o68)), RenOK [(0, 0)] ((a3.set (Int.toNat v5) r8.2).map o68)]) (by kernel_rfl) ⟨(lenM o68), c6, (rd0 hx7), (rdL o68 hx7), (rdM o68 hx7), rfl, (by decide), rfl, (setE (rdM o68 hx7)), (laws_markActS_m hr8), ⟨rfl, trivial⟩, ⟨⟨treeM t71, noRoM n71⟩, trivial⟩, ⟨(sameLenE o71 hq9), trivial⟩, rfl, rfl, (setE (rdM o68 hx7)), (pkS (sameLenE o71 hq9).symm), (treeM t71), (setP o68), (by first | exact lnSet _ | exact lnSet2 _ | simp only [List.length_map, List.length_set, List.length_cons, List.length_nil]), (rok (treeM t68)), trivial⟩ (ih (a3.set (Int.toNat v5) r8.2) r8.1 (w64 (v5 + 1)) _ h)
    · have h := Option.some.inj h
      subst h
      exact go_ret hΘ hm hP hn (hs := [⟨2, .no, some (I (a3.length : Int))⟩, ⟨4, .br false, none⟩]) (rh := []) (ph := .raw) (ps := [AV.lit (.int .i64 (((List.length (a3.map o68)) : Nat) : Int)) = (I (a3.length : Int)), (decide (v5 < (a3.length : Int))) = false, (a3.map o68) = (a3.map o68), treeLL (a3.map o68) = true, noRoLL (a3.map o68) = true, (I v4) = (I v4), litA (I v4) = true]) (by kernel_rfl) ⟨(lenM o68), c10, rfl, (treeM t68), (noRoM n68), rfl, rfl, trivial⟩
noncomputable def laws_markActSS (p1 : (List (List GAct))) (p2 : Int) : Option (Int × (List (List GAct))) :=
  laws_markActSS_l0 FU p1 p2 0
theorem laws_markActSS_m {p1 : (List (List GAct))} {p2 : Int} {r : (Int × (List (List GAct)))} (h : laws_markActSS p1 p2 = some r) : MeetsR Try.prog 14 [⟨68, 1, (p1.map o68)⟩] [(AV.sl 0 0 (List.length (p1.map o68))), (I p2)] [true] [⟨68, 1, (r.2.map o68)⟩] (I r.1) := by
  refine meetsR_of Θ_ok Try.func14 rfl (c := body14) (by kernel_rfl) (Nat.le_of_ble_eq_true rfl) rfl (Nat.le_of_ble_eq_true rfl) rfl (fr := [0]) (frI rfl) ?_
  intro E hP hn hx
  replace hn : E.n = 19 := hn
  have hm : E.P.follows .mixedOrders = true := by rw [hP]; exact mixed
  have hΘ : TOK E.P Θ := by rw [hP]; exact Θ_ok
  unfold laws_markActSS at h
  show WAt E body14 (FQ (RetE Θ Try.f14.results.toList [true] [⟨68, 1, (r.2.map o68)⟩] (I r.1) E)) [] ⟨[(0, (AV.sl 0 0 (List.length (p1.map o68)))), (1, (I p2))], [(0, some ⟨68, 1, (p1.map o68)⟩)], [0, JJ]⟩
  exact go_to hΘ hm hx hP hn (hs := []) (π := [(0, 0)]) (ts := [0, 1, 5]) (kp := []) (ps := [RenOK [(0, 0)] (p1.map o68)]) (by kernel_rfl) ⟨(rok (treeM t68)), trivial⟩ (laws_markActSS_l0_m hP hn hx FU p1 p2 0 _ h)
noncomputable def body40 : Code := match Try.f40.body with | some c => c | none => .skip
noncomputable def laws_szActS (p1 : (List GAct)) (p2 : Int) : Option Int :=
  if (decide ((w64 (p2 - (p1.length : Int))) < 0)) = true then
    some (-1)
  else
    some (w64 (p2 - (p1.length : Int)))
theorem laws_szActS_m {p1 : (List GAct)} {p2 : Int} {r : Int} (h : laws_szActS p1 p2 = some r) : Meets Try.prog 40 [(AV.ro 3 (p1.map o102)), (I p2)] (I r) := by
  refine meets_ofC Θ_ok Try.func40 rfl (c := body40) (by kernel_rfl) (Nat.le_of_ble_eq_true rfl) ?_
  intro E hP hn hx
  replace hn : E.n = 12 := hn
  have hm : E.P.follows .mixedOrders = true := by rw [hP]; exact mixed
  have hΘ : TOK E.P Θ := by rw [hP]; exact Θ_ok
  unfold laws_szActS at h
  show WAt E body40 (FQ (RetE Θ Try.f40.results.toList [] [] (I r) E)) [] ⟨[(0, (AV.ro 3 (p1.map o102))), (1, (I p2))], [], [JJ]⟩
  rcases itS h with ⟨c3, h⟩ | ⟨c4, h⟩
  · have h := Option.some.inj h
    subst h
    exact go_ret hΘ hm hP hn (hs := [⟨3, .no, some (I (p1.length : Int))⟩, ⟨8, .br true, none⟩]) (rh := []) (ph := .raw) (ps := [AV.lit (.int .i64 (((p1.map o102).length : Nat) : Int)) = (I (p1.length : Int)), (decide ((w64 (p2 - (p1.length : Int))) < 0)) = true, (I (-1)) = (I (-1)), litA (I (-1)) = true]) (by kernel_rfl) ⟨(lenM o102), c3, rfl, rfl, trivial⟩
  · have h := Option.some.inj h
    subst h
    exact go_ret hΘ hm hP hn (hs := [⟨3, .no, some (I (p1.length : Int))⟩, ⟨8, .br false, none⟩]) (rh := []) (ph := .raw) (ps := [AV.lit (.int .i64 (((p1.map o102).length : Nat) : Int)) = (I (p1.length : Int)), (decide ((w64 (p2 - (p1.length : Int))) < 0)) = false, (I (w64 (p2 - (p1.length : Int)))) = (I (w64 (p2 - (p1.length : Int)))), litA (I (w64 (p2 - (p1.length : Int)))) = true]) (by kernel_rfl) ⟨(lenM o102), c4, rfl, rfl, trivial⟩
noncomputable def body9 : Code := match Try.f9.body with | some c => c | none => .skip
noncomputable def laws_szActSS_l0  (p1 : (List (List GAct))) : Nat → Int → Int → Option Int
  | 0, _, _ => none
  | n + 1, v5, v6 =>
  if (decide (v6 < (p1.length : Int))) = true then
    Option.bind (rd p1 v6) fun x8 =>
    Option.bind (laws_szActS x8 v5) fun r9 =>
    if (decide (r9 < 0)) = true then
      some (-1)
    else
      laws_szActSS_l0 p1 n r9 (w64 (v6 + 1))
  else
    some v5
theorem laws_szActSS_l0_m {E : Env} (hP : E.P = Try.prog) (hn : E.n = 27) (hx : ∀ p, p ∈ E.fx → p.1 ∈ ([] : List Nat)) (p1 : (List (List GAct)))  : ∀ (n : Nat) (v5 : Int) (v6 : Int) (r : Int), laws_szActSS_l0 p1 n v5 v6 = some r → WAt E body9 (FQ (RetE Θ Try.f9.results.toList [] [] (I r) E)) [true, true, true, false, true, false] ⟨[(0, (AV.ro 1 (p1.map r66))), (1, (I v5)), (5, (I v6))], [], [JJ]⟩ := by
  have hm : E.P.follows .mixedOrders = true := by rw [hP]; exact mixed
  have hΘ : TOK E.P Θ := by rw [hP]; exact Θ_ok
  intro n
  induction n with
  | zero => intro v5 v6 r h; simp only [laws_szActSS_l0] at h; cases h
  | succ n ih =>
    intro v5 v6 r h
    simp only [laws_szActSS_l0] at h
    rcases itS h with ⟨c7, h⟩ | ⟨c12, h⟩
    · obtain ⟨x8, hx8, h⟩ := bnS h
      obtain ⟨r9, hr9, h⟩ := bnS h
      rcases itS h with ⟨c10, h⟩ | ⟨c11, h⟩
      · have h := Option.some.inj h
        subst h
        exact go_ret hΘ hm hP hn (hs := [⟨2, .no, some (I (p1.length : Int))⟩, ⟨4, .br true, none⟩, ⟨7, .row (r66 x8), none⟩, ⟨10, .callV [] (I r9), none⟩, ⟨14, .br true, none⟩]) (rh := []) (ph := .raw) (ps := [AV.lit (.int .i64 (((p1.map r66).length : Nat) : Int)) = (I (p1.length : Int)), (decide (v6 < (p1.length : Int))) = true, (0 : Int) ≤ v6, (p1.map r66)[(Int.toNat v6)]? = some (r66 x8), Meets Try.prog 40 [(AV.ro 3 (x8.map o102)), (I v5)] (I r9), litA (I r9) = true, (decide (r9 < 0)) = true, (I (-1)) = (I (-1)), litA (I (-1)) = true]) (by kernel_rfl) ⟨(lenM r66), c7, (rd0 hx8), (rdM r66 hx8), (laws_szActS_m hr9), rfl, c10, rfl, rfl, trivial⟩
      · exact go_to hΘ hm hx hP hn (hs := [⟨2, .no, some (I (p1.length : Int))⟩, ⟨4, .br true, none⟩, ⟨7, .row (r66 x8), none⟩, ⟨10, .callV [] (I r9), none⟩, ⟨14, .br false, none⟩]) (π := []) (ts := [0, 1, 5]) (kp := []) (ps := [AV.lit (.int .i64 (((p1.map r66).length : Nat) : Int)) = (I (p1.length : Int)), (decide (v6 < (p1.length : Int))) = true, (0 : Int) ≤ v6, (p1.map r66)[(Int.toNat v6)]? = some (r66 x8), Meets Try.prog 40 [(AV.ro 3 (x8.map o102)), (I v5)] (I r9), litA (I r9) = true, (decide (r9 < 0)) = false]) (by kernel_rfl) ⟨(lenM r66), c7, (rd0 hx8), (rdM r66 hx8), (laws_szActS_m hr9), rfl, c11, trivial⟩ (ih r9 (w64 (v6 + 1)) _ h)
    · have h := Option.some.inj h
      subst h
      exact go_ret hΘ hm hP hn (hs := [⟨2, .no, some (I (p1.length : Int))⟩, ⟨4, .br false, none⟩]) (rh := []) (ph := .raw) (ps := [AV.lit (.int .i64 (((p1.map r66).length : Nat) : Int)) = (I (p1.length : Int)), (decide (v6 < (p1.length : Int))) = false, (I v5) = (I v5), litA (I v5) = true]) (by kernel_rfl) ⟨(lenM r66), c12, rfl, rfl, trivial⟩
noncomputable def laws_szActSS (p1 : (List (List GAct))) (p2 : Int) : Option Int :=
  if (decide ((w64 (p2 - (p1.length : Int))) < 0)) = true then
    some (-1)
  else
    laws_szActSS_l0 p1 FU (w64 (p2 - (p1.length : Int))) 0
theorem laws_szActSS_m {p1 : (List (List GAct))} {p2 : Int} {r : Int} (h : laws_szActSS p1 p2 = some r) : Meets Try.prog 9 [(AV.ro 1 (p1.map r66)), (I p2)] (I r) := by
  refine meets_ofC Θ_ok Try.func9 rfl (c := body9) (by kernel_rfl) (Nat.le_of_ble_eq_true rfl) ?_
  intro E hP hn hx
  replace hn : E.n = 27 := hn
  have hm : E.P.follows .mixedOrders = true := by rw [hP]; exact mixed
  have hΘ : TOK E.P Θ := by rw [hP]; exact Θ_ok
  unfold laws_szActSS at h
  show WAt E body9 (FQ (RetE Θ Try.f9.results.toList [] [] (I r) E)) [] ⟨[(0, (AV.ro 1 (p1.map r66))), (1, (I p2))], [], [JJ]⟩
  rcases itS h with ⟨c3, h⟩ | ⟨c4, h⟩
  · have h := Option.some.inj h
    subst h
    exact go_ret hΘ hm hP hn (hs := [⟨3, .no, some (I (p1.length : Int))⟩, ⟨8, .br true, none⟩]) (rh := []) (ph := .raw) (ps := [AV.lit (.int .i64 (((p1.map r66).length : Nat) : Int)) = (I (p1.length : Int)), (decide ((w64 (p2 - (p1.length : Int))) < 0)) = true, (I (-1)) = (I (-1)), litA (I (-1)) = true]) (by kernel_rfl) ⟨(lenM r66), c3, rfl, rfl, trivial⟩
  · exact go_to hΘ hm hx hP hn (hs := [⟨3, .no, some (I (p1.length : Int))⟩, ⟨8, .br false, none⟩]) (π := []) (ts := [0, 1, 5]) (kp := []) (ps := [AV.lit (.int .i64 (((p1.map r66).length : Nat) : Int)) = (I (p1.length : Int)), (decide ((w64 (p2 - (p1.length : Int))) < 0)) = false]) (by kernel_rfl) ⟨(lenM r66), c4, trivial⟩ (laws_szActSS_l0_m hP hn hx p1 FU (w64 (p2 - (p1.length : Int))) 0 _ h)
noncomputable def body72 : Code := match Try.f72.body with | some c => c | none => .skip
noncomputable def laws_toAct (p1 : GAct) : Option GAct :=
  some (GAct.mk p1.Kind p1.Cell p1.V)
theorem laws_toAct_m {p1 : GAct} {r : GAct} (h : laws_toAct p1 = some r) : Meets Try.prog 72 [(AV.agg ((o102 p1)))] (AV.agg (o71 r)) := by
  refine meets_ofC Θ_ok Try.func72 rfl (c := body72) (by kernel_rfl) (Nat.le_of_ble_eq_true rfl) ?_
  intro E hP hn hx
  replace hn : E.n = 14 := hn
  have hm : E.P.follows .mixedOrders = true := by rw [hP]; exact mixed
  have hΘ : TOK E.P Θ := by rw [hP]; exact Θ_ok
  unfold laws_toAct at h
  show WAt E body72 (FQ (RetE Θ Try.f72.results.toList [] [] (AV.agg (o71 r)) E)) [] ⟨[(0, (AV.agg ((o102 p1))))], [], [JJ]⟩
  have h := Option.some.inj h
  subst h
  exact go_ret hΘ hm hP hn (hs := [⟨0, .new 1001, none⟩, ⟨1, .new 1002, none⟩, ⟨2, .new 1003, none⟩]) (rh := []) (ph := .raw) (ps := [(AV.agg [(I p1.Kind), (I p1.Cell), (FK p1.V)]) = (AV.agg [(I p1.Kind), (I p1.Cell), (FK p1.V)]), litA (AV.agg [(I p1.Kind), (I p1.Cell), (FK p1.V)]) = true]) (by kernel_rfl) ⟨rfl, rfl, trivial⟩
noncomputable def body42 : Code := match Try.f42.body with | some c => c | none => .skip
noncomputable def laws_toActS_l0  (p1 : (List GAct)) : Nat → (List GAct) → Int → Option (List GAct)
  | 0, _, _ => none
  | n + 1, a3, v4 =>
  if (decide (v4 < (p1.length : Int))) = true then
    Option.bind (rd p1 v4) fun x6 =>
    Option.bind (laws_toAct x6) fun r7 =>
    Option.bind (rd a3 v4) fun x8 =>
    laws_toActS_l0 p1 n (a3.set (Int.toNat v4) r7) (w64 (v4 + 1))
  else
    some a3
theorem laws_toActS_l0_m {E : Env} (hP : E.P = Try.prog) (hn : E.n = 23) (hx : ∀ p, p ∈ E.fx → p.1 ∈ ([] : List Nat)) (p1 : (List GAct))  : ∀ (n : Nat) (a3 : (List GAct)) (v4 : Int) (r : (List GAct)), laws_toActS_l0 p1 n a3 v4 = some r → WAt E body42 (FQ (RetE Θ Try.f42.results.toList [] [] (AV.own 71 3 (r.map o71)) E)) [true, true, false, true, false] ⟨[(0, (AV.ro 3 (p1.map o102))), (3, (AV.sl 1 0 (List.length (a3.map o71)))), (4, (I v4))], [(1, some ⟨71, 3, (a3.map o71)⟩)], [1, JJ]⟩ := by
  have hm : E.P.follows .mixedOrders = true := by rw [hP]; exact mixed
  have hΘ : TOK E.P Θ := by rw [hP]; exact Θ_ok
  intro n
  induction n with
  | zero => intro a3 v4 r h; simp only [laws_toActS_l0] at h; cases h
  | succ n ih =>
    intro a3 v4 r h
    simp only [laws_toActS_l0] at h
    rcases itS h with ⟨c5, h⟩ | ⟨c9, h⟩
    · obtain ⟨x6, hx6, h⟩ := bnS h
      obtain ⟨r7, hr7, h⟩ := bnS h
      obtain ⟨x8, hx8, h⟩ := bnS h
      exact go_to hΘ hm hx hP hn (hs := [⟨2, .no, some (I (p1.length : Int))⟩, ⟨4, .br true, none⟩, ⟨9, .row (o102 x6), none⟩, ⟨11, .callV [[]] (AV.agg (o71 r7)), none⟩, ⟨13, .sto ((o71 x8)) ((a3.set (Int.toNat v4) r7).map o71), none⟩, ⟨17, .slen 3 (List.length ((a3.set (Int.toNat v4) r7).map o71)), none⟩]) (π := [(1, 1)]) (ts := [0, 3, 4]) (kp := []) (ps := [AV.lit (.int .i64 (((p1.map o102).length : Nat) : Int)) = (I (p1.length : Int)), (decide (v4 < (p1.length : Int))) = true, (0 : Int) ≤ v4, (p1.map o102)[(Int.toNat v4)]? = some (o102 x6), Meets Try.prog 72 [(AV.agg ((o102 x6)))] (AV.agg (o71 r7)), litA (AV.agg (o71 r7)) = true, (0 : Int) ≤ v4, v4 < (((List.length (a3.map o71)) : Nat) : Int), (a3.map o71)[(Int.toNat v4)]? = some ((o71 x8)), (a3.map o71).set (Int.toNat v4) (wr ((o71 x8)) 0 ((o71 r7))) = ((a3.set (Int.toNat v4) r7).map o71), ((o71 r7)).length = 3, 0 + ((o71 r7)).length ≤ ((o71 x8)).length, (List.length (a3.map o71)) = (List.length ((a3.set (Int.toNat v4) r7).map o71)), RenOK [(1, 1)] ((a3.set (Int.toNat v4) r7).map o71)]) (by kernel_rfl) ⟨(lenM o102), c5, (rd0 hx6), (rdM o102 hx6), (laws_toAct_m hr7), rfl, (rd0 hx8), (rdL o71 hx8), (rdM o71 hx8), (setMr o71 (by kernel_rfl)), rfl, (Nat.le_of_ble_eq_true rfl), (by first | exact lnSet _ | exact lnSet2 _ | simp only [List.length_map, List.length_set, List.length_cons, List.length_nil]), (rok (treeM t71)), trivial⟩ (ih (a3.set (Int.toNat v4) r7) (w64 (v4 + 1)) _ h)
    · have h := Option.some.inj h
      subst h
      exact go_ret hΘ hm hP hn (hs := [⟨2, .no, some (I (p1.length : Int))⟩, ⟨4, .br false, none⟩]) (rh := []) (ph := .own) (ps := [AV.lit (.int .i64 (((p1.map o102).length : Nat) : Int)) = (I (p1.length : Int)), (decide (v4 < (p1.length : Int))) = false, treeLL ((a3.map o71).take (List.length (a3.map o71))) = true, (a3.map o71).take (List.length (a3.map o71)) = (a3.map o71), noRoLL (a3.map o71) = true]) (by kernel_rfl) ⟨(lenM o102), c9, (treeT t71), takeM, (noRoM n71), trivial⟩
noncomputable def laws_toActS (p1 : (List GAct)) : Option (List GAct) :=
  Option.bind (mk (GAct.mk 0 0 0) (p1.length : Int)) fun l2 =>
  laws_toActS_l0 p1 FU l2 0
theorem laws_toActS_m {p1 : (List GAct)} {r : (List GAct)} (h : laws_toActS p1 = some r) : Meets Try.prog 42 [(AV.ro 3 (p1.map o102))] (AV.own 71 3 (r.map o71)) := by
  refine meets_ofC Θ_ok Try.func42 rfl (c := body42) (by kernel_rfl) (Nat.le_of_ble_eq_true rfl) ?_
  intro E hP hn hx
  replace hn : E.n = 23 := hn
  have hm : E.P.follows .mixedOrders = true := by rw [hP]; exact mixed
  have hΘ : TOK E.P Θ := by rw [hP]; exact Θ_ok
  unfold laws_toActS at h
  show WAt E body42 (FQ (RetE Θ Try.f42.results.toList [] [] (AV.own 71 3 (r.map o71)) E)) [] ⟨[(0, (AV.ro 3 (p1.map o102)))], [], [JJ]⟩
  obtain ⟨l2, hl2, h⟩ := bnS h
  exact go_to hΘ hm hx hP hn (hs := [⟨2, .no, some (I (p1.length : Int))⟩, ⟨3, .nw 1001 (l2.map o71), some (AV.sl 1001 0 (List.length (l2.map o71)))⟩]) (π := [(1001, 1)]) (ts := [0, 3, 4]) (kp := []) (ps := [AV.lit (.int .i64 (((p1.map o102).length : Nat) : Int)) = (I (p1.length : Int)), List.replicate (Int.toNat (p1.length : Int)) [.lit (.int .i64 0), .lit (.int .i64 0), .lit (.float .f64 0)] = (l2.map o71), AV.sl 1001 0 (Int.toNat (p1.length : Int)) = (AV.sl 1001 0 (List.length (l2.map o71))), (p1.length : Int) = (p1.length : Int), (0 : Int) ≤ (p1.length : Int), (p1.length : Int) * ((24 : Nat) : Int) ≤ 140737488355328, (p1.length : Int) ≤ 140737488355328, RenOK [(1001, 1)] (l2.map o71)]) (by kernel_rfl) ⟨(lenM o102), (mkM o71 hl2), (mkS o71 hl2), rfl, (mk0 hl2), (mkB hl2 (by decide)), (mkC hl2), (rok (treeM t71)), trivial⟩ (laws_toActS_l0_m hP hn hx p1 FU l2 0 _ h)
noncomputable def body11 : Code := match Try.f11.body with | some c => c | none => .skip
noncomputable def laws_toActSS_l0  (p1 : (List (List GAct))) : Nat → (List (List GAct)) → Int → Option (List (List GAct))
  | 0, _, _ => none
  | n + 1, a3, v4 =>
  if (decide (v4 < (p1.length : Int))) = true then
    Option.bind (rd p1 v4) fun x6 =>
    Option.bind (laws_toActS x6) fun r7 =>
    Option.bind (rd a3 v4) fun x8 =>
    laws_toActSS_l0 p1 n (a3.set (Int.toNat v4) r7) (w64 (v4 + 1))
  else
    some a3
theorem laws_toActSS_l0_m {E : Env} (hP : E.P = Try.prog) (hn : E.n = 23) (hx : ∀ p, p ∈ E.fx → p.1 ∈ ([] : List Nat)) (p1 : (List (List GAct)))  : ∀ (n : Nat) (a3 : (List (List GAct))) (v4 : Int) (r : (List (List GAct))), laws_toActSS_l0 p1 n a3 v4 = some r → WAt E body11 (FQ (RetE Θ Try.f11.results.toList [] [] (AV.own 68 1 (r.map o68)) E)) [true, true, false, true, false] ⟨[(0, (AV.ro 1 (p1.map r66))), (3, (AV.sl 1 0 (List.length (a3.map o68)))), (4, (I v4))], [(1, some ⟨68, 1, (a3.map o68)⟩)], [1, JJ]⟩ := by
  have hm : E.P.follows .mixedOrders = true := by rw [hP]; exact mixed
  have hΘ : TOK E.P Θ := by rw [hP]; exact Θ_ok
  intro n
  induction n with
  | zero => intro a3 v4 r h; simp only [laws_toActSS_l0] at h; cases h
  | succ n ih =>
    intro a3 v4 r h
    simp only [laws_toActSS_l0] at h
    rcases itS h with ⟨c5, h⟩ | ⟨c9, h⟩
    · obtain ⟨x6, hx6, h⟩ := bnS h
      obtain ⟨r7, hr7, h⟩ := bnS h
      obtain ⟨x8, hx8, h⟩ := bnS h
      exact go_to hΘ hm hx hP hn (hs := [⟨2, .no, some (I (p1.length : Int))⟩, ⟨4, .br true, none⟩, ⟨9, .row (r66 x6), none⟩, ⟨11, .call [] (AV.own 71 3 (r7.map o71)) [1001], none⟩, ⟨13, .sto [(AV.own 71 3 (x8.map o71))] ((a3.map o68).set (Int.toNat v4) [(AV.sl 1001 0 (List.length (r7.map o71)))]), none⟩, ⟨14, .pack 1 1001 (Int.toNat v4) 0 [(AV.sl 1001 0 (List.length (r7.map o71)))] ((a3.set (Int.toNat v4) r7).map o68), none⟩, ⟨17, .slen 3 (List.length ((a3.set (Int.toNat v4) r7).map o68)), none⟩]) (π := [(1, 1)]) (ts := [0, 3, 4]) (kp := []) (ps := [AV.lit (.int .i64 (((p1.map r66).length : Nat) : Int)) = (I (p1.length : Int)), (decide (v4 < (p1.length : Int))) = true, (0 : Int) ≤ v4, (p1.map r66)[(Int.toNat v4)]? = some (r66 x6), Meets Try.prog 42 [(AV.ro 3 (x6.map o102))] (AV.own 71 3 (r7.map o71)), noRo (AV.own 71 3 (r7.map o71)) = true, (0 : Int) ≤ v4, v4 < (((List.length (a3.map o68)) : Nat) : Int), (a3.map o68)[(Int.toNat v4)]? = some [(AV.own 71 3 (x8.map o71))], (a3.map o68).set (Int.toNat v4) (wr [(AV.own 71 3 (x8.map o71))] 0 [(AV.sl 1001 0 (List.length (r7.map o71)))]) = ((a3.map o68).set (Int.toNat v4) [(AV.sl 1001 0 (List.length (r7.map o71)))]), [(AV.sl 1001 0 (List.length (r7.map o71)))].length = 1, 0 + [(AV.sl 1001 0 (List.length (r7.map o71)))].length ≤ [(AV.own 71 3 (x8.map o71))].length, ((a3.map o68).set (Int.toNat v4) [(AV.sl 1001 0 (List.length (r7.map o71)))])[(Int.toNat v4)]? = some [(AV.sl 1001 0 (List.length (r7.map o71)))], [(AV.sl 1001 0 (List.length (r7.map o71)))][0]? = some (AV.sl 1001 0 (List.length (r7.map o71))), treeLL (r7.map o71) = true, ((a3.map o68).set (Int.toNat v4) [(AV.sl 1001 0 (List.length (r7.map o71)))]).set (Int.toNat v4) ([(AV.sl 1001 0 (List.length (r7.map o71)))].set 0 (AV.own 71 3 (r7.map o71))) = ((a3.set (Int.toNat v4) r7).map o68), (List.length (a3.map o68)) = (List.length ((a3.set (Int.toNat v4) r7).map o68)), RenOK [(1, 1)] ((a3.set (Int.toNat v4) r7).map o68)]) (by kernel_rfl) ⟨(lenM r66), c5, (rd0 hx6), (rdM r66 hx6), (laws_toActS_m hr7), (by simp only [noRo, noRoL, noRoM n71, Bool.and_self]), (rd0 hx8), (rdL o68 hx8), (rdM o68 hx8), rfl, rfl, (Nat.le_of_ble_eq_true rfl), (setE (rdM o68 hx8)), rfl, (treeM t71), (setP o68), (by first | exact lnSet _ | exact lnSet2 _ | simp only [List.length_map, List.length_set, List.length_cons, List.length_nil]), (rok (treeM t68)), trivial⟩ (ih (a3.set (Int.toNat v4) r7) (w64 (v4 + 1)) _ h)
    · have h := Option.some.inj h
      subst h
      exact go_ret hΘ hm hP hn (hs := [⟨2, .no, some (I (p1.length : Int))⟩, ⟨4, .br false, none⟩]) (rh := []) (ph := .own) (ps := [AV.lit (.int .i64 (((p1.map r66).length : Nat) : Int)) = (I (p1.length : Int)), (decide (v4 < (p1.length : Int))) = false, treeLL ((a3.map o68).take (List.length (a3.map o68))) = true, (a3.map o68).take (List.length (a3.map o68)) = (a3.map o68), noRoLL (a3.map o68) = true]) (by kernel_rfl) ⟨(lenM r66), c9, (treeT t68), takeM, (noRoM n68), trivial⟩
noncomputable def laws_toActSS (p1 : (List (List GAct))) : Option (List (List GAct)) :=
  Option.bind (mk [] (p1.length : Int)) fun l2 =>
  laws_toActSS_l0 p1 FU l2 0
theorem laws_toActSS_m {p1 : (List (List GAct))} {r : (List (List GAct))} (h : laws_toActSS p1 = some r) : Meets Try.prog 11 [(AV.ro 1 (p1.map r66))] (AV.own 68 1 (r.map o68)) := by
  refine meets_ofC Θ_ok Try.func11 rfl (c := body11) (by kernel_rfl) (Nat.le_of_ble_eq_true rfl) ?_
  intro E hP hn hx
  replace hn : E.n = 23 := hn
  have hm : E.P.follows .mixedOrders = true := by rw [hP]; exact mixed
  have hΘ : TOK E.P Θ := by rw [hP]; exact Θ_ok
  unfold laws_toActSS at h
  show WAt E body11 (FQ (RetE Θ Try.f11.results.toList [] [] (AV.own 68 1 (r.map o68)) E)) [] ⟨[(0, (AV.ro 1 (p1.map r66)))], [], [JJ]⟩
  obtain ⟨l2, hl2, h⟩ := bnS h
  exact go_to hΘ hm hx hP hn (hs := [⟨2, .no, some (I (p1.length : Int))⟩, ⟨3, .nw 1001 (List.replicate (Int.toNat (p1.length : Int)) [AV.lit (.slice none 0 0)]), some (AV.sl 1001 0 (List.length (l2.map o68)))⟩, ⟨4, .own0 1001 (Int.toNat (p1.length : Int)) [] [] 71 3 (l2.map o68), none⟩]) (π := [(1001, 1)]) (ts := [0, 3, 4]) (kp := []) (ps := [AV.lit (.int .i64 (((p1.map r66).length : Nat) : Int)) = (I (p1.length : Int)), List.replicate (Int.toNat (p1.length : Int)) [.lit (.slice none 0 0)] = (List.replicate (Int.toNat (p1.length : Int)) [AV.lit (.slice none 0 0)]), AV.sl 1001 0 (Int.toNat (p1.length : Int)) = (AV.sl 1001 0 (List.length (l2.map o68))), (p1.length : Int) = (p1.length : Int), (0 : Int) ≤ (p1.length : Int), (p1.length : Int) * ((24 : Nat) : Int) ≤ 140737488355328, (p1.length : Int) ≤ 140737488355328, (List.replicate (Int.toNat (p1.length : Int)) [AV.lit (.slice none 0 0)]) = List.replicate (Int.toNat (p1.length : Int)) ([] ++ AV.lit (.slice none 0 0) :: []), List.replicate (Int.toNat (p1.length : Int)) ([] ++ AV.own 71 3 [] :: []) = (l2.map o68), RenOK [(1001, 1)] (l2.map o68)]) (by kernel_rfl) ⟨(lenM r66), rfl, (mkS o68 hl2), rfl, (mk0 hl2), (mkB hl2 (by decide)), (mkC hl2), rfl, (mkM o68 hl2), (rok (treeM t68)), trivial⟩ (laws_toActSS_l0_m hP hn hx p1 FU l2 0 _ h)
noncomputable def body50 : Code := match Try.f50.body with | some c => c | none => .skip
noncomputable def spec_l1In (p1 : Int) (p2 : Int) (p3 : Int) : Option Bool :=
  if (decide (p1 ≥ p2)) = true then
    some (decide (p1 ≤ p3))
  else
    some false
theorem spec_l1In_m {p1 : Int} {p2 : Int} {p3 : Int} {r : Bool} (h : spec_l1In p1 p2 p3 = some r) : Meets Try.prog 50 [(I p1), (I p2), (I p3)] (B r) := by
  refine meets_ofC Θ_ok Try.func50 rfl (c := body50) (by kernel_rfl) (Nat.le_of_ble_eq_true rfl) ?_
  intro E hP hn hx
  replace hn : E.n = 15 := hn
  have hm : E.P.follows .mixedOrders = true := by rw [hP]; exact mixed
  have hΘ : TOK E.P Θ := by rw [hP]; exact Θ_ok
  unfold spec_l1In at h
  show WAt E body50 (FQ (RetE Θ Try.f50.results.toList [] [] (B r) E)) [] ⟨[(0, (I p1)), (1, (I p2)), (2, (I p3))], [], [JJ]⟩
  rcases itS h with ⟨c4, h⟩ | ⟨c5, h⟩
  · have h := Option.some.inj h
    subst h
    exact go_ret hΘ hm hP hn (hs := [⟨4, .no, some (B true)⟩]) (rh := []) (ph := .raw) (ps := [(B (decide (p1 ≥ p2))) = (B true), (B (decide (p1 ≤ p3))) = (B (decide (p1 ≤ p3))), litA (B (decide (p1 ≤ p3))) = true]) (by kernel_rfl) ⟨(litB c4), rfl, rfl, trivial⟩
  · have h := Option.some.inj h
    subst h
    exact go_ret hΘ hm hP hn (hs := [⟨4, .no, some (B false)⟩]) (rh := []) (ph := .raw) (ps := [(B (decide (p1 ≥ p2))) = (B false), (B false) = (B false), litA (B false) = true]) (by kernel_rfl) ⟨(litB c5), rfl, rfl, trivial⟩
noncomputable def body117 : Code := match Try.f117.body with | some c => c | none => .skip
noncomputable def spec_IsMinus (p1 : Nat) : Option Bool :=
  if ((fcmp p1 0) == some .lt) = true then
    some true
  else
    if ((fcmp p1 0) == some .eq) = true then
      Option.bind (fdv 4607182418800017408 p1) fun x5 =>
      some ((fcmp x5 0) == some .lt)
    else
      some false
theorem spec_IsMinus_m {p1 : Nat} {r : Bool} (h : spec_IsMinus p1 = some r) : Meets Try.prog 117 [(FK p1)] (B r) := by
  refine meets_ofC Θ_ok Try.func117 rfl (c := body117) (by kernel_rfl) (Nat.le_of_ble_eq_true rfl) ?_
  intro E hP hn hx
  replace hn : E.n = 14 := hn
  have hm : E.P.follows .mixedOrders = true := by rw [hP]; exact mixed
  have hΘ : TOK E.P Θ := by rw [hP]; exact Θ_ok
  unfold spec_IsMinus at h
  show WAt E body117 (FQ (RetE Θ Try.f117.results.toList [] [] (B r) E)) [] ⟨[(0, (FK p1))], [], [JJ]⟩
  rcases itS h with ⟨c2, h⟩ | ⟨c3, h⟩
  · have h := Option.some.inj h
    subst h
    exact go_ret hΘ hm hP hn (hs := [⟨2, .bin (B ((fcmp p1 0) == some .lt)), none⟩, ⟨3, .no, some (B true)⟩]) (rh := []) (ph := .raw) (ps := [BinS Try.prog .lss 69 (FK p1) (FK 0) (B ((fcmp p1 0) == some .lt)), (B ((fcmp p1 0) == some .lt)) = (B true), (B true) = (B true), litA (B true) = true]) (by kernel_rfl) ⟨fLss, (litB c2), rfl, rfl, trivial⟩
  · rcases itS h with ⟨c4, h⟩ | ⟨c6, h⟩
    · obtain ⟨x5, hx5, h⟩ := bnS h
      have h := Option.some.inj h
      subst h
      exact go_ret hΘ hm hP hn (hs := [⟨2, .bin (B ((fcmp p1 0) == some .lt)), none⟩, ⟨3, .no, some (B false)⟩, ⟨5, .bin (B ((fcmp p1 0) == some .eq)), none⟩, ⟨6, .no, some (B true)⟩, ⟨8, .bin (FK x5), none⟩, ⟨9, .bin (B ((fcmp x5 0) == some .lt)), none⟩]) (rh := []) (ph := .raw) (ps := [BinS Try.prog .lss 69 (FK p1) (FK 0) (B ((fcmp p1 0) == some .lt)), (B ((fcmp p1 0) == some .lt)) = (B false), BinS Try.prog .eql 69 (FK p1) (FK 0) (B ((fcmp p1 0) == some .eq)), (B ((fcmp p1 0) == some .eq)) = (B true), BinS Try.prog .quo 69 (FK 4607182418800017408) (FK p1) (FK x5), BinS Try.prog .lss 69 (FK x5) (FK 0) (B ((fcmp x5 0) == some .lt)), (B ((fcmp x5 0) == some .lt)) = (B ((fcmp x5 0) == some .lt)), litA (B ((fcmp x5 0) == some .lt)) = true]) (by kernel_rfl) ⟨fLss, (litB c3), fEql, (litB c4), (fQuo hx5), fLss, rfl, rfl, trivial⟩
    · have h := Option.some.inj h
      subst h
      exact go_ret hΘ hm hP hn (hs := [⟨2, .bin (B ((fcmp p1 0) == some .lt)), none⟩, ⟨3, .no, some (B false)⟩, ⟨5, .bin (B ((fcmp p1 0) == some .eq)), none⟩, ⟨6, .no, some (B false)⟩]) (rh := []) (ph := .raw) (ps := [BinS Try.prog .lss 69 (FK p1) (FK 0) (B ((fcmp p1 0) == some .lt)), (B ((fcmp p1 0) == some .lt)) = (B false), BinS Try.prog .eql 69 (FK p1) (FK 0) (B ((fcmp p1 0) == some .eq)), (B ((fcmp p1 0) == some .eq)) = (B false), (B false) = (B false), litA (B false) = true]) (by kernel_rfl) ⟨fLss, (litB c3), fEql, (litB c6), rfl, rfl, trivial⟩
noncomputable def body116 : Code := match Try.f116.body with | some c => c | none => .skip
noncomputable def spec_l1Nan (p1 : Nat) : Option Bool :=
  some ((fcmp p1 p1) != some .eq)
theorem spec_l1Nan_m {p1 : Nat} {r : Bool} (h : spec_l1Nan p1 = some r) : Meets Try.prog 116 [(FK p1)] (B r) := by
  refine meets_ofC Θ_ok Try.func116 rfl (c := body116) (by kernel_rfl) (Nat.le_of_ble_eq_true rfl) ?_
  intro E hP hn hx
  replace hn : E.n = 6 := hn
  have hm : E.P.follows .mixedOrders = true := by rw [hP]; exact mixed
  have hΘ : TOK E.P Θ := by rw [hP]; exact Θ_ok
  unfold spec_l1Nan at h
  show WAt E body116 (FQ (RetE Θ Try.f116.results.toList [] [] (B r) E)) [] ⟨[(0, (FK p1))], [], [JJ]⟩
  have h := Option.some.inj h
  subst h
  exact go_ret hΘ hm hP hn (hs := [⟨3, .bin (B ((fcmp p1 p1) != some .eq)), none⟩]) (rh := []) (ph := .raw) (ps := [BinS Try.prog .neq 69 (FK p1) (FK p1) (B ((fcmp p1 p1) != some .eq)), (B ((fcmp p1 p1) != some .eq)) = (B ((fcmp p1 p1) != some .eq)), litA (B ((fcmp p1 p1) != some .eq)) = true]) (by kernel_rfl) ⟨fNeq, rfl, rfl, trivial⟩
noncomputable def body103 : Code := match Try.f103.body with | some c => c | none => .skip
noncomputable def spec_l1SameNum_j0  (p1 : Nat) (p2 : Nat)  : Option Bool :=
  if ((fcmp p1 p2) == some .eq) = true then
    Option.bind (spec_IsMinus p1) fun r18 =>
    Option.bind (spec_IsMinus p2) fun r19 =>
    some (r18 == r19)
  else
    some false
theorem spec_l1SameNum_j0_m {E : Env} (hP : E.P = Try.prog) (hn : E.n = 27) (hx : ∀ p, p ∈ E.fx → p.1 ∈ ([] : List Nat)) (p1 : Nat) (p2 : Nat)   (r : Bool) (h : spec_l1SameNum_j0 p1 p2  = some r) : WAt E body103 (FQ (RetE Θ Try.f103.results.toList [] [] (B r) E)) [true, false, true, true] ⟨[(0, (FK p1)), (1, (FK p2))], [], [JJ]⟩ := by
  have hm : E.P.follows .mixedOrders = true := by rw [hP]; exact mixed
  have hΘ : TOK E.P Θ := by rw [hP]; exact Θ_ok
  unfold spec_l1SameNum_j0 at h
  rcases itS h with ⟨c17, h⟩ | ⟨c20, h⟩
  · obtain ⟨r18, hr18, h⟩ := bnS h
    obtain ⟨r19, hr19, h⟩ := bnS h
    have h := Option.some.inj h
    subst h
    exact go_ret hΘ hm hP hn (hs := [⟨2, .bin (B ((fcmp p1 p2) == some .eq)), none⟩, ⟨3, .no, some (B true)⟩, ⟨5, .callV [] (B r18), none⟩, ⟨7, .callV [] (B r19), none⟩]) (rh := []) (ph := .raw) (ps := [BinS Try.prog .eql 69 (FK p1) (FK p2) (B ((fcmp p1 p2) == some .eq)), (B ((fcmp p1 p2) == some .eq)) = (B true), Meets Try.prog 117 [(FK p1)] (B r18), litA (B r18) = true, Meets Try.prog 117 [(FK p2)] (B r19), litA (B r19) = true, (B (r18 == r19)) = (B (r18 == r19)), litA (B (r18 == r19)) = true]) (by kernel_rfl) ⟨fEql, (litB c17), (spec_IsMinus_m hr18), rfl, (spec_IsMinus_m hr19), rfl, rfl, rfl, trivial⟩
  · have h := Option.some.inj h
    subst h
    exact go_ret hΘ hm hP hn (hs := [⟨2, .bin (B ((fcmp p1 p2) == some .eq)), none⟩, ⟨3, .no, some (B false)⟩]) (rh := []) (ph := .raw) (ps := [BinS Try.prog .eql 69 (FK p1) (FK p2) (B ((fcmp p1 p2) == some .eq)), (B ((fcmp p1 p2) == some .eq)) = (B false), (B false) = (B false), litA (B false) = true]) (by kernel_rfl) ⟨fEql, (litB c20), rfl, rfl, trivial⟩
noncomputable def spec_l1SameNum (p1 : Nat) (p2 : Nat) : Option Bool :=
  Option.bind (spec_l1Nan p1) fun r3 =>
  if r3 = true then
    Option.bind (spec_l1Nan p1) fun r5 =>
    if r5 = true then
      Option.bind (spec_l1Nan p2) fun r7 =>
      some r7
    else
      some false
  else
    Option.bind (spec_l1Nan p2) fun r10 =>
    if r10 = true then
      Option.bind (spec_l1Nan p1) fun r12 =>
      if r12 = true then
        Option.bind (spec_l1Nan p2) fun r14 =>
        some r14
      else
        some false
    else
      spec_l1SameNum_j0 p1 p2
theorem spec_l1SameNum_m {p1 : Nat} {p2 : Nat} {r : Bool} (h : spec_l1SameNum p1 p2 = some r) : Meets Try.prog 103 [(FK p1), (FK p2)] (B r) := by
  refine meets_ofC Θ_ok Try.func103 rfl (c := body103) (by kernel_rfl) (Nat.le_of_ble_eq_true rfl) ?_
  intro E hP hn hx
  replace hn : E.n = 27 := hn
  have hm : E.P.follows .mixedOrders = true := by rw [hP]; exact mixed
  have hΘ : TOK E.P Θ := by rw [hP]; exact Θ_ok
  unfold spec_l1SameNum at h
  show WAt E body103 (FQ (RetE Θ Try.f103.results.toList [] [] (B r) E)) [] ⟨[(0, (FK p1)), (1, (FK p2))], [], [JJ]⟩
  obtain ⟨r3, hr3, h⟩ := bnS h
  rcases itS h with ⟨c4, h⟩ | ⟨c9, h⟩
  · obtain ⟨r5, hr5, h⟩ := bnS h
    rcases itS h with ⟨c6, h⟩ | ⟨c8, h⟩
    · obtain ⟨r7, hr7, h⟩ := bnS h
      have h := Option.some.inj h
      subst h
      exact go_ret hΘ hm hP hn (hs := [⟨2, .callV [] (B r3), none⟩, ⟨3, .no, some (B true)⟩, ⟨9, .callV [] (B r5), none⟩, ⟨10, .no, some (B true)⟩, ⟨12, .callV [] (B r7), none⟩]) (rh := []) (ph := .raw) (ps := [Meets Try.prog 116 [(FK p1)] (B r3), litA (B r3) = true, (B r3) = (B true), Meets Try.prog 116 [(FK p1)] (B r5), litA (B r5) = true, (B r5) = (B true), Meets Try.prog 116 [(FK p2)] (B r7), litA (B r7) = true, (B r7) = (B r7), litA (B r7) = true]) (by kernel_rfl) ⟨(spec_l1Nan_m hr3), rfl, (litB c4), (spec_l1Nan_m hr5), rfl, (litB c6), (spec_l1Nan_m hr7), rfl, rfl, rfl, trivial⟩
    · have h := Option.some.inj h
      subst h
      exact go_ret hΘ hm hP hn (hs := [⟨2, .callV [] (B r3), none⟩, ⟨3, .no, some (B true)⟩, ⟨9, .callV [] (B r5), none⟩, ⟨10, .no, some (B false)⟩]) (rh := []) (ph := .raw) (ps := [Meets Try.prog 116 [(FK p1)] (B r3), litA (B r3) = true, (B r3) = (B true), Meets Try.prog 116 [(FK p1)] (B r5), litA (B r5) = true, (B r5) = (B false), (B false) = (B false), litA (B false) = true]) (by kernel_rfl) ⟨(spec_l1Nan_m hr3), rfl, (litB c4), (spec_l1Nan_m hr5), rfl, (litB c8), rfl, rfl, trivial⟩
  · obtain ⟨r10, hr10, h⟩ := bnS h
    rcases itS h with ⟨c11, h⟩ | ⟨c16, h⟩
    · obtain ⟨r12, hr12, h⟩ := bnS h
      rcases itS h with ⟨c13, h⟩ | ⟨c15, h⟩
      · obtain ⟨r14, hr14, h⟩ := bnS h
        have h := Option.some.inj h
        subst h
        exact go_ret hΘ hm hP hn (hs := [⟨2, .callV [] (B r3), none⟩, ⟨3, .no, some (B false)⟩, ⟨5, .callV [] (B r10), none⟩, ⟨7, .br true, none⟩, ⟨9, .callV [] (B r12), none⟩, ⟨10, .no, some (B true)⟩, ⟨12, .callV [] (B r14), none⟩]) (rh := []) (ph := .raw) (ps := [Meets Try.prog 116 [(FK p1)] (B r3), litA (B r3) = true, (B r3) = (B false), Meets Try.prog 116 [(FK p2)] (B r10), litA (B r10) = true, r10 = true, Meets Try.prog 116 [(FK p1)] (B r12), litA (B r12) = true, (B r12) = (B true), Meets Try.prog 116 [(FK p2)] (B r14), litA (B r14) = true, (B r14) = (B r14), litA (B r14) = true]) (by kernel_rfl) ⟨(spec_l1Nan_m hr3), rfl, (litB c9), (spec_l1Nan_m hr10), rfl, c11, (spec_l1Nan_m hr12), rfl, (litB c13), (spec_l1Nan_m hr14), rfl, rfl, rfl, trivial⟩
      · have h := Option.some.inj h
        subst h
        exact go_ret hΘ hm hP hn (hs := [⟨2, .callV [] (B r3), none⟩, ⟨3, .no, some (B false)⟩, ⟨5, .callV [] (B r10), none⟩, ⟨7, .br true, none⟩, ⟨9, .callV [] (B r12), none⟩, ⟨10, .no, some (B false)⟩]) (rh := []) (ph := .raw) (ps := [Meets Try.prog 116 [(FK p1)] (B r3), litA (B r3) = true, (B r3) = (B false), Meets Try.prog 116 [(FK p2)] (B r10), litA (B r10) = true, r10 = true, Meets Try.prog 116 [(FK p1)] (B r12), litA (B r12) = true, (B r12) = (B false), (B false) = (B false), litA (B false) = true]) (by kernel_rfl) ⟨(spec_l1Nan_m hr3), rfl, (litB c9), (spec_l1Nan_m hr10), rfl, c11, (spec_l1Nan_m hr12), rfl, (litB c15), rfl, rfl, trivial⟩
    · exact go_to hΘ hm hx hP hn (hs := [⟨2, .callV [] (B r3), none⟩, ⟨3, .no, some (B false)⟩, ⟨5, .callV [] (B r10), none⟩, ⟨7, .br false, none⟩]) (π := []) (ts := [0, 1]) (kp := []) (ps := [Meets Try.prog 116 [(FK p1)] (B r3), litA (B r3) = true, (B r3) = (B false), Meets Try.prog 116 [(FK p2)] (B r10), litA (B r10) = true, r10 = false]) (by kernel_rfl) ⟨(spec_l1Nan_m hr3), rfl, (litB c9), (spec_l1Nan_m hr10), rfl, c16, trivial⟩ (spec_l1SameNum_j0_m hP hn hx p1 p2  _ h)
noncomputable def body71 : Code := match Try.f71.body with | some c => c | none => .skip
noncomputable def spec_l19Act (p1 : GAct) : Option Bool :=
  if (p1.Kind == 1) = true then
    Option.bind (spec_l1In p1.Cell 0 1) fun r3 =>
    some r3
  else
    if (p1.Kind == 2) = true then
      Option.bind (spec_l1In p1.Cell 0 1) fun r6 =>
      if r6 = true then
        Option.bind (spec_l1SameNum p1.V 0) fun r8 =>
        some r8
      else
        some false
    else
      if (p1.Kind == 3) = true then
        if (p1.Cell == 0) = true then
          Option.bind (spec_l1SameNum p1.V 0) fun r13 =>
          some r13
        else
          some false
      else
        some false
theorem spec_l19Act_m {p1 : GAct} {r : Bool} (h : spec_l19Act p1 = some r) : Meets Try.prog 71 [(AV.agg ((o71 p1)))] (B r) := by
  refine meets_ofC Θ_ok Try.func71 rfl (c := body71) (by kernel_rfl) (Nat.le_of_ble_eq_true rfl) ?_
  intro E hP hn hx
  replace hn : E.n = 33 := hn
  have hm : E.P.follows .mixedOrders = true := by rw [hP]; exact mixed
  have hΘ : TOK E.P Θ := by rw [hP]; exact Θ_ok
  unfold spec_l19Act at h
  show WAt E body71 (FQ (RetE Θ Try.f71.results.toList [] [] (B r) E)) [] ⟨[(0, (AV.agg ((o71 p1))))], [], [JJ]⟩
  rcases itS h with ⟨c2, h⟩ | ⟨c4, h⟩
  · obtain ⟨r3, hr3, h⟩ := bnS h
    have h := Option.some.inj h
    subst h
    exact go_ret hΘ hm hP hn (hs := [⟨0, .new 1001, none⟩, ⟨6, .br true, none⟩, ⟨9, .callV [] (B r3), none⟩]) (rh := []) (ph := .raw) (ps := [(p1.Kind == 1) = true, Meets Try.prog 50 [(I p1.Cell), (I 0), (I 1)] (B r3), litA (B r3) = true, (B r3) = (B r3), litA (B r3) = true]) (by kernel_rfl) ⟨c2, (spec_l1In_m hr3), rfl, rfl, rfl, trivial⟩
  · rcases itS h with ⟨c5, h⟩ | ⟨c10, h⟩
    · obtain ⟨r6, hr6, h⟩ := bnS h
      rcases itS h with ⟨c7, h⟩ | ⟨c9, h⟩
      · obtain ⟨r8, hr8, h⟩ := bnS h
        have h := Option.some.inj h
        subst h
        exact go_ret hΘ hm hP hn (hs := [⟨0, .new 1001, none⟩, ⟨6, .br false, none⟩, ⟨9, .br true, none⟩, ⟨12, .callV [] (B r6), none⟩, ⟨13, .no, some (B true)⟩, ⟨16, .callV [] (B r8), none⟩]) (rh := []) (ph := .raw) (ps := [(p1.Kind == 1) = false, (p1.Kind == 2) = true, Meets Try.prog 50 [(I p1.Cell), (I 0), (I 1)] (B r6), litA (B r6) = true, (B r6) = (B true), Meets Try.prog 103 [(FK p1.V), (FK 0)] (B r8), litA (B r8) = true, (B r8) = (B r8), litA (B r8) = true]) (by kernel_rfl) ⟨c4, c5, (spec_l1In_m hr6), rfl, (litB c7), (spec_l1SameNum_m hr8), rfl, rfl, rfl, trivial⟩
      · have h := Option.some.inj h
        subst h
        exact go_ret hΘ hm hP hn (hs := [⟨0, .new 1001, none⟩, ⟨6, .br false, none⟩, ⟨9, .br true, none⟩, ⟨12, .callV [] (B r6), none⟩, ⟨13, .no, some (B false)⟩]) (rh := []) (ph := .raw) (ps := [(p1.Kind == 1) = false, (p1.Kind == 2) = true, Meets Try.prog 50 [(I p1.Cell), (I 0), (I 1)] (B r6), litA (B r6) = true, (B r6) = (B false), (B false) = (B false), litA (B false) = true]) (by kernel_rfl) ⟨c4, c5, (spec_l1In_m hr6), rfl, (litB c9), rfl, rfl, trivial⟩
    · rcases itS h with ⟨c11, h⟩ | ⟨c15, h⟩
      · rcases itS h with ⟨c12, h⟩ | ⟨c14, h⟩
        · obtain ⟨r13, hr13, h⟩ := bnS h
          have h := Option.some.inj h
          subst h
          exact go_ret hΘ hm hP hn (hs := [⟨0, .new 1001, none⟩, ⟨6, .br false, none⟩, ⟨9, .br false, none⟩, ⟨13, .no, some (B true)⟩, ⟨18, .no, some (B true)⟩, ⟨21, .callV [] (B r13), none⟩]) (rh := []) (ph := .raw) (ps := [(p1.Kind == 1) = false, (p1.Kind == 2) = false, (B (p1.Kind == 3)) = (B true), (B (p1.Cell == 0)) = (B true), Meets Try.prog 103 [(FK p1.V), (FK 0)] (B r13), litA (B r13) = true, (B r13) = (B r13), litA (B r13) = true]) (by kernel_rfl) ⟨c4, c10, (litB c11), (litB c12), (spec_l1SameNum_m hr13), rfl, rfl, rfl, trivial⟩
        · have h := Option.some.inj h
          subst h
          exact go_ret hΘ hm hP hn (hs := [⟨0, .new 1001, none⟩, ⟨6, .br false, none⟩, ⟨9, .br false, none⟩, ⟨13, .no, some (B true)⟩, ⟨18, .no, some (B false)⟩]) (rh := []) (ph := .raw) (ps := [(p1.Kind == 1) = false, (p1.Kind == 2) = false, (B (p1.Kind == 3)) = (B true), (B (p1.Cell == 0)) = (B false), (B false) = (B false), litA (B false) = true]) (by kernel_rfl) ⟨c4, c10, (litB c11), (litB c14), rfl, rfl, trivial⟩
      · have h := Option.some.inj h
        subst h
        exact go_ret hΘ hm hP hn (hs := [⟨0, .new 1001, none⟩, ⟨6, .br false, none⟩, ⟨9, .br false, none⟩, ⟨13, .no, some (B false)⟩]) (rh := []) (ph := .raw) (ps := [(p1.Kind == 1) = false, (p1.Kind == 2) = false, (B (p1.Kind == 3)) = (B false), (B false) = (B false), litA (B false) = true]) (by kernel_rfl) ⟨c4, c10, (litB c15), rfl, rfl, trivial⟩
noncomputable def body41 : Code := match Try.f41.body with | some c => c | none => .skip
noncomputable def spec_GoodLitmus_l1 (K0 : Int → Option Bool) (p1 : (List (List GAct))) (v2 : Int) (x4 : (List GAct)) : Nat → Int → Option Bool
  | 0, _ => none
  | n + 1, v5 =>
  if (decide (v5 < (x4.length : Int))) = true then
    Option.bind (rd x4 v5) fun x7 =>
    Option.bind (spec_l19Act x7) fun r8 =>
    if (!r8) = true then
      some false
    else
      spec_GoodLitmus_l1 K0 p1 v2 x4 n (w64 (v5 + 1))
  else
    if (decide ((x4.length : Int) > 6)) = true then
      some false
    else
      K0 (w64 (v2 + 1))
theorem spec_GoodLitmus_l1_m {E : Env} (hP : E.P = Try.prog) (hn : E.n = 30) (hx : ∀ p, p ∈ E.fx → p.1 ∈ ([] : List Nat)) (p1 : (List (List GAct))) (v2 : Int) (x4 : (List GAct)) {K0 : Int → Option Bool} (hK0 : ∀ (v2 : Int) (r : Bool), K0 v2 = some r → WAt E body41 (FQ (RetE Θ Try.f41.results.toList [] [] (B r) E)) [true, false, true, false] ⟨[(0, (AV.ro 1 (p1.map r68))), (7, (AV.ro 1 (p1.map r68))), (8, (I (p1.length : Int))), (9, (I v2))], [], [JJ]⟩) : ∀ (n : Nat) (v5 : Int) (r : Bool), spec_GoodLitmus_l1 K0 p1 v2 x4 n v5 = some r → WAt E body41 (FQ (RetE Θ Try.f41.results.toList [] [] (B r) E)) [true, false, true, false, false, true, true, false, false, true, false, true, false] ⟨[(0, (AV.ro 1 (p1.map r68))), (4, (AV.ro 3 (x4.map o71))), (7, (AV.ro 1 (p1.map r68))), (8, (I (p1.length : Int))), (9, (I v2)), (13, (AV.ro 3 (x4.map o71))), (14, (I (x4.length : Int))), (15, (I v5))], [], [JJ]⟩ := by
  have hm : E.P.follows .mixedOrders = true := by rw [hP]; exact mixed
  have hΘ : TOK E.P Θ := by rw [hP]; exact Θ_ok
  intro n
  induction n with
  | zero => intro v5 r h; simp only [spec_GoodLitmus_l1] at h; cases h
  | succ n ih =>
    intro v5 r h
    simp only [spec_GoodLitmus_l1] at h
    rcases itS h with ⟨c6, h⟩ | ⟨c11, h⟩
    · obtain ⟨x7, hx7, h⟩ := bnS h
      obtain ⟨r8, hr8, h⟩ := bnS h
      rcases itS h with ⟨c9, h⟩ | ⟨c10, h⟩
      · have h := Option.some.inj h
        subst h
        exact go_ret hΘ hm hP hn (hs := [⟨1, .br true, none⟩, ⟨2, .row (o71 x7), none⟩, ⟨4, .new 1001, none⟩, ⟨7, .callV [[]] (B r8), none⟩, ⟨9, .br true, none⟩]) (rh := []) (ph := .raw) (ps := [(decide (v5 < (x4.length : Int))) = true, (0 : Int) ≤ v5, (x4.map o71)[(Int.toNat v5)]? = some (o71 x7), Meets Try.prog 71 [(AV.agg ((o71 x7)))] (B r8), litA (B r8) = true, (!r8) = true, (B false) = (B false), litA (B false) = true]) (by kernel_rfl) ⟨c6, (rd0 hx7), (rdM o71 hx7), (spec_l19Act_m hr8), rfl, c9, rfl, rfl, trivial⟩
      · exact go_to hΘ hm hx hP hn (hs := [⟨1, .br true, none⟩, ⟨2, .row (o71 x7), none⟩, ⟨4, .new 1001, none⟩, ⟨7, .callV [[]] (B r8), none⟩, ⟨9, .br false, none⟩]) (π := []) (ts := [0, 4, 7, 8, 9, 13, 14, 15]) (kp := []) (ps := [(decide (v5 < (x4.length : Int))) = true, (0 : Int) ≤ v5, (x4.map o71)[(Int.toNat v5)]? = some (o71 x7), Meets Try.prog 71 [(AV.agg ((o71 x7)))] (B r8), litA (B r8) = true, (!r8) = false]) (by kernel_rfl) ⟨c6, (rd0 hx7), (rdM o71 hx7), (spec_l19Act_m hr8), rfl, c10, trivial⟩ (ih (w64 (v5 + 1)) _ h)
    · rcases itS h with ⟨c12, h⟩ | ⟨c13, h⟩
      · have h := Option.some.inj h
        subst h
        exact go_ret hΘ hm hP hn (hs := [⟨1, .br false, none⟩, ⟨3, .no, some (I (x4.length : Int))⟩, ⟨5, .br true, none⟩]) (rh := []) (ph := .raw) (ps := [(decide (v5 < (x4.length : Int))) = false, AV.lit (.int .i64 (((x4.map o71).length : Nat) : Int)) = (I (x4.length : Int)), (decide ((x4.length : Int) > 6)) = true, (B false) = (B false), litA (B false) = true]) (by kernel_rfl) ⟨c11, (lenM o71), c12, rfl, rfl, trivial⟩
      · exact go_to hΘ hm hx hP hn (hs := [⟨1, .br false, none⟩, ⟨3, .no, some (I (x4.length : Int))⟩, ⟨5, .br false, none⟩]) (π := []) (ts := [0, 7, 8, 9]) (kp := []) (ps := [(decide (v5 < (x4.length : Int))) = false, AV.lit (.int .i64 (((x4.map o71).length : Nat) : Int)) = (I (x4.length : Int)), (decide ((x4.length : Int) > 6)) = false]) (by kernel_rfl) ⟨c11, (lenM o71), c13, trivial⟩ (hK0 (w64 (v2 + 1)) _ h)
noncomputable def spec_GoodLitmus_l0  (p1 : (List (List GAct))) : Nat → Int → Option Bool
  | 0, _ => none
  | n + 1, v2 =>
  if (decide (v2 < (p1.length : Int))) = true then
    Option.bind (rd p1 v2) fun x4 =>
    spec_GoodLitmus_l1 (spec_GoodLitmus_l0 p1 n) p1 v2 x4 FU 0
  else
    some (decide ((p1.length : Int) ≤ 3))
theorem spec_GoodLitmus_l0_m {E : Env} (hP : E.P = Try.prog) (hn : E.n = 30) (hx : ∀ p, p ∈ E.fx → p.1 ∈ ([] : List Nat)) (p1 : (List (List GAct)))  : ∀ (n : Nat) (v2 : Int) (r : Bool), spec_GoodLitmus_l0 p1 n v2 = some r → WAt E body41 (FQ (RetE Θ Try.f41.results.toList [] [] (B r) E)) [true, false, true, false] ⟨[(0, (AV.ro 1 (p1.map r68))), (7, (AV.ro 1 (p1.map r68))), (8, (I (p1.length : Int))), (9, (I v2))], [], [JJ]⟩ := by
  have hm : E.P.follows .mixedOrders = true := by rw [hP]; exact mixed
  have hΘ : TOK E.P Θ := by rw [hP]; exact Θ_ok
  intro n
  induction n with
  | zero => intro v2 r h; simp only [spec_GoodLitmus_l0] at h; cases h
  | succ n ih =>
    intro v2 r h
    simp only [spec_GoodLitmus_l0] at h
    rcases itS h with ⟨c3, h⟩ | ⟨c14, h⟩
    · obtain ⟨x4, hx4, h⟩ := bnS h
      exact go_to hΘ hm hx hP hn (hs := [⟨1, .br true, none⟩, ⟨2, .row (r68 x4), none⟩, ⟨6, .no, some (I (x4.length : Int))⟩]) (π := []) (ts := [0, 4, 7, 8, 9, 13, 14, 15]) (kp := []) (ps := [(decide (v2 < (p1.length : Int))) = true, (0 : Int) ≤ v2, (p1.map r68)[(Int.toNat v2)]? = some (r68 x4), AV.lit (.int .i64 (((x4.map o71).length : Nat) : Int)) = (I (x4.length : Int))]) (by kernel_rfl) ⟨c3, (rd0 hx4), (rdM r68 hx4), (lenM o71), trivial⟩ (spec_GoodLitmus_l1_m hP hn hx p1 v2 x4 ih FU 0 _ h)
    · have h := Option.some.inj h
      subst h
      exact go_ret hΘ hm hP hn (hs := [⟨1, .br false, none⟩, ⟨3, .no, some (I (p1.length : Int))⟩]) (rh := []) (ph := .raw) (ps := [(decide (v2 < (p1.length : Int))) = false, AV.lit (.int .i64 (((p1.map r68).length : Nat) : Int)) = (I (p1.length : Int)), (B (decide ((p1.length : Int) ≤ 3))) = (B (decide ((p1.length : Int) ≤ 3))), litA (B (decide ((p1.length : Int) ≤ 3))) = true]) (by kernel_rfl) ⟨c14, (lenM r68), rfl, rfl, trivial⟩
noncomputable def spec_GoodLitmus (p1 : (List (List GAct))) : Option Bool :=
  spec_GoodLitmus_l0 p1 FU 0
theorem spec_GoodLitmus_m {p1 : (List (List GAct))} {r : Bool} (h : spec_GoodLitmus p1 = some r) : Meets Try.prog 41 [(AV.ro 1 (p1.map r68))] (B r) := by
  refine meets_ofC Θ_ok Try.func41 rfl (c := body41) (by kernel_rfl) (Nat.le_of_ble_eq_true rfl) ?_
  intro E hP hn hx
  replace hn : E.n = 30 := hn
  have hm : E.P.follows .mixedOrders = true := by rw [hP]; exact mixed
  have hΘ : TOK E.P Θ := by rw [hP]; exact Θ_ok
  unfold spec_GoodLitmus at h
  show WAt E body41 (FQ (RetE Θ Try.f41.results.toList [] [] (B r) E)) [] ⟨[(0, (AV.ro 1 (p1.map r68)))], [], [JJ]⟩
  exact go_to hΘ hm hx hP hn (hs := [⟨2, .no, some (I (p1.length : Int))⟩]) (π := []) (ts := [0, 7, 8, 9]) (kp := []) (ps := [AV.lit (.int .i64 (((p1.map r68).length : Nat) : Int)) = (I (p1.length : Int))]) (by kernel_rfl) ⟨(lenM r68), trivial⟩ (spec_GoodLitmus_l0_m hP hn hx p1 FU 0 _ h)
noncomputable def body10 : Code := match Try.f10.body with | some c => c | none => .skip
noncomputable def spec_FencedOf_l1 (K0 : (List (List GAct)) → Int → Option ((List (List GAct)) × Bool)) (p1 : (List (List GAct))) (v6 : Int) (x8 : (List GAct)) : Nat → (List (List GAct)) → (List GAct) → Int → Option ((List (List GAct)) × Bool)
  | 0, _, _, _ => none
  | n + 1, a11, a12, v13 =>
  if (decide (v13 < (x8.length : Int))) = true then
    Option.bind (rd x8 v13) fun x15 =>
    Option.bind (app a12 [x15]) fun l16 =>
    if (x15.Kind == 1) = true then
      Option.bind (app l16 [(GAct.mk 3 0 0)]) fun l18 =>
      spec_FencedOf_l1 K0 p1 v6 x8 n a11 l18 (w64 (v13 + 1))
    else
      spec_FencedOf_l1 K0 p1 v6 x8 n a11 l16 (w64 (v13 + 1))
  else
    Option.bind (app a11 [a12]) fun l21 =>
    K0 l21 (w64 (v6 + 1))
theorem spec_FencedOf_l1_m {E : Env} (hP : E.P = Try.prog) (hn : E.n = 46) (hx : ∀ p, p ∈ E.fx → p.1 ∈ ([] : List Nat)) (p1 : (List (List GAct))) (v6 : Int) (x8 : (List GAct)) {K0 : (List (List GAct)) → Int → Option ((List (List GAct)) × Bool)} (hK0 : ∀ (a5 : (List (List GAct))) (v6 : Int) (r : ((List (List GAct)) × Bool)), K0 a5 v6 = some r → WAt E body10 (FQ (RetE Θ Try.f10.results.toList [] [] (AV.tup [(AV.own 68 1 (r.1.map o68)), (B r.2)]) E)) [true, true, true, false, true, false] ⟨[(4, (AV.sl 1 0 (List.length (a5.map o68)))), (13, (AV.ro 1 (p1.map r68))), (14, (I (p1.length : Int))), (15, (I v6))], [(1, some ⟨68, 1, (a5.map o68)⟩)], [1, JJ]⟩) : ∀ (n : Nat) (a11 : (List (List GAct))) (a12 : (List GAct)) (v13 : Int) (r : ((List (List GAct)) × Bool)), spec_FencedOf_l1 K0 p1 v6 x8 n a11 a12 v13 = some r → WAt E body10 (FQ (RetE Θ Try.f10.results.toList [] [] (AV.tup [(AV.own 68 1 (r.1.map o68)), (B r.2)]) E)) [true, true, true, false, true, false, false, true, true, false, false, true, true, true, false, true, false] ⟨[(4, (AV.sl 1 0 (List.length (a11.map o68)))), (7, (AV.sl 2 0 (List.length (a12.map o71)))), (13, (AV.ro 1 (p1.map r68))), (14, (I (p1.length : Int))), (15, (I v6)), (22, (AV.ro 3 (x8.map o71))), (23, (I (x8.length : Int))), (24, (I v13))], [(1, some ⟨68, 1, (a11.map o68)⟩), (2, some ⟨71, 3, (a12.map o71)⟩)], [1, 2, JJ]⟩ := by
  have hm : E.P.follows .mixedOrders = true := by rw [hP]; exact mixed
  have hΘ : TOK E.P Θ := by rw [hP]; exact Θ_ok
  intro n
  induction n with
  | zero => intro a11 a12 v13 r h; simp only [spec_FencedOf_l1] at h; cases h
  | succ n ih =>
    intro a11 a12 v13 r h
    simp only [spec_FencedOf_l1] at h
    rcases itS h with ⟨c14, h⟩ | ⟨c20, h⟩
    · obtain ⟨x15, hx15, h⟩ := bnS h
      obtain ⟨l16, hl16, h⟩ := bnS h
      rcases itS h with ⟨c17, h⟩ | ⟨c19, h⟩
      · obtain ⟨l18, hl18, h⟩ := bnS h
        exact go_to hΘ hm hx hP hn (hs := [⟨1, .br true, none⟩, ⟨2, .row (o71 x15), none⟩, ⟨4, .new 1001, none⟩, ⟨8, .new 1002, none⟩, ⟨9, .app 1003 (l16.map o71), none⟩, ⟨14, .br true, none⟩, ⟨17, .new 1004, none⟩, ⟨18, .app 1005 (l18.map o71), none⟩]) (π := [(1, 1), (1005, 2)]) (ts := [4, 7, 13, 14, 15, 22, 23, 24]) (kp := []) (ps := [(decide (v13 < (x8.length : Int))) = true, (0 : Int) ≤ v13, (x8.map o71)[(Int.toNat v13)]? = some (o71 x15), (a12.map o71).take (List.length (a12.map o71)) ++ ((([x15].map o71).drop 0).take (List.length ([x15].map o71))) = (l16.map o71), ((([x15].map o71).drop 0).take (List.length ([x15].map o71))).all (fun r => r.all AV.plain) = true, (List.length (l16.map o71)) * 24 ≤ 140737488355328, (List.length (l16.map o71)) ≤ 140737488355328, (x15.Kind == 1) = true, (l16.map o71).take (List.length (l16.map o71)) ++ ((([(GAct.mk 3 0 0)].map o71).drop 0).take (List.length ([(GAct.mk 3 0 0)].map o71))) = (l18.map o71), ((([(GAct.mk 3 0 0)].map o71).drop 0).take (List.length ([(GAct.mk 3 0 0)].map o71))).all (fun r => r.all AV.plain) = true, (List.length (l18.map o71)) * 24 ≤ 140737488355328, (List.length (l18.map o71)) ≤ 140737488355328, RenOK [(1, 1), (1005, 2)] (a11.map o68), RenOK [(1, 1), (1005, 2)] (l18.map o71)]) (by kernel_rfl) ⟨c14, (rd0 hx15), (rdM o71 hx15), (appTD o71 hl16), (plD p71), (appB o71 hl16 (by decide)), (appC o71 hl16), c17, (appTD o71 hl18), (plD p71), (appB o71 hl18 (by decide)), (appC o71 hl18), (rok (treeM t68)), (rok (treeM t71)), trivial⟩ (ih a11 l18 (w64 (v13 + 1)) _ h)
      · exact go_to hΘ hm hx hP hn (hs := [⟨1, .br true, none⟩, ⟨2, .row (o71 x15), none⟩, ⟨4, .new 1001, none⟩, ⟨8, .new 1002, none⟩, ⟨9, .app 1003 (l16.map o71), none⟩, ⟨14, .br false, none⟩]) (π := [(1, 1), (1003, 2)]) (ts := [4, 7, 13, 14, 15, 22, 23, 24]) (kp := []) (ps := [(decide (v13 < (x8.length : Int))) = true, (0 : Int) ≤ v13, (x8.map o71)[(Int.toNat v13)]? = some (o71 x15), (a12.map o71).take (List.length (a12.map o71)) ++ ((([x15].map o71).drop 0).take (List.length ([x15].map o71))) = (l16.map o71), ((([x15].map o71).drop 0).take (List.length ([x15].map o71))).all (fun r => r.all AV.plain) = true, (List.length (l16.map o71)) * 24 ≤ 140737488355328, (List.length (l16.map o71)) ≤ 140737488355328, (x15.Kind == 1) = false, RenOK [(1, 1), (1003, 2)] (a11.map o68), RenOK [(1, 1), (1003, 2)] (l16.map o71)]) (by kernel_rfl) ⟨c14, (rd0 hx15), (rdM o71 hx15), (appTD o71 hl16), (plD p71), (appB o71 hl16 (by decide)), (appC o71 hl16), c19, (rok (treeM t68)), (rok (treeM t71)), trivial⟩ (ih a11 l16 (w64 (v13 + 1)) _ h)
    · obtain ⟨l21, hl21, h⟩ := bnS h
      exact go_to hΘ hm hx hP hn (hs := [⟨1, .br false, none⟩, ⟨4, .new 1006, none⟩, ⟨5, .app 1007 ((a11.map o68) ++ [[(AV.sl 2 0 (List.length (a12.map o71)))]]), none⟩, ⟨6, .pack 1007 2 (List.length a11) 0 [(AV.sl 2 0 (List.length (a12.map o71)))] (l21.map o68), none⟩, ⟨9, .slen 4 (List.length (l21.map o68)), none⟩]) (π := [(1007, 1)]) (ts := [4, 13, 14, 15]) (kp := []) (ps := [(decide (v13 < (x8.length : Int))) = false, (a11.map o68).take (List.length (a11.map o68)) ++ [[(AV.sl 2 0 (List.length (a12.map o71)))]] = ((a11.map o68) ++ [[(AV.sl 2 0 (List.length (a12.map o71)))]]), [[(AV.sl 2 0 (List.length (a12.map o71)))]].all (fun r => r.all AV.plain) = true, (List.length ((a11.map o68) ++ [[(AV.sl 2 0 (List.length (a12.map o71)))]])) * 24 ≤ 140737488355328, (List.length ((a11.map o68) ++ [[(AV.sl 2 0 (List.length (a12.map o71)))]])) ≤ 140737488355328, ((a11.map o68) ++ [[(AV.sl 2 0 (List.length (a12.map o71)))]])[(List.length a11)]? = some [(AV.sl 2 0 (List.length (a12.map o71)))], [(AV.sl 2 0 (List.length (a12.map o71)))][0]? = some (AV.sl 2 0 (List.length (a12.map o71))), treeLL (a12.map o71) = true, ((a11.map o68) ++ [[(AV.sl 2 0 (List.length (a12.map o71)))]]).set (List.length a11) ([(AV.sl 2 0 (List.length (a12.map o71)))].set 0 (AV.own 71 3 (a12.map o71))) = (l21.map o68), (List.length ((a11.map o68) ++ [[(AV.sl 2 0 (List.length (a12.map o71)))]])) = (List.length (l21.map o68)), RenOK [(1007, 1)] (l21.map o68)]) (by kernel_rfl) ⟨c20, (apT o68), rfl, (apB o68 hl21 (by decide)), (apC o68 hl21), (apG o68), rfl, (treeM t71), (apS o68 hl21), (apLn o68 hl21), (rok (treeM t68)), trivial⟩ (hK0 l21 (w64 (v6 + 1)) _ h)
noncomputable def spec_FencedOf_l0  (p1 : (List (List GAct))) : Nat → (List (List GAct)) → Int → Option ((List (List GAct)) × Bool)
  | 0, _, _ => none
  | n + 1, a5, v6 =>
  if (decide (v6 < (p1.length : Int))) = true then
    Option.bind (rd p1 v6) fun x8 =>
    if (decide ((x8.length : Int) > 3)) = true then
      some ([], false)
    else
      spec_FencedOf_l1 (spec_FencedOf_l0 p1 n) p1 v6 x8 FU a5 [] 0
  else
    some (a5, true)
theorem spec_FencedOf_l0_m {E : Env} (hP : E.P = Try.prog) (hn : E.n = 46) (hx : ∀ p, p ∈ E.fx → p.1 ∈ ([] : List Nat)) (p1 : (List (List GAct)))  : ∀ (n : Nat) (a5 : (List (List GAct))) (v6 : Int) (r : ((List (List GAct)) × Bool)), spec_FencedOf_l0 p1 n a5 v6 = some r → WAt E body10 (FQ (RetE Θ Try.f10.results.toList [] [] (AV.tup [(AV.own 68 1 (r.1.map o68)), (B r.2)]) E)) [true, true, true, false, true, false] ⟨[(4, (AV.sl 1 0 (List.length (a5.map o68)))), (13, (AV.ro 1 (p1.map r68))), (14, (I (p1.length : Int))), (15, (I v6))], [(1, some ⟨68, 1, (a5.map o68)⟩)], [1, JJ]⟩ := by
  have hm : E.P.follows .mixedOrders = true := by rw [hP]; exact mixed
  have hΘ : TOK E.P Θ := by rw [hP]; exact Θ_ok
  intro n
  induction n with
  | zero => intro a5 v6 r h; simp only [spec_FencedOf_l0] at h; cases h
  | succ n ih =>
    intro a5 v6 r h
    simp only [spec_FencedOf_l0] at h
    rcases itS h with ⟨c7, h⟩ | ⟨c22, h⟩
    · obtain ⟨x8, hx8, h⟩ := bnS h
      rcases itS h with ⟨c9, h⟩ | ⟨c10, h⟩
      · have h := Option.some.inj h
        subst h
        exact go_ret hΘ hm hP hn (hs := [⟨1, .br true, none⟩, ⟨2, .row (r68 x8), none⟩, ⟨6, .no, some (I (x8.length : Int))⟩, ⟨8, .br true, none⟩]) (rh := []) (ph := .agg [.own, .raw]) (ps := [(decide (v6 < (p1.length : Int))) = true, (0 : Int) ≤ v6, (p1.map r68)[(Int.toNat v6)]? = some (r68 x8), AV.lit (.int .i64 (((x8.map o71).length : Nat) : Int)) = (I (x8.length : Int)), (decide ((x8.length : Int) > 3)) = true, (B false) = (B false), litA (B false) = true]) (by kernel_rfl) ⟨c7, (rd0 hx8), (rdM r68 hx8), (lenM o71), c9, rfl, rfl, trivial⟩
      · exact go_to hΘ hm hx hP hn (hs := [⟨1, .br true, none⟩, ⟨2, .row (r68 x8), none⟩, ⟨6, .no, some (I (x8.length : Int))⟩, ⟨8, .br false, none⟩, ⟨11, .no, some (I (x8.length : Int))⟩, ⟨13, .nil 7 1001 71 3, none⟩]) (π := [(1, 1), (1001, 2)]) (ts := [4, 7, 13, 14, 15, 22, 23, 24]) (kp := []) (ps := [(decide (v6 < (p1.length : Int))) = true, (0 : Int) ≤ v6, (p1.map r68)[(Int.toNat v6)]? = some (r68 x8), AV.lit (.int .i64 (((x8.map o71).length : Nat) : Int)) = (I (x8.length : Int)), (decide ((x8.length : Int) > 3)) = false, AV.lit (.int .i64 (((x8.map o71).length : Nat) : Int)) = (I (x8.length : Int)), RenOK [(1, 1), (1001, 2)] (a5.map o68), RenOK [(1, 1), (1001, 2)] ([].map o71)]) (by kernel_rfl) ⟨c7, (rd0 hx8), (rdM r68 hx8), (lenM o71), c10, (lenM o71), (rok (treeM t68)), (rok (treeM t71)), trivial⟩ (spec_FencedOf_l1_m hP hn hx p1 v6 x8 ih FU a5 [] 0 _ h)
    · have h := Option.some.inj h
      subst h
      exact go_ret hΘ hm hP hn (hs := [⟨1, .br false, none⟩]) (rh := []) (ph := .agg [.own, .raw]) (ps := [(decide (v6 < (p1.length : Int))) = false, treeLL ((a5.map o68).take (List.length (a5.map o68))) = true, (a5.map o68).take (List.length (a5.map o68)) = (a5.map o68), noRoLL (a5.map o68) = true, (B true) = (B true), litA (B true) = true]) (by kernel_rfl) ⟨c22, (treeT t68), takeM, (noRoM n68), rfl, rfl, trivial⟩
noncomputable def spec_FencedOf (p1 : (List (List GAct))) : Option ((List (List GAct)) × Bool) :=
  Option.bind (spec_GoodLitmus p1) fun r2 =>
  if (!r2) = true then
    some ([], false)
  else
    spec_FencedOf_l0 p1 FU [] 0
theorem spec_FencedOf_m {p1 : (List (List GAct))} {r : ((List (List GAct)) × Bool)} (h : spec_FencedOf p1 = some r) : Meets Try.prog 10 [(AV.ro 1 (p1.map r68))] (AV.tup [(AV.own 68 1 (r.1.map o68)), (B r.2)]) := by
  refine meets_ofC Θ_ok Try.func10 rfl (c := body10) (by kernel_rfl) (Nat.le_of_ble_eq_true rfl) ?_
  intro E hP hn hx
  replace hn : E.n = 46 := hn
  have hm : E.P.follows .mixedOrders = true := by rw [hP]; exact mixed
  have hΘ : TOK E.P Θ := by rw [hP]; exact Θ_ok
  unfold spec_FencedOf at h
  show WAt E body10 (FQ (RetE Θ Try.f10.results.toList [] [] (AV.tup [(AV.own 68 1 (r.1.map o68)), (B r.2)]) E)) [] ⟨[(0, (AV.ro 1 (p1.map r68)))], [], [JJ]⟩
  obtain ⟨r2, hr2, h⟩ := bnS h
  rcases itS h with ⟨c3, h⟩ | ⟨c4, h⟩
  · have h := Option.some.inj h
    subst h
    exact go_ret hΘ hm hP hn (hs := [⟨3, .callV [] (B r2), none⟩, ⟨5, .br true, none⟩]) (rh := []) (ph := .agg [.own, .raw]) (ps := [Meets Try.prog 41 [(AV.ro 1 (p1.map r68))] (B r2), litA (B r2) = true, (!r2) = true, (B false) = (B false), litA (B false) = true]) (by kernel_rfl) ⟨(spec_GoodLitmus_m hr2), rfl, c3, rfl, rfl, trivial⟩
  · exact go_to hΘ hm hx hP hn (hs := [⟨3, .callV [] (B r2), none⟩, ⟨5, .br false, none⟩, ⟨8, .no, some (I (p1.length : Int))⟩, ⟨10, .nil 4 1001 68 1, none⟩]) (π := [(1001, 1)]) (ts := [4, 13, 14, 15]) (kp := []) (ps := [Meets Try.prog 41 [(AV.ro 1 (p1.map r68))] (B r2), litA (B r2) = true, (!r2) = false, AV.lit (.int .i64 (((p1.map r68).length : Nat) : Int)) = (I (p1.length : Int)), RenOK [(1001, 1)] ([].map o68)]) (by kernel_rfl) ⟨(spec_GoodLitmus_m hr2), rfl, c4, (lenM r68), (rok (treeM t68)), trivial⟩ (spec_FencedOf_l0_m hP hn hx p1 FU [] 0 _ h)
noncomputable def body3 : Code := match Try.f3.body with | some c => c | none => .skip
noncomputable def laws_FnExactFencedOf_j2  (r27 : (Int × (List (List GAct))))  : Option Bool :=
  Option.bind (laws_heldActSS r27.2 1) fun r41 =>
  if (decide (r41 < 0)) = true then
    some false
  else
    if (r41 != r27.1) = true then
      some false
    else
      some true
theorem laws_FnExactFencedOf_j2_m {E : Env} (hP : E.P = Try.prog) (hn : E.n = 96) (hx : ∀ p, p ∈ E.fx → p.1 ∈ ([] : List Nat)) (r27 : (Int × (List (List GAct))))   (r : Bool) (h : laws_FnExactFencedOf_j2 r27  = some r) : WAt E body3 (FQ (RetE Θ Try.f3.results.toList [] [] (B r) E)) [true, true, true, true, true, true, true, true, true, true, true, true, true, true, true, true, true, true, true, false, true, true] ⟨[(7, (AV.sl 1 0 (List.length (r27.2.map o68)))), (10, (I r27.1))], [(1, some ⟨68, 1, (r27.2.map o68)⟩)], [1, JJ]⟩ := by
  have hm : E.P.follows .mixedOrders = true := by rw [hP]; exact mixed
  have hΘ : TOK E.P Θ := by rw [hP]; exact Θ_ok
  unfold laws_FnExactFencedOf_j2 at h
  obtain ⟨r41, hr41, h⟩ := bnS h
  rcases itS h with ⟨c42, h⟩ | ⟨c43, h⟩
  · have h := Option.some.inj h
    subst h
    exact go_ret hΘ hm hP hn (hs := [⟨3, .callV [(r27.2.map r68)] (I r41), none⟩, ⟨7, .br true, none⟩]) (rh := []) (ph := .raw) (ps := [Meets Try.prog 15 [(AV.ro 1 (r27.2.map r68)), (I 1)] (I r41), litA (I r41) = true, Frz (((r27.2.map o68).drop 0).take (List.length (r27.2.map o68))) (r27.2.map r68), (decide (r41 < 0)) = true, (B false) = (B false), litA (B false) = true]) (by kernel_rfl) ⟨(laws_heldActSS_m hr41), rfl, (frzF t68 z68), c42, rfl, rfl, trivial⟩
  · rcases itS h with ⟨c44, h⟩ | ⟨c45, h⟩
    · have h := Option.some.inj h
      subst h
      exact go_ret hΘ hm hP hn (hs := [⟨3, .callV [(r27.2.map r68)] (I r41), none⟩, ⟨7, .br false, none⟩, ⟨11, .br true, none⟩]) (rh := []) (ph := .raw) (ps := [Meets Try.prog 15 [(AV.ro 1 (r27.2.map r68)), (I 1)] (I r41), litA (I r41) = true, Frz (((r27.2.map o68).drop 0).take (List.length (r27.2.map o68))) (r27.2.map r68), (decide (r41 < 0)) = false, (r41 != r27.1) = true, (B false) = (B false), litA (B false) = true]) (by kernel_rfl) ⟨(laws_heldActSS_m hr41), rfl, (frzF t68 z68), c43, c44, rfl, rfl, trivial⟩
    · have h := Option.some.inj h
      subst h
      exact go_ret hΘ hm hP hn (hs := [⟨3, .callV [(r27.2.map r68)] (I r41), none⟩, ⟨7, .br false, none⟩, ⟨11, .br false, none⟩]) (rh := []) (ph := .raw) (ps := [Meets Try.prog 15 [(AV.ro 1 (r27.2.map r68)), (I 1)] (I r41), litA (I r41) = true, Frz (((r27.2.map o68).drop 0).take (List.length (r27.2.map o68))) (r27.2.map r68), (decide (r41 < 0)) = false, (r41 != r27.1) = false, (B true) = (B true), litA (B true) = true]) (by kernel_rfl) ⟨(laws_heldActSS_m hr41), rfl, (frzF t68 z68), c43, c45, rfl, rfl, trivial⟩
noncomputable def laws_FnExactFencedOf_j1  (p1 : (List (List GAct))) (r6 : ((List (List GAct)) × Bool)) (r8 : ((List (List GAct)) × Bool))  : Option Bool :=
  Option.bind (laws_markActSS r8.1 1) fun r27 =>
  Option.bind (sameLen r8.1 r27.2) fun q28 =>
  Option.bind (laws_heldActSS r27.2 1) fun r29 =>
  if (decide (r29 < 0)) = true then
    some false
  else
    if (r29 != r27.1) = true then
      some false
    else
      Option.bind (laws_toActSS p1) fun r34 =>
      Option.bind (impl_FencedOf r34) fun r35 =>
      Option.bind (laws_eqActSS r35.1 r6.1) fun r36 =>
      if (!r36) = true then
        some false
      else
        if (!(r35.2 == r6.2)) = true then
          some false
        else
          laws_FnExactFencedOf_j2 r27
theorem laws_FnExactFencedOf_j1_m {E : Env} (hP : E.P = Try.prog) (hn : E.n = 96) (hx : ∀ p, p ∈ E.fx → p.1 ∈ ([] : List Nat)) (p1 : (List (List GAct))) (r6 : ((List (List GAct)) × Bool)) (r8 : ((List (List GAct)) × Bool))   (r : Bool) (h : laws_FnExactFencedOf_j1 p1 r6 r8  = some r) : WAt E body3 (FQ (RetE Θ Try.f3.results.toList [] [] (B r) E)) [true, true, true, true, true, true, true, true, true, true, true, false, true, true] ⟨[(0, (AV.ro 1 (p1.map r66))), (4, (AV.sl 1 0 (List.length (r6.1.map o68)))), (5, (B r6.2)), (7, (AV.sl 2 0 (List.length (r8.1.map o68))))], [(1, some ⟨68, 1, (r6.1.map o68)⟩), (2, some ⟨68, 1, (r8.1.map o68)⟩)], [1, 2, JJ]⟩ := by
  have hm : E.P.follows .mixedOrders = true := by rw [hP]; exact mixed
  have hΘ : TOK E.P Θ := by rw [hP]; exact Θ_ok
  unfold laws_FnExactFencedOf_j1 at h
  obtain ⟨r27, hr27, h⟩ := bnS h
  obtain ⟨q28, hq28, h⟩ := bnS h
  obtain ⟨r29, hr29, h⟩ := bnS h
  rcases itS h with ⟨c30, h⟩ | ⟨c31, h⟩
  · have h := Option.some.inj h
    subst h
    exact go_ret hΘ hm hP hn (hs := [⟨3, .callX [2] [true] [⟨68, 1, (r8.1.map o68)⟩] [⟨68, 1, (r27.2.map o68)⟩] [] (I r27.1) [] (I r27.1) [], none⟩, ⟨6, .slen 7 (List.length (r27.2.map o68)), none⟩, ⟨8, .callV [(r27.2.map r68)] (I r29), none⟩, ⟨12, .br true, none⟩]) (rh := []) (ph := .raw) (ps := [MeetsR Try.prog 14 [⟨68, 1, (r8.1.map o68)⟩] [(AV.sl 0 0 (List.length (r8.1.map o68))), (I 1)] [true] [⟨68, 1, (r27.2.map o68)⟩] (I r27.1), (some (Root.mk 68 1 (r8.1.map o68)) = some (Root.mk 68 1 (r8.1.map o68))) ∧ True, (treeLL (r8.1.map o68) = true ∧ noRoLL (r8.1.map o68) = true) ∧ True, ((r27.2.map o68).length = (r8.1.map o68).length) ∧ True, (rtf (renA [(0, 2)] (I r27.1)) []).1 = (I r27.1), (rtf (renA [(0, 2)] (I r27.1)) []).2.1 = [], (List.length (r8.1.map o68)) = (List.length (r27.2.map o68)), Meets Try.prog 15 [(AV.ro 1 (r27.2.map r68)), (I 1)] (I r29), litA (I r29) = true, Frz (((r27.2.map o68).drop 0).take (List.length (r27.2.map o68))) (r27.2.map r68), (decide (r29 < 0)) = true, (B false) = (B false), litA (B false) = true]) (by kernel_rfl) ⟨(laws_markActSS_m hr27), ⟨rfl, trivial⟩, ⟨⟨treeM t68, noRoM n68⟩, trivial⟩, ⟨(sameLenE o68 hq28), trivial⟩, rfl, rfl, (sameLenE o68 hq28).symm, (laws_heldActSS_m hr29), rfl, (frzF t68 z68), c30, rfl, rfl, trivial⟩
  · rcases itS h with ⟨c32, h⟩ | ⟨c33, h⟩
    · have h := Option.some.inj h
      subst h
      exact go_ret hΘ hm hP hn (hs := [⟨3, .callX [2] [true] [⟨68, 1, (r8.1.map o68)⟩] [⟨68, 1, (r27.2.map o68)⟩] [] (I r27.1) [] (I r27.1) [], none⟩, ⟨6, .slen 7 (List.length (r27.2.map o68)), none⟩, ⟨8, .callV [(r27.2.map r68)] (I r29), none⟩, ⟨12, .br false, none⟩, ⟨16, .br true, none⟩]) (rh := []) (ph := .raw) (ps := [MeetsR Try.prog 14 [⟨68, 1, (r8.1.map o68)⟩] [(AV.sl 0 0 (List.length (r8.1.map o68))), (I 1)] [true] [⟨68, 1, (r27.2.map o68)⟩] (I r27.1), (some (Root.mk 68 1 (r8.1.map o68)) = some (Root.mk 68 1 (r8.1.map o68))) ∧ True, (treeLL (r8.1.map o68) = true ∧ noRoLL (r8.1.map o68) = true) ∧ True, ((r27.2.map o68).length = (r8.1.map o68).length) ∧ True, (rtf (renA [(0, 2)] (I r27.1)) []).1 = (I r27.1), (rtf (renA [(0, 2)] (I r27.1)) []).2.1 = [], (List.length (r8.1.map o68)) = (List.length (r27.2.map o68)), Meets Try.prog 15 [(AV.ro 1 (r27.2.map r68)), (I 1)] (I r29), litA (I r29) = true, Frz (((r27.2.map o68).drop 0).take (List.length (r27.2.map o68))) (r27.2.map r68), (decide (r29 < 0)) = false, (r29 != r27.1) = true, (B false) = (B false), litA (B false) = true]) (by kernel_rfl) ⟨(laws_markActSS_m hr27), ⟨rfl, trivial⟩, ⟨⟨treeM t68, noRoM n68⟩, trivial⟩, ⟨(sameLenE o68 hq28), trivial⟩, rfl, rfl, (sameLenE o68 hq28).symm, (laws_heldActSS_m hr29), rfl, (frzF t68 z68), c31, c32, rfl, rfl, trivial⟩
    · obtain ⟨r34, hr34, h⟩ := bnS h
      obtain ⟨r35, hr35, h⟩ := bnS h
      obtain ⟨r36, hr36, h⟩ := bnS h
      rcases itS h with ⟨c37, h⟩ | ⟨c38, h⟩
      · have h := Option.some.inj h
        subst h
        exact go_ret hΘ hm hP hn (hs := [⟨3, .callX [2] [true] [⟨68, 1, (r8.1.map o68)⟩] [⟨68, 1, (r27.2.map o68)⟩] [] (I r27.1) [] (I r27.1) [], none⟩, ⟨6, .slen 7 (List.length (r27.2.map o68)), none⟩, ⟨8, .callV [(r27.2.map r68)] (I r29), none⟩, ⟨12, .br false, none⟩, ⟨16, .br false, none⟩, ⟨18, .call [] (AV.own 68 1 (r34.map o68)) [1001], none⟩, ⟨19, .call [(r34.map r68)] (AV.tup [(AV.own 68 1 (r35.1.map o68)), (B r35.2)]) [1002], none⟩, ⟨27, .callV [(r35.1.map r68), (r6.1.map r68)] (B r36), none⟩, ⟨29, .no, some (B true)⟩]) (rh := []) (ph := .raw) (ps := [MeetsR Try.prog 14 [⟨68, 1, (r8.1.map o68)⟩] [(AV.sl 0 0 (List.length (r8.1.map o68))), (I 1)] [true] [⟨68, 1, (r27.2.map o68)⟩] (I r27.1), (some (Root.mk 68 1 (r8.1.map o68)) = some (Root.mk 68 1 (r8.1.map o68))) ∧ True, (treeLL (r8.1.map o68) = true ∧ noRoLL (r8.1.map o68) = true) ∧ True, ((r27.2.map o68).length = (r8.1.map o68).length) ∧ True, (rtf (renA [(0, 2)] (I r27.1)) []).1 = (I r27.1), (rtf (renA [(0, 2)] (I r27.1)) []).2.1 = [], (List.length (r8.1.map o68)) = (List.length (r27.2.map o68)), Meets Try.prog 15 [(AV.ro 1 (r27.2.map r68)), (I 1)] (I r29), litA (I r29) = true, Frz (((r27.2.map o68).drop 0).take (List.length (r27.2.map o68))) (r27.2.map r68), (decide (r29 < 0)) = false, (r29 != r27.1) = false, Meets Try.prog 11 [(AV.ro 1 (p1.map r66))] (AV.own 68 1 (r34.map o68)), noRo (AV.own 68 1 (r34.map o68)) = true, Meets Try.prog 12 [(AV.ro 1 (r34.map r68))] (AV.tup [(AV.own 68 1 (r35.1.map o68)), (B r35.2)]), noRo (AV.tup [(AV.own 68 1 (r35.1.map o68)), (B r35.2)]) = true, Frz (((r34.map o68).drop 0).take (List.length (r34.map o68))) (r34.map r68), Meets Try.prog 13 [(AV.ro 1 (r35.1.map r68)), (AV.ro 1 (r6.1.map r68))] (B r36), litA (B r36) = true, Frz (((r35.1.map o68).drop 0).take (List.length (r35.1.map o68))) (r35.1.map r68), Frz (((r6.1.map o68).drop 0).take (List.length (r6.1.map o68))) (r6.1.map r68), (B (!r36)) = (B true), (B false) = (B false), litA (B false) = true]) (by kernel_rfl) ⟨(laws_markActSS_m hr27), ⟨rfl, trivial⟩, ⟨⟨treeM t68, noRoM n68⟩, trivial⟩, ⟨(sameLenE o68 hq28), trivial⟩, rfl, rfl, (sameLenE o68 hq28).symm, (laws_heldActSS_m hr29), rfl, (frzF t68 z68), c31, c33, (laws_toActSS_m hr34), (by simp only [noRo, noRoL, noRoM n68, Bool.and_self]), (impl_FencedOf_m hr35), (by simp only [noRo, noRoL, noRoM n68, Bool.and_self]), (frzF t68 z68), (laws_eqActSS_m hr36), rfl, (frzF t68 z68), (frzF t68 z68), (litB c37), rfl, rfl, trivial⟩
      · rcases itS h with ⟨c39, h⟩ | ⟨c40, h⟩
        · have h := Option.some.inj h
          subst h
          exact go_ret hΘ hm hP hn (hs := [⟨3, .callX [2] [true] [⟨68, 1, (r8.1.map o68)⟩] [⟨68, 1, (r27.2.map o68)⟩] [] (I r27.1) [] (I r27.1) [], none⟩, ⟨6, .slen 7 (List.length (r27.2.map o68)), none⟩, ⟨8, .callV [(r27.2.map r68)] (I r29), none⟩, ⟨12, .br false, none⟩, ⟨16, .br false, none⟩, ⟨18, .call [] (AV.own 68 1 (r34.map o68)) [1001], none⟩, ⟨19, .call [(r34.map r68)] (AV.tup [(AV.own 68 1 (r35.1.map o68)), (B r35.2)]) [1002], none⟩, ⟨27, .callV [(r35.1.map r68), (r6.1.map r68)] (B r36), none⟩, ⟨29, .no, some (B false)⟩, ⟨34, .br true, none⟩]) (rh := []) (ph := .raw) (ps := [MeetsR Try.prog 14 [⟨68, 1, (r8.1.map o68)⟩] [(AV.sl 0 0 (List.length (r8.1.map o68))), (I 1)] [true] [⟨68, 1, (r27.2.map o68)⟩] (I r27.1), (some (Root.mk 68 1 (r8.1.map o68)) = some (Root.mk 68 1 (r8.1.map o68))) ∧ True, (treeLL (r8.1.map o68) = true ∧ noRoLL (r8.1.map o68) = true) ∧ True, ((r27.2.map o68).length = (r8.1.map o68).length) ∧ True, (rtf (renA [(0, 2)] (I r27.1)) []).1 = (I r27.1), (rtf (renA [(0, 2)] (I r27.1)) []).2.1 = [], (List.length (r8.1.map o68)) = (List.length (r27.2.map o68)), Meets Try.prog 15 [(AV.ro 1 (r27.2.map r68)), (I 1)] (I r29), litA (I r29) = true, Frz (((r27.2.map o68).drop 0).take (List.length (r27.2.map o68))) (r27.2.map r68), (decide (r29 < 0)) = false, (r29 != r27.1) = false, Meets Try.prog 11 [(AV.ro 1 (p1.map r66))] (AV.own 68 1 (r34.map o68)), noRo (AV.own 68 1 (r34.map o68)) = true, Meets Try.prog 12 [(AV.ro 1 (r34.map r68))] (AV.tup [(AV.own 68 1 (r35.1.map o68)), (B r35.2)]), noRo (AV.tup [(AV.own 68 1 (r35.1.map o68)), (B r35.2)]) = true, Frz (((r34.map o68).drop 0).take (List.length (r34.map o68))) (r34.map r68), Meets Try.prog 13 [(AV.ro 1 (r35.1.map r68)), (AV.ro 1 (r6.1.map r68))] (B r36), litA (B r36) = true, Frz (((r35.1.map o68).drop 0).take (List.length (r35.1.map o68))) (r35.1.map r68), Frz (((r6.1.map o68).drop 0).take (List.length (r6.1.map o68))) (r6.1.map r68), (B (!r36)) = (B false), (!(r35.2 == r6.2)) = true, (B false) = (B false), litA (B false) = true]) (by kernel_rfl) ⟨(laws_markActSS_m hr27), ⟨rfl, trivial⟩, ⟨⟨treeM t68, noRoM n68⟩, trivial⟩, ⟨(sameLenE o68 hq28), trivial⟩, rfl, rfl, (sameLenE o68 hq28).symm, (laws_heldActSS_m hr29), rfl, (frzF t68 z68), c31, c33, (laws_toActSS_m hr34), (by simp only [noRo, noRoL, noRoM n68, Bool.and_self]), (impl_FencedOf_m hr35), (by simp only [noRo, noRoL, noRoM n68, Bool.and_self]), (frzF t68 z68), (laws_eqActSS_m hr36), rfl, (frzF t68 z68), (frzF t68 z68), (litB c38), c39, rfl, rfl, trivial⟩
        · exact go_to hΘ hm hx hP hn (hs := [⟨3, .callX [2] [true] [⟨68, 1, (r8.1.map o68)⟩] [⟨68, 1, (r27.2.map o68)⟩] [] (I r27.1) [] (I r27.1) [], none⟩, ⟨6, .slen 7 (List.length (r27.2.map o68)), none⟩, ⟨8, .callV [(r27.2.map r68)] (I r29), none⟩, ⟨12, .br false, none⟩, ⟨16, .br false, none⟩, ⟨18, .call [] (AV.own 68 1 (r34.map o68)) [1001], none⟩, ⟨19, .call [(r34.map r68)] (AV.tup [(AV.own 68 1 (r35.1.map o68)), (B r35.2)]) [1002], none⟩, ⟨27, .callV [(r35.1.map r68), (r6.1.map r68)] (B r36), none⟩, ⟨29, .no, some (B false)⟩, ⟨34, .br false, none⟩]) (π := [(2, 1)]) (ts := [7, 10]) (kp := []) (ps := [MeetsR Try.prog 14 [⟨68, 1, (r8.1.map o68)⟩] [(AV.sl 0 0 (List.length (r8.1.map o68))), (I 1)] [true] [⟨68, 1, (r27.2.map o68)⟩] (I r27.1), (some (Root.mk 68 1 (r8.1.map o68)) = some (Root.mk 68 1 (r8.1.map o68))) ∧ True, (treeLL (r8.1.map o68) = true ∧ noRoLL (r8.1.map o68) = true) ∧ True, ((r27.2.map o68).length = (r8.1.map o68).length) ∧ True, (rtf (renA [(0, 2)] (I r27.1)) []).1 = (I r27.1), (rtf (renA [(0, 2)] (I r27.1)) []).2.1 = [], (List.length (r8.1.map o68)) = (List.length (r27.2.map o68)), Meets Try.prog 15 [(AV.ro 1 (r27.2.map r68)), (I 1)] (I r29), litA (I r29) = true, Frz (((r27.2.map o68).drop 0).take (List.length (r27.2.map o68))) (r27.2.map r68), (decide (r29 < 0)) = false, (r29 != r27.1) = false, Meets Try.prog 11 [(AV.ro 1 (p1.map r66))] (AV.own 68 1 (r34.map o68)), noRo (AV.own 68 1 (r34.map o68)) = true, Meets Try.prog 12 [(AV.ro 1 (r34.map r68))] (AV.tup [(AV.own 68 1 (r35.1.map o68)), (B r35.2)]), noRo (AV.tup [(AV.own 68 1 (r35.1.map o68)), (B r35.2)]) = true, Frz (((r34.map o68).drop 0).take (List.length (r34.map o68))) (r34.map r68), Meets Try.prog 13 [(AV.ro 1 (r35.1.map r68)), (AV.ro 1 (r6.1.map r68))] (B r36), litA (B r36) = true, Frz (((r35.1.map o68).drop 0).take (List.length (r35.1.map o68))) (r35.1.map r68), Frz (((r6.1.map o68).drop 0).take (List.length (r6.1.map o68))) (r6.1.map r68), (B (!r36)) = (B false), (!(r35.2 == r6.2)) = false, RenOK [(2, 1)] (r27.2.map o68)]) (by kernel_rfl) ⟨(laws_markActSS_m hr27), ⟨rfl, trivial⟩, ⟨⟨treeM t68, noRoM n68⟩, trivial⟩, ⟨(sameLenE o68 hq28), trivial⟩, rfl, rfl, (sameLenE o68 hq28).symm, (laws_heldActSS_m hr29), rfl, (frzF t68 z68), c31, c33, (laws_toActSS_m hr34), (by simp only [noRo, noRoL, noRoM n68, Bool.and_self]), (impl_FencedOf_m hr35), (by simp only [noRo, noRoL, noRoM n68, Bool.and_self]), (frzF t68 z68), (laws_eqActSS_m hr36), rfl, (frzF t68 z68), (frzF t68 z68), (litB c38), c40, (rok (treeM t68)), trivial⟩ (laws_FnExactFencedOf_j2_m hP hn hx r27  _ h)
noncomputable def laws_FnExactFencedOf_j0  (p1 : (List (List GAct))) (r6 : ((List (List GAct)) × Bool)) (r7 : (List (List GAct))) (r8 : ((List (List GAct)) × Bool))  : Option Bool :=
  Option.bind (laws_toActSS p1) fun r14 =>
  Option.bind (laws_eqActSS r7 r14) fun r15 =>
  if (!r15) = true then
    some false
  else
    Option.bind (laws_markActSS r7 1) fun r18 =>
    Option.bind (sameLen r7 r18.2) fun q19 =>
    if (decide (r18.1 < 0)) = true then
      some false
    else
      Option.bind (laws_eqActSS r8.1 r6.1) fun r22 =>
      if (!r22) = true then
        some false
      else
        if (!(r8.2 == r6.2)) = true then
          some false
        else
          laws_FnExactFencedOf_j1 p1 r6 r8
theorem laws_FnExactFencedOf_j0_m {E : Env} (hP : E.P = Try.prog) (hn : E.n = 96) (hx : ∀ p, p ∈ E.fx → p.1 ∈ ([] : List Nat)) (p1 : (List (List GAct))) (r6 : ((List (List GAct)) × Bool)) (r7 : (List (List GAct))) (r8 : ((List (List GAct)) × Bool))   (r : Bool) (h : laws_FnExactFencedOf_j0 p1 r6 r7 r8  = some r) : WAt E body3 (FQ (RetE Θ Try.f3.results.toList [] [] (B r) E)) [true, true, true, true, true, true, true, false, true, true] ⟨[(0, (AV.ro 1 (p1.map r66))), (4, (AV.sl 1 0 (List.length (r6.1.map o68)))), (5, (B r6.2)), (6, (AV.sl 2 0 (List.length (r7.map o68)))), (7, (AV.sl 3 0 (List.length (r8.1.map o68)))), (8, (B r8.2))], [(1, some ⟨68, 1, (r6.1.map o68)⟩), (2, some ⟨68, 1, (r7.map o68)⟩), (3, some ⟨68, 1, (r8.1.map o68)⟩)], [1, 2, 3, JJ]⟩ := by
  have hm : E.P.follows .mixedOrders = true := by rw [hP]; exact mixed
  have hΘ : TOK E.P Θ := by rw [hP]; exact Θ_ok
  unfold laws_FnExactFencedOf_j0 at h
  obtain ⟨r14, hr14, h⟩ := bnS h
  obtain ⟨r15, hr15, h⟩ := bnS h
  rcases itS h with ⟨c16, h⟩ | ⟨c17, h⟩
  · have h := Option.some.inj h
    subst h
    exact go_ret hΘ hm hP hn (hs := [⟨2, .call [] (AV.own 68 1 (r14.map o68)) [1001], none⟩, ⟨3, .callV [(r7.map r68), (r14.map r68)] (B r15), none⟩, ⟨5, .br true, none⟩]) (rh := []) (ph := .raw) (ps := [Meets Try.prog 11 [(AV.ro 1 (p1.map r66))] (AV.own 68 1 (r14.map o68)), noRo (AV.own 68 1 (r14.map o68)) = true, Meets Try.prog 13 [(AV.ro 1 (r7.map r68)), (AV.ro 1 (r14.map r68))] (B r15), litA (B r15) = true, Frz (((r7.map o68).drop 0).take (List.length (r7.map o68))) (r7.map r68), Frz (((r14.map o68).drop 0).take (List.length (r14.map o68))) (r14.map r68), (!r15) = true, (B false) = (B false), litA (B false) = true]) (by kernel_rfl) ⟨(laws_toActSS_m hr14), (by simp only [noRo, noRoL, noRoM n68, Bool.and_self]), (laws_eqActSS_m hr15), rfl, (frzF t68 z68), (frzF t68 z68), c16, rfl, rfl, trivial⟩
  · obtain ⟨r18, hr18, h⟩ := bnS h
    obtain ⟨q19, hq19, h⟩ := bnS h
    rcases itS h with ⟨c20, h⟩ | ⟨c21, h⟩
    · have h := Option.some.inj h
      subst h
      exact go_ret hΘ hm hP hn (hs := [⟨2, .call [] (AV.own 68 1 (r14.map o68)) [1001], none⟩, ⟨3, .callV [(r7.map r68), (r14.map r68)] (B r15), none⟩, ⟨5, .br false, none⟩, ⟨9, .callX [2] [true] [⟨68, 1, (r7.map o68)⟩] [⟨68, 1, (r18.2.map o68)⟩] [] (I r18.1) [] (I r18.1) [], none⟩, ⟨13, .no, some (B true)⟩]) (rh := []) (ph := .raw) (ps := [Meets Try.prog 11 [(AV.ro 1 (p1.map r66))] (AV.own 68 1 (r14.map o68)), noRo (AV.own 68 1 (r14.map o68)) = true, Meets Try.prog 13 [(AV.ro 1 (r7.map r68)), (AV.ro 1 (r14.map r68))] (B r15), litA (B r15) = true, Frz (((r7.map o68).drop 0).take (List.length (r7.map o68))) (r7.map r68), Frz (((r14.map o68).drop 0).take (List.length (r14.map o68))) (r14.map r68), (!r15) = false, MeetsR Try.prog 14 [⟨68, 1, (r7.map o68)⟩] [(AV.sl 0 0 (List.length (r7.map o68))), (I 1)] [true] [⟨68, 1, (r18.2.map o68)⟩] (I r18.1), (some (Root.mk 68 1 (r7.map o68)) = some (Root.mk 68 1 (r7.map o68))) ∧ True, (treeLL (r7.map o68) = true ∧ noRoLL (r7.map o68) = true) ∧ True, ((r18.2.map o68).length = (r7.map o68).length) ∧ True, (rtf (renA [(0, 2)] (I r18.1)) []).1 = (I r18.1), (rtf (renA [(0, 2)] (I r18.1)) []).2.1 = [], (B (decide (r18.1 < 0))) = (B true), (B false) = (B false), litA (B false) = true]) (by kernel_rfl) ⟨(laws_toActSS_m hr14), (by simp only [noRo, noRoL, noRoM n68, Bool.and_self]), (laws_eqActSS_m hr15), rfl, (frzF t68 z68), (frzF t68 z68), c17, (laws_markActSS_m hr18), ⟨rfl, trivial⟩, ⟨⟨treeM t68, noRoM n68⟩, trivial⟩, ⟨(sameLenE o68 hq19), trivial⟩, rfl, rfl, (litB c20), rfl, rfl, trivial⟩
    · obtain ⟨r22, hr22, h⟩ := bnS h
      rcases itS h with ⟨c23, h⟩ | ⟨c24, h⟩
      · have h := Option.some.inj h
        subst h
        exact go_ret hΘ hm hP hn (hs := [⟨2, .call [] (AV.own 68 1 (r14.map o68)) [1001], none⟩, ⟨3, .callV [(r7.map r68), (r14.map r68)] (B r15), none⟩, ⟨5, .br false, none⟩, ⟨9, .callX [2] [true] [⟨68, 1, (r7.map o68)⟩] [⟨68, 1, (r18.2.map o68)⟩] [] (I r18.1) [] (I r18.1) [], none⟩, ⟨13, .no, some (B false)⟩, ⟨16, .callV [(r8.1.map r68), (r6.1.map r68)] (B r22), none⟩, ⟨19, .no, some (B true)⟩]) (rh := []) (ph := .raw) (ps := [Meets Try.prog 11 [(AV.ro 1 (p1.map r66))] (AV.own 68 1 (r14.map o68)), noRo (AV.own 68 1 (r14.map o68)) = true, Meets Try.prog 13 [(AV.ro 1 (r7.map r68)), (AV.ro 1 (r14.map r68))] (B r15), litA (B r15) = true, Frz (((r7.map o68).drop 0).take (List.length (r7.map o68))) (r7.map r68), Frz (((r14.map o68).drop 0).take (List.length (r14.map o68))) (r14.map r68), (!r15) = false, MeetsR Try.prog 14 [⟨68, 1, (r7.map o68)⟩] [(AV.sl 0 0 (List.length (r7.map o68))), (I 1)] [true] [⟨68, 1, (r18.2.map o68)⟩] (I r18.1), (some (Root.mk 68 1 (r7.map o68)) = some (Root.mk 68 1 (r7.map o68))) ∧ True, (treeLL (r7.map o68) = true ∧ noRoLL (r7.map o68) = true) ∧ True, ((r18.2.map o68).length = (r7.map o68).length) ∧ True, (rtf (renA [(0, 2)] (I r18.1)) []).1 = (I r18.1), (rtf (renA [(0, 2)] (I r18.1)) []).2.1 = [], (B (decide (r18.1 < 0))) = (B false), Meets Try.prog 13 [(AV.ro 1 (r8.1.map r68)), (AV.ro 1 (r6.1.map r68))] (B r22), litA (B r22) = true, Frz (((r8.1.map o68).drop 0).take (List.length (r8.1.map o68))) (r8.1.map r68), Frz (((r6.1.map o68).drop 0).take (List.length (r6.1.map o68))) (r6.1.map r68), (B (!r22)) = (B true), (B false) = (B false), litA (B false) = true]) (by kernel_rfl) ⟨(laws_toActSS_m hr14), (by simp only [noRo, noRoL, noRoM n68, Bool.and_self]), (laws_eqActSS_m hr15), rfl, (frzF t68 z68), (frzF t68 z68), c17, (laws_markActSS_m hr18), ⟨rfl, trivial⟩, ⟨⟨treeM t68, noRoM n68⟩, trivial⟩, ⟨(sameLenE o68 hq19), trivial⟩, rfl, rfl, (litB c21), (laws_eqActSS_m hr22), rfl, (frzF t68 z68), (frzF t68 z68), (litB c23), rfl, rfl, trivial⟩
      · rcases itS h with ⟨c25, h⟩ | ⟨c26, h⟩
        · have h := Option.some.inj h
          subst h
          exact go_ret hΘ hm hP hn (hs := [⟨2, .call [] (AV.own 68 1 (r14.map o68)) [1001], none⟩, ⟨3, .callV [(r7.map r68), (r14.map r68)] (B r15), none⟩, ⟨5, .br false, none⟩, ⟨9, .callX [2] [true] [⟨68, 1, (r7.map o68)⟩] [⟨68, 1, (r18.2.map o68)⟩] [] (I r18.1) [] (I r18.1) [], none⟩, ⟨13, .no, some (B false)⟩, ⟨16, .callV [(r8.1.map r68), (r6.1.map r68)] (B r22), none⟩, ⟨19, .no, some (B false)⟩, ⟨24, .br true, none⟩]) (rh := []) (ph := .raw) (ps := [Meets Try.prog 11 [(AV.ro 1 (p1.map r66))] (AV.own 68 1 (r14.map o68)), noRo (AV.own 68 1 (r14.map o68)) = true, Meets Try.prog 13 [(AV.ro 1 (r7.map r68)), (AV.ro 1 (r14.map r68))] (B r15), litA (B r15) = true, Frz (((r7.map o68).drop 0).take (List.length (r7.map o68))) (r7.map r68), Frz (((r14.map o68).drop 0).take (List.length (r14.map o68))) (r14.map r68), (!r15) = false, MeetsR Try.prog 14 [⟨68, 1, (r7.map o68)⟩] [(AV.sl 0 0 (List.length (r7.map o68))), (I 1)] [true] [⟨68, 1, (r18.2.map o68)⟩] (I r18.1), (some (Root.mk 68 1 (r7.map o68)) = some (Root.mk 68 1 (r7.map o68))) ∧ True, (treeLL (r7.map o68) = true ∧ noRoLL (r7.map o68) = true) ∧ True, ((r18.2.map o68).length = (r7.map o68).length) ∧ True, (rtf (renA [(0, 2)] (I r18.1)) []).1 = (I r18.1), (rtf (renA [(0, 2)] (I r18.1)) []).2.1 = [], (B (decide (r18.1 < 0))) = (B false), Meets Try.prog 13 [(AV.ro 1 (r8.1.map r68)), (AV.ro 1 (r6.1.map r68))] (B r22), litA (B r22) = true, Frz (((r8.1.map o68).drop 0).take (List.length (r8.1.map o68))) (r8.1.map r68), Frz (((r6.1.map o68).drop 0).take (List.length (r6.1.map o68))) (r6.1.map r68), (B (!r22)) = (B false), (!(r8.2 == r6.2)) = true, (B false) = (B false), litA (B false) = true]) (by kernel_rfl) ⟨(laws_toActSS_m hr14), (by simp only [noRo, noRoL, noRoM n68, Bool.and_self]), (laws_eqActSS_m hr15), rfl, (frzF t68 z68), (frzF t68 z68), c17, (laws_markActSS_m hr18), ⟨rfl, trivial⟩, ⟨⟨treeM t68, noRoM n68⟩, trivial⟩, ⟨(sameLenE o68 hq19), trivial⟩, rfl, rfl, (litB c21), (laws_eqActSS_m hr22), rfl, (frzF t68 z68), (frzF t68 z68), (litB c24), c25, rfl, rfl, trivial⟩
        · exact go_to hΘ hm hx hP hn (hs := [⟨2, .call [] (AV.own 68 1 (r14.map o68)) [1001], none⟩, ⟨3, .callV [(r7.map r68), (r14.map r68)] (B r15), none⟩, ⟨5, .br false, none⟩, ⟨9, .callX [2] [true] [⟨68, 1, (r7.map o68)⟩] [⟨68, 1, (r18.2.map o68)⟩] [] (I r18.1) [] (I r18.1) [], none⟩, ⟨13, .no, some (B false)⟩, ⟨16, .callV [(r8.1.map r68), (r6.1.map r68)] (B r22), none⟩, ⟨19, .no, some (B false)⟩, ⟨24, .br false, none⟩]) (π := [(1, 1), (3, 2)]) (ts := [0, 4, 5, 7]) (kp := []) (ps := [Meets Try.prog 11 [(AV.ro 1 (p1.map r66))] (AV.own 68 1 (r14.map o68)), noRo (AV.own 68 1 (r14.map o68)) = true, Meets Try.prog 13 [(AV.ro 1 (r7.map r68)), (AV.ro 1 (r14.map r68))] (B r15), litA (B r15) = true, Frz (((r7.map o68).drop 0).take (List.length (r7.map o68))) (r7.map r68), Frz (((r14.map o68).drop 0).take (List.length (r14.map o68))) (r14.map r68), (!r15) = false, MeetsR Try.prog 14 [⟨68, 1, (r7.map o68)⟩] [(AV.sl 0 0 (List.length (r7.map o68))), (I 1)] [true] [⟨68, 1, (r18.2.map o68)⟩] (I r18.1), (some (Root.mk 68 1 (r7.map o68)) = some (Root.mk 68 1 (r7.map o68))) ∧ True, (treeLL (r7.map o68) = true ∧ noRoLL (r7.map o68) = true) ∧ True, ((r18.2.map o68).length = (r7.map o68).length) ∧ True, (rtf (renA [(0, 2)] (I r18.1)) []).1 = (I r18.1), (rtf (renA [(0, 2)] (I r18.1)) []).2.1 = [], (B (decide (r18.1 < 0))) = (B false), Meets Try.prog 13 [(AV.ro 1 (r8.1.map r68)), (AV.ro 1 (r6.1.map r68))] (B r22), litA (B r22) = true, Frz (((r8.1.map o68).drop 0).take (List.length (r8.1.map o68))) (r8.1.map r68), Frz (((r6.1.map o68).drop 0).take (List.length (r6.1.map o68))) (r6.1.map r68), (B (!r22)) = (B false), (!(r8.2 == r6.2)) = false, RenOK [(1, 1), (3, 2)] (r6.1.map o68), RenOK [(1, 1), (3, 2)] (r8.1.map o68)]) (by kernel_rfl) ⟨(laws_toActSS_m hr14), (by simp only [noRo, noRoL, noRoM n68, Bool.and_self]), (laws_eqActSS_m hr15), rfl, (frzF t68 z68), (frzF t68 z68), c17, (laws_markActSS_m hr18), ⟨rfl, trivial⟩, ⟨⟨treeM t68, noRoM n68⟩, trivial⟩, ⟨(sameLenE o68 hq19), trivial⟩, rfl, rfl, (litB c21), (laws_eqActSS_m hr22), rfl, (frzF t68 z68), (frzF t68 z68), (litB c24), c26, (rok (treeM t68)), (rok (treeM t68)), trivial⟩ (laws_FnExactFencedOf_j1_m hP hn hx p1 r6 r8  _ h)
noncomputable def laws_FnExactFencedOf (p1 : (List (List GAct))) : Option Bool :=
  Option.bind (laws_szActSS p1 1048576) fun r2 =>
  if (decide (r2 < 0)) = true then
    some true
  else
    Option.bind (laws_toActSS p1) fun r5 =>
    Option.bind (spec_FencedOf r5) fun r6 =>
    Option.bind (laws_toActSS p1) fun r7 =>
    Option.bind (impl_FencedOf r7) fun r8 =>
    Option.bind (laws_eqActSS r8.1 r6.1) fun r9 =>
    if (!r9) = true then
      some false
    else
      if (!(r8.2 == r6.2)) = true then
        some false
      else
        laws_FnExactFencedOf_j0 p1 r6 r7 r8
theorem laws_FnExactFencedOf_m {p1 : (List (List GAct))} {r : Bool} (h : laws_FnExactFencedOf p1 = some r) : Meets Try.prog 3 [(AV.ro 1 (p1.map r66))] (B r) := by
  refine meets_ofC Θ_ok Try.func3 rfl (c := body3) (by kernel_rfl) (Nat.le_of_ble_eq_true rfl) ?_
  intro E hP hn hx
  replace hn : E.n = 96 := hn
  have hm : E.P.follows .mixedOrders = true := by rw [hP]; exact mixed
  have hΘ : TOK E.P Θ := by rw [hP]; exact Θ_ok
  unfold laws_FnExactFencedOf at h
  show WAt E body3 (FQ (RetE Θ Try.f3.results.toList [] [] (B r) E)) [] ⟨[(0, (AV.ro 1 (p1.map r66)))], [], [JJ]⟩
  obtain ⟨r2, hr2, h⟩ := bnS h
  rcases itS h with ⟨c3, h⟩ | ⟨c4, h⟩
  · have h := Option.some.inj h
    subst h
    exact go_ret hΘ hm hP hn (hs := [⟨4, .callV [] (I r2), none⟩, ⟨8, .br true, none⟩]) (rh := []) (ph := .raw) (ps := [Meets Try.prog 9 [(AV.ro 1 (p1.map r66)), (I 1048576)] (I r2), litA (I r2) = true, (decide (r2 < 0)) = true, (B true) = (B true), litA (B true) = true]) (by kernel_rfl) ⟨(laws_szActSS_m hr2), rfl, c3, rfl, rfl, trivial⟩
  · obtain ⟨r5, hr5, h⟩ := bnS h
    obtain ⟨r6, hr6, h⟩ := bnS h
    obtain ⟨r7, hr7, h⟩ := bnS h
    obtain ⟨r8, hr8, h⟩ := bnS h
    obtain ⟨r9, hr9, h⟩ := bnS h
    rcases itS h with ⟨c10, h⟩ | ⟨c11, h⟩
    · have h := Option.some.inj h
      subst h
      exact go_ret hΘ hm hP hn (hs := [⟨4, .callV [] (I r2), none⟩, ⟨8, .br false, none⟩, ⟨10, .call [] (AV.own 68 1 (r5.map o68)) [1001], none⟩, ⟨11, .call [(r5.map r68)] (AV.tup [(AV.own 68 1 (r6.1.map o68)), (B r6.2)]) [1002], none⟩, ⟨18, .call [] (AV.own 68 1 (r7.map o68)) [1003], none⟩, ⟨21, .call [(r7.map r68)] (AV.tup [(AV.own 68 1 (r8.1.map o68)), (B r8.2)]) [1004], none⟩, ⟨29, .callV [(r8.1.map r68), (r6.1.map r68)] (B r9), none⟩, ⟨31, .no, some (B true)⟩]) (rh := []) (ph := .raw) (ps := [Meets Try.prog 9 [(AV.ro 1 (p1.map r66)), (I 1048576)] (I r2), litA (I r2) = true, (decide (r2 < 0)) = false, Meets Try.prog 11 [(AV.ro 1 (p1.map r66))] (AV.own 68 1 (r5.map o68)), noRo (AV.own 68 1 (r5.map o68)) = true, Meets Try.prog 10 [(AV.ro 1 (r5.map r68))] (AV.tup [(AV.own 68 1 (r6.1.map o68)), (B r6.2)]), noRo (AV.tup [(AV.own 68 1 (r6.1.map o68)), (B r6.2)]) = true, Frz (((r5.map o68).drop 0).take (List.length (r5.map o68))) (r5.map r68), Meets Try.prog 11 [(AV.ro 1 (p1.map r66))] (AV.own 68 1 (r7.map o68)), noRo (AV.own 68 1 (r7.map o68)) = true, Meets Try.prog 12 [(AV.ro 1 (r7.map r68))] (AV.tup [(AV.own 68 1 (r8.1.map o68)), (B r8.2)]), noRo (AV.tup [(AV.own 68 1 (r8.1.map o68)), (B r8.2)]) = true, Frz (((r7.map o68).drop 0).take (List.length (r7.map o68))) (r7.map r68), Meets Try.prog 13 [(AV.ro 1 (r8.1.map r68)), (AV.ro 1 (r6.1.map r68))] (B r9), litA (B r9) = true, Frz (((r8.1.map o68).drop 0).take (List.length (r8.1.map o68))) (r8.1.map r68), Frz (((r6.1.map o68).drop 0).take (List.length (r6.1.map o68))) (r6.1.map r68), (B (!r9)) = (B true), (B false) = (B false), litA (B false) = true]) (by kernel_rfl) ⟨(laws_szActSS_m hr2), rfl, c4, (laws_toActSS_m hr5), (by simp only [noRo, noRoL, noRoM n68, Bool.and_self]), (spec_FencedOf_m hr6), (by simp only [noRo, noRoL, noRoM n68, Bool.and_self]), (frzF t68 z68), (laws_toActSS_m hr7), (by simp only [noRo, noRoL, noRoM n68, Bool.and_self]), (impl_FencedOf_m hr8), (by simp only [noRo, noRoL, noRoM n68, Bool.and_self]), (frzF t68 z68), (laws_eqActSS_m hr9), rfl, (frzF t68 z68), (frzF t68 z68), (litB c10), rfl, rfl, trivial⟩
    · rcases itS h with ⟨c12, h⟩ | ⟨c13, h⟩
      · have h := Option.some.inj h
        subst h
        exact go_ret hΘ hm hP hn (hs := [⟨4, .callV [] (I r2), none⟩, ⟨8, .br false, none⟩, ⟨10, .call [] (AV.own 68 1 (r5.map o68)) [1001], none⟩, ⟨11, .call [(r5.map r68)] (AV.tup [(AV.own 68 1 (r6.1.map o68)), (B r6.2)]) [1002], none⟩, ⟨18, .call [] (AV.own 68 1 (r7.map o68)) [1003], none⟩, ⟨21, .call [(r7.map r68)] (AV.tup [(AV.own 68 1 (r8.1.map o68)), (B r8.2)]) [1004], none⟩, ⟨29, .callV [(r8.1.map r68), (r6.1.map r68)] (B r9), none⟩, ⟨31, .no, some (B false)⟩, ⟨36, .br true, none⟩]) (rh := []) (ph := .raw) (ps := [Meets Try.prog 9 [(AV.ro 1 (p1.map r66)), (I 1048576)] (I r2), litA (I r2) = true, (decide (r2 < 0)) = false, Meets Try.prog 11 [(AV.ro 1 (p1.map r66))] (AV.own 68 1 (r5.map o68)), noRo (AV.own 68 1 (r5.map o68)) = true, Meets Try.prog 10 [(AV.ro 1 (r5.map r68))] (AV.tup [(AV.own 68 1 (r6.1.map o68)), (B r6.2)]), noRo (AV.tup [(AV.own 68 1 (r6.1.map o68)), (B r6.2)]) = true, Frz (((r5.map o68).drop 0).take (List.length (r5.map o68))) (r5.map r68), Meets Try.prog 11 [(AV.ro 1 (p1.map r66))] (AV.own 68 1 (r7.map o68)), noRo (AV.own 68 1 (r7.map o68)) = true, Meets Try.prog 12 [(AV.ro 1 (r7.map r68))] (AV.tup [(AV.own 68 1 (r8.1.map o68)), (B r8.2)]), noRo (AV.tup [(AV.own 68 1 (r8.1.map o68)), (B r8.2)]) = true, Frz (((r7.map o68).drop 0).take (List.length (r7.map o68))) (r7.map r68), Meets Try.prog 13 [(AV.ro 1 (r8.1.map r68)), (AV.ro 1 (r6.1.map r68))] (B r9), litA (B r9) = true, Frz (((r8.1.map o68).drop 0).take (List.length (r8.1.map o68))) (r8.1.map r68), Frz (((r6.1.map o68).drop 0).take (List.length (r6.1.map o68))) (r6.1.map r68), (B (!r9)) = (B false), (!(r8.2 == r6.2)) = true, (B false) = (B false), litA (B false) = true]) (by kernel_rfl) ⟨(laws_szActSS_m hr2), rfl, c4, (laws_toActSS_m hr5), (by simp only [noRo, noRoL, noRoM n68, Bool.and_self]), (spec_FencedOf_m hr6), (by simp only [noRo, noRoL, noRoM n68, Bool.and_self]), (frzF t68 z68), (laws_toActSS_m hr7), (by simp only [noRo, noRoL, noRoM n68, Bool.and_self]), (impl_FencedOf_m hr8), (by simp only [noRo, noRoL, noRoM n68, Bool.and_self]), (frzF t68 z68), (laws_eqActSS_m hr9), rfl, (frzF t68 z68), (frzF t68 z68), (litB c11), c12, rfl, rfl, trivial⟩
      · exact go_to hΘ hm hx hP hn (hs := [⟨4, .callV [] (I r2), none⟩, ⟨8, .br false, none⟩, ⟨10, .call [] (AV.own 68 1 (r5.map o68)) [1001], none⟩, ⟨11, .call [(r5.map r68)] (AV.tup [(AV.own 68 1 (r6.1.map o68)), (B r6.2)]) [1002], none⟩, ⟨18, .call [] (AV.own 68 1 (r7.map o68)) [1003], none⟩, ⟨21, .call [(r7.map r68)] (AV.tup [(AV.own 68 1 (r8.1.map o68)), (B r8.2)]) [1004], none⟩, ⟨29, .callV [(r8.1.map r68), (r6.1.map r68)] (B r9), none⟩, ⟨31, .no, some (B false)⟩, ⟨36, .br false, none⟩]) (π := [(1002, 1), (1003, 2), (1004, 3)]) (ts := [0, 4, 5, 6, 7, 8]) (kp := []) (ps := [Meets Try.prog 9 [(AV.ro 1 (p1.map r66)), (I 1048576)] (I r2), litA (I r2) = true, (decide (r2 < 0)) = false, Meets Try.prog 11 [(AV.ro 1 (p1.map r66))] (AV.own 68 1 (r5.map o68)), noRo (AV.own 68 1 (r5.map o68)) = true, Meets Try.prog 10 [(AV.ro 1 (r5.map r68))] (AV.tup [(AV.own 68 1 (r6.1.map o68)), (B r6.2)]), noRo (AV.tup [(AV.own 68 1 (r6.1.map o68)), (B r6.2)]) = true, Frz (((r5.map o68).drop 0).take (List.length (r5.map o68))) (r5.map r68), Meets Try.prog 11 [(AV.ro 1 (p1.map r66))] (AV.own 68 1 (r7.map o68)), noRo (AV.own 68 1 (r7.map o68)) = true, Meets Try.prog 12 [(AV.ro 1 (r7.map r68))] (AV.tup [(AV.own 68 1 (r8.1.map o68)), (B r8.2)]), noRo (AV.tup [(AV.own 68 1 (r8.1.map o68)), (B r8.2)]) = true, Frz (((r7.map o68).drop 0).take (List.length (r7.map o68))) (r7.map r68), Meets Try.prog 13 [(AV.ro 1 (r8.1.map r68)), (AV.ro 1 (r6.1.map r68))] (B r9), litA (B r9) = true, Frz (((r8.1.map o68).drop 0).take (List.length (r8.1.map o68))) (r8.1.map r68), Frz (((r6.1.map o68).drop 0).take (List.length (r6.1.map o68))) (r6.1.map r68), (B (!r9)) = (B false), (!(r8.2 == r6.2)) = false, RenOK [(1002, 1), (1003, 2), (1004, 3)] (r6.1.map o68), RenOK [(1002, 1), (1003, 2), (1004, 3)] (r7.map o68), RenOK [(1002, 1), (1003, 2), (1004, 3)] (r8.1.map o68)]) (by kernel_rfl) ⟨(laws_szActSS_m hr2), rfl, c4, (laws_toActSS_m hr5), (by simp only [noRo, noRoL, noRoM n68, Bool.and_self]), (spec_FencedOf_m hr6), (by simp only [noRo, noRoL, noRoM n68, Bool.and_self]), (frzF t68 z68), (laws_toActSS_m hr7), (by simp only [noRo, noRoL, noRoM n68, Bool.and_self]), (impl_FencedOf_m hr8), (by simp only [noRo, noRoL, noRoM n68, Bool.and_self]), (frzF t68 z68), (laws_eqActSS_m hr9), rfl, (frzF t68 z68), (frzF t68 z68), (litB c11), c13, (rok (treeM t68)), (rok (treeM t68)), (rok (treeM t68)), trivial⟩ (laws_FnExactFencedOf_j0_m hP hn hx p1 r6 r7 r8  _ h)
end Go.Proofs.Ytefcdjocfjpjgaa
