/- Functions as plain data, and that the code comes to them; no condition. -/

import Derived.Test.YtefcdjocfjpjgaaGT
set_option linter.unusedVariables false
set_option maxRecDepth 100000
namespace Go.Proofs.Ytefcdjocfjpjgaa
open Go Go.T
noncomputable def body66 : Code := match Try.f66.body with | some c => c | none => .skip
noncomputable def impl_in (p1 : Int) (p2 : Int) (p3 : Int) : Option Bool :=
  if (decide (p2 ≤ p1)) = true then
    some (decide (p1 ≤ p3))
  else
    some false
theorem impl_in_m {p1 : Int} {p2 : Int} {p3 : Int} {r : Bool} (h : impl_in p1 p2 p3 = some r) : Meets Try.prog 66 [(I p1), (I p2), (I p3)] (B r) := by
  refine meets_ofC Θ_ok Try.func66 rfl (c := body66) (by kernel_rfl) (Nat.le_of_ble_eq_true rfl) ?_
  intro E hP hn hx
  replace hn : E.n = 15 := hn
  have hm : E.P.follows .mixedOrders = true := by rw [hP]; exact mixed
  have hΘ : TOK E.P Θ := by rw [hP]; exact Θ_ok
  unfold impl_in at h
  show WAt E body66 (FQ (RetE Θ Try.f66.results.toList [] [] (B r) E)) [] ⟨[(0, (I p1)), (1, (I p2)), (2, (I p3))], [], [JJ]⟩
  rcases itS h with ⟨c4, h⟩ | ⟨c5, h⟩
  · have h := Option.some.inj h
    subst h
    exact go_ret hΘ hm hP hn (hs := [⟨4, .no, some (B true)⟩]) (rh := []) (ph := .raw) (ps := [(B (decide (p2 ≤ p1))) = (B true), (B (decide (p1 ≤ p3))) = (B (decide (p1 ≤ p3))), litA (B (decide (p1 ≤ p3))) = true]) (by kernel_rfl) ⟨(litB c4), rfl, rfl, trivial⟩
  · have h := Option.some.inj h
    subst h
    exact go_ret hΘ hm hP hn (hs := [⟨4, .no, some (B false)⟩]) (rh := []) (ph := .raw) (ps := [(B (decide (p2 ≤ p1))) = (B false), (B false) = (B false), litA (B false) = true]) (by kernel_rfl) ⟨(litB c5), rfl, rfl, trivial⟩
noncomputable def body85 : Code := match Try.f85.body with | some c => c | none => .skip
noncomputable def impl_Event_isGood_j0  (p1 : GEvent)  : Option Bool :=
  if (decide (p1.Obj ≥ 0)) = true then
    if (decide (p1.Lock ≥ 0)) = true then
      some true
    else
      if (p1.Kind != 8) = true then
        some (p1.Kind != 9)
      else
        some false
  else
    Option.bind (impl_in p1.Kind 2 10) fun r23 =>
    if (!r23) = true then
      if (decide (p1.Lock ≥ 0)) = true then
        some true
      else
        if (p1.Kind != 8) = true then
          some (p1.Kind != 9)
        else
          some false
    else
      some false
theorem impl_Event_isGood_j0_m {E : Env} (hP : E.P = Try.prog) (hn : E.n = 55) (hx : ∀ p, p ∈ E.fx → p.1 ∈ ([] : List Nat)) (p1 : GEvent)   (r : Bool) (h : impl_Event_isGood_j0 p1  = some r) : WAt E body85 (FQ (RetE Θ Try.f85.results.toList [] [] (B r) E)) [true, false, true, true] ⟨[(1, (AV.ptr 1 0 0))], [(1, some ⟨81, 5, [((o81 p1))]⟩)], [1, JJ]⟩ := by
  have hm : E.P.follows .mixedOrders = true := by rw [hP]; exact mixed
  have hΘ : TOK E.P Θ := by rw [hP]; exact Θ_ok
  unfold impl_Event_isGood_j0 at h
  rcases itS h with ⟨c17, h⟩ | ⟨c22, h⟩
  · rcases itS h with ⟨c18, h⟩ | ⟨c19, h⟩
    · have h := Option.some.inj h
      subst h
      exact go_ret hΘ hm hP hn (hs := [⟨3, .no, some (B true)⟩, ⟨13, .no, some (B true)⟩]) (rh := []) (ph := .raw) (ps := [(B (decide (p1.Obj ≥ 0))) = (B true), (B (decide (p1.Lock ≥ 0))) = (B true), (B true) = (B true), litA (B true) = true]) (by kernel_rfl) ⟨(litB c17), (litB c18), rfl, rfl, trivial⟩
    · rcases itS h with ⟨c20, h⟩ | ⟨c21, h⟩
      · have h := Option.some.inj h
        subst h
        exact go_ret hΘ hm hP hn (hs := [⟨3, .no, some (B true)⟩, ⟨13, .no, some (B false)⟩, ⟨17, .no, some (B true)⟩]) (rh := []) (ph := .raw) (ps := [(B (decide (p1.Obj ≥ 0))) = (B true), (B (decide (p1.Lock ≥ 0))) = (B false), (B (p1.Kind != 8)) = (B true), (B (p1.Kind != 9)) = (B (p1.Kind != 9)), litA (B (p1.Kind != 9)) = true]) (by kernel_rfl) ⟨(litB c17), (litB c19), (litB c20), rfl, rfl, trivial⟩
      · have h := Option.some.inj h
        subst h
        exact go_ret hΘ hm hP hn (hs := [⟨3, .no, some (B true)⟩, ⟨13, .no, some (B false)⟩, ⟨17, .no, some (B false)⟩]) (rh := []) (ph := .raw) (ps := [(B (decide (p1.Obj ≥ 0))) = (B true), (B (decide (p1.Lock ≥ 0))) = (B false), (B (p1.Kind != 8)) = (B false), (B false) = (B false), litA (B false) = true]) (by kernel_rfl) ⟨(litB c17), (litB c19), (litB c21), rfl, rfl, trivial⟩
  · obtain ⟨r23, hr23, h⟩ := bnS h
    rcases itS h with ⟨c24, h⟩ | ⟨c29, h⟩
    · rcases itS h with ⟨c25, h⟩ | ⟨c26, h⟩
      · have h := Option.some.inj h
        subst h
        exact go_ret hΘ hm hP hn (hs := [⟨3, .no, some (B false)⟩, ⟨6, .callV [] (B r23), none⟩, ⟨9, .no, some (B true)⟩, ⟨13, .no, some (B true)⟩]) (rh := []) (ph := .raw) (ps := [(B (decide (p1.Obj ≥ 0))) = (B false), Meets Try.prog 66 [(I p1.Kind), (I 2), (I 10)] (B r23), litA (B r23) = true, (B (!r23)) = (B true), (B (decide (p1.Lock ≥ 0))) = (B true), (B true) = (B true), litA (B true) = true]) (by kernel_rfl) ⟨(litB c22), (impl_in_m hr23), rfl, (litB c24), (litB c25), rfl, rfl, trivial⟩
      · rcases itS h with ⟨c27, h⟩ | ⟨c28, h⟩
        · have h := Option.some.inj h
          subst h
          exact go_ret hΘ hm hP hn (hs := [⟨3, .no, some (B false)⟩, ⟨6, .callV [] (B r23), none⟩, ⟨9, .no, some (B true)⟩, ⟨13, .no, some (B false)⟩, ⟨17, .no, some (B true)⟩]) (rh := []) (ph := .raw) (ps := [(B (decide (p1.Obj ≥ 0))) = (B false), Meets Try.prog 66 [(I p1.Kind), (I 2), (I 10)] (B r23), litA (B r23) = true, (B (!r23)) = (B true), (B (decide (p1.Lock ≥ 0))) = (B false), (B (p1.Kind != 8)) = (B true), (B (p1.Kind != 9)) = (B (p1.Kind != 9)), litA (B (p1.Kind != 9)) = true]) (by kernel_rfl) ⟨(litB c22), (impl_in_m hr23), rfl, (litB c24), (litB c26), (litB c27), rfl, rfl, trivial⟩
        · have h := Option.some.inj h
          subst h
          exact go_ret hΘ hm hP hn (hs := [⟨3, .no, some (B false)⟩, ⟨6, .callV [] (B r23), none⟩, ⟨9, .no, some (B true)⟩, ⟨13, .no, some (B false)⟩, ⟨17, .no, some (B false)⟩]) (rh := []) (ph := .raw) (ps := [(B (decide (p1.Obj ≥ 0))) = (B false), Meets Try.prog 66 [(I p1.Kind), (I 2), (I 10)] (B r23), litA (B r23) = true, (B (!r23)) = (B true), (B (decide (p1.Lock ≥ 0))) = (B false), (B (p1.Kind != 8)) = (B false), (B false) = (B false), litA (B false) = true]) (by kernel_rfl) ⟨(litB c22), (impl_in_m hr23), rfl, (litB c24), (litB c26), (litB c28), rfl, rfl, trivial⟩
    · have h := Option.some.inj h
      subst h
      exact go_ret hΘ hm hP hn (hs := [⟨3, .no, some (B false)⟩, ⟨6, .callV [] (B r23), none⟩, ⟨9, .no, some (B false)⟩]) (rh := []) (ph := .raw) (ps := [(B (decide (p1.Obj ≥ 0))) = (B false), Meets Try.prog 66 [(I p1.Kind), (I 2), (I 10)] (B r23), litA (B r23) = true, (B (!r23)) = (B false), (B false) = (B false), litA (B false) = true]) (by kernel_rfl) ⟨(litB c22), (impl_in_m hr23), rfl, (litB c29), rfl, rfl, trivial⟩
noncomputable def impl_Event_isGood (p1 : GEvent) : Option Bool :=
  Option.bind (impl_in p1.Thread 0 4) fun r2 =>
  if (!r2) = true then
    some false
  else
    Option.bind (impl_in p1.Kind 1 12) fun r5 =>
    if (!r5) = true then
      some false
    else
      Option.bind (impl_in p1.Obj (-1) 99) fun r8 =>
      if (!r8) = true then
        some false
      else
        Option.bind (impl_in p1.Lock (-1) 99) fun r11 =>
        if (!r11) = true then
          some false
        else
          Option.bind (impl_in p1.Pc 0 99) fun r14 =>
          if (!r14) = true then
            some false
          else
            impl_Event_isGood_j0 p1
theorem impl_Event_isGood_m {p1 : GEvent} {r : Bool} (h : impl_Event_isGood p1 = some r) : Meets Try.prog 85 [(AV.agg ((o81 p1)))] (B r) := by
  refine meets_ofC Θ_ok Try.func85 rfl (c := body85) (by kernel_rfl) (Nat.le_of_ble_eq_true rfl) ?_
  intro E hP hn hx
  replace hn : E.n = 55 := hn
  have hm : E.P.follows .mixedOrders = true := by rw [hP]; exact mixed
  have hΘ : TOK E.P Θ := by rw [hP]; exact Θ_ok
  unfold impl_Event_isGood at h
  show WAt E body85 (FQ (RetE Θ Try.f85.results.toList [] [] (B r) E)) [] ⟨[(0, (AV.agg ((o81 p1))))], [], [JJ]⟩
  obtain ⟨r2, hr2, h⟩ := bnS h
  rcases itS h with ⟨c3, h⟩ | ⟨c4, h⟩
  · have h := Option.some.inj h
    subst h
    exact go_ret hΘ hm hP hn (hs := [⟨0, .new 1001, none⟩, ⟨4, .callV [] (B r2), none⟩, ⟨6, .no, some (B true)⟩]) (rh := []) (ph := .raw) (ps := [Meets Try.prog 66 [(I p1.Thread), (I 0), (I 4)] (B r2), litA (B r2) = true, (B (!r2)) = (B true), (B false) = (B false), litA (B false) = true]) (by kernel_rfl) ⟨(impl_in_m hr2), rfl, (litB c3), rfl, rfl, trivial⟩
  · obtain ⟨r5, hr5, h⟩ := bnS h
    rcases itS h with ⟨c6, h⟩ | ⟨c7, h⟩
    · have h := Option.some.inj h
      subst h
      exact go_ret hΘ hm hP hn (hs := [⟨0, .new 1001, none⟩, ⟨4, .callV [] (B r2), none⟩, ⟨6, .no, some (B false)⟩, ⟨9, .callV [] (B r5), none⟩, ⟨12, .no, some (B true)⟩]) (rh := []) (ph := .raw) (ps := [Meets Try.prog 66 [(I p1.Thread), (I 0), (I 4)] (B r2), litA (B r2) = true, (B (!r2)) = (B false), Meets Try.prog 66 [(I p1.Kind), (I 1), (I 12)] (B r5), litA (B r5) = true, (B (!r5)) = (B true), (B false) = (B false), litA (B false) = true]) (by kernel_rfl) ⟨(impl_in_m hr2), rfl, (litB c4), (impl_in_m hr5), rfl, (litB c6), rfl, rfl, trivial⟩
    · obtain ⟨r8, hr8, h⟩ := bnS h
      rcases itS h with ⟨c9, h⟩ | ⟨c10, h⟩
      · have h := Option.some.inj h
        subst h
        exact go_ret hΘ hm hP hn (hs := [⟨0, .new 1001, none⟩, ⟨4, .callV [] (B r2), none⟩, ⟨6, .no, some (B false)⟩, ⟨9, .callV [] (B r5), none⟩, ⟨12, .no, some (B false)⟩, ⟨15, .callV [] (B r8), none⟩, ⟨18, .no, some (B true)⟩]) (rh := []) (ph := .raw) (ps := [Meets Try.prog 66 [(I p1.Thread), (I 0), (I 4)] (B r2), litA (B r2) = true, (B (!r2)) = (B false), Meets Try.prog 66 [(I p1.Kind), (I 1), (I 12)] (B r5), litA (B r5) = true, (B (!r5)) = (B false), Meets Try.prog 66 [(I p1.Obj), (I (-1)), (I 99)] (B r8), litA (B r8) = true, (B (!r8)) = (B true), (B false) = (B false), litA (B false) = true]) (by kernel_rfl) ⟨(impl_in_m hr2), rfl, (litB c4), (impl_in_m hr5), rfl, (litB c7), (impl_in_m hr8), rfl, (litB c9), rfl, rfl, trivial⟩
      · obtain ⟨r11, hr11, h⟩ := bnS h
        rcases itS h with ⟨c12, h⟩ | ⟨c13, h⟩
        · have h := Option.some.inj h
          subst h
          exact go_ret hΘ hm hP hn (hs := [⟨0, .new 1001, none⟩, ⟨4, .callV [] (B r2), none⟩, ⟨6, .no, some (B false)⟩, ⟨9, .callV [] (B r5), none⟩, ⟨12, .no, some (B false)⟩, ⟨15, .callV [] (B r8), none⟩, ⟨18, .no, some (B false)⟩, ⟨21, .callV [] (B r11), none⟩, ⟨24, .no, some (B true)⟩]) (rh := []) (ph := .raw) (ps := [Meets Try.prog 66 [(I p1.Thread), (I 0), (I 4)] (B r2), litA (B r2) = true, (B (!r2)) = (B false), Meets Try.prog 66 [(I p1.Kind), (I 1), (I 12)] (B r5), litA (B r5) = true, (B (!r5)) = (B false), Meets Try.prog 66 [(I p1.Obj), (I (-1)), (I 99)] (B r8), litA (B r8) = true, (B (!r8)) = (B false), Meets Try.prog 66 [(I p1.Lock), (I (-1)), (I 99)] (B r11), litA (B r11) = true, (B (!r11)) = (B true), (B false) = (B false), litA (B false) = true]) (by kernel_rfl) ⟨(impl_in_m hr2), rfl, (litB c4), (impl_in_m hr5), rfl, (litB c7), (impl_in_m hr8), rfl, (litB c10), (impl_in_m hr11), rfl, (litB c12), rfl, rfl, trivial⟩
        · obtain ⟨r14, hr14, h⟩ := bnS h
          rcases itS h with ⟨c15, h⟩ | ⟨c16, h⟩
          · have h := Option.some.inj h
            subst h
            exact go_ret hΘ hm hP hn (hs := [⟨0, .new 1001, none⟩, ⟨4, .callV [] (B r2), none⟩, ⟨6, .no, some (B false)⟩, ⟨9, .callV [] (B r5), none⟩, ⟨12, .no, some (B false)⟩, ⟨15, .callV [] (B r8), none⟩, ⟨18, .no, some (B false)⟩, ⟨21, .callV [] (B r11), none⟩, ⟨24, .no, some (B false)⟩, ⟨27, .callV [] (B r14), none⟩, ⟨30, .br true, none⟩]) (rh := []) (ph := .raw) (ps := [Meets Try.prog 66 [(I p1.Thread), (I 0), (I 4)] (B r2), litA (B r2) = true, (B (!r2)) = (B false), Meets Try.prog 66 [(I p1.Kind), (I 1), (I 12)] (B r5), litA (B r5) = true, (B (!r5)) = (B false), Meets Try.prog 66 [(I p1.Obj), (I (-1)), (I 99)] (B r8), litA (B r8) = true, (B (!r8)) = (B false), Meets Try.prog 66 [(I p1.Lock), (I (-1)), (I 99)] (B r11), litA (B r11) = true, (B (!r11)) = (B false), Meets Try.prog 66 [(I p1.Pc), (I 0), (I 99)] (B r14), litA (B r14) = true, (!r14) = true, (B false) = (B false), litA (B false) = true]) (by kernel_rfl) ⟨(impl_in_m hr2), rfl, (litB c4), (impl_in_m hr5), rfl, (litB c7), (impl_in_m hr8), rfl, (litB c10), (impl_in_m hr11), rfl, (litB c13), (impl_in_m hr14), rfl, c15, rfl, rfl, trivial⟩
          · exact go_to hΘ hm hx hP hn (hs := [⟨0, .new 1001, none⟩, ⟨4, .callV [] (B r2), none⟩, ⟨6, .no, some (B false)⟩, ⟨9, .callV [] (B r5), none⟩, ⟨12, .no, some (B false)⟩, ⟨15, .callV [] (B r8), none⟩, ⟨18, .no, some (B false)⟩, ⟨21, .callV [] (B r11), none⟩, ⟨24, .no, some (B false)⟩, ⟨27, .callV [] (B r14), none⟩, ⟨30, .br false, none⟩]) (π := [(1001, 1)]) (ts := [1]) (kp := []) (ps := [Meets Try.prog 66 [(I p1.Thread), (I 0), (I 4)] (B r2), litA (B r2) = true, (B (!r2)) = (B false), Meets Try.prog 66 [(I p1.Kind), (I 1), (I 12)] (B r5), litA (B r5) = true, (B (!r5)) = (B false), Meets Try.prog 66 [(I p1.Obj), (I (-1)), (I 99)] (B r8), litA (B r8) = true, (B (!r8)) = (B false), Meets Try.prog 66 [(I p1.Lock), (I (-1)), (I 99)] (B r11), litA (B r11) = true, (B (!r11)) = (B false), Meets Try.prog 66 [(I p1.Pc), (I 0), (I 99)] (B r14), litA (B r14) = true, (!r14) = false, treeLL [((o81 p1))] = true]) (by kernel_rfl) ⟨(impl_in_m hr2), rfl, (litB c4), (impl_in_m hr5), rfl, (litB c7), (impl_in_m hr8), rfl, (litB c10), (impl_in_m hr11), rfl, (litB c13), (impl_in_m hr14), rfl, c16, rfl, trivial⟩ (impl_Event_isGood_j0_m hP hn hx p1  _ h)
noncomputable def body84 : Code := match Try.f84.body with | some c => c | none => .skip
noncomputable def impl_GoodTrace_1 (p1 : GEvent) : Option Bool :=
  Option.bind (impl_Event_isGood p1) fun r2 =>
  some (!r2)
theorem impl_GoodTrace_1_m {p1 : GEvent} {r : Bool} (h : impl_GoodTrace_1 p1 = some r) : Meets Try.prog 84 [(AV.agg ((o81 p1)))] (B r) := by
  refine meets_ofC Θ_ok Try.func84 rfl (c := body84) (by kernel_rfl) (Nat.le_of_ble_eq_true rfl) ?_
  intro E hP hn hx
  replace hn : E.n = 6 := hn
  have hm : E.P.follows .mixedOrders = true := by rw [hP]; exact mixed
  have hΘ : TOK E.P Θ := by rw [hP]; exact Θ_ok
  unfold impl_GoodTrace_1 at h
  show WAt E body84 (FQ (RetE Θ Try.f84.results.toList [] [] (B r) E)) [] ⟨[(0, (AV.agg ((o81 p1))))], [], [JJ]⟩
  obtain ⟨r2, hr2, h⟩ := bnS h
  have h := Option.some.inj h
  subst h
  exact go_ret hΘ hm hP hn (hs := [⟨0, .new 1001, none⟩, ⟨3, .callV [] (B r2), none⟩]) (rh := []) (ph := .raw) (ps := [Meets Try.prog 85 [(AV.agg ((o81 p1)))] (B r2), litA (B r2) = true, (B (!r2)) = (B (!r2)), litA (B (!r2)) = true]) (by kernel_rfl) ⟨(impl_Event_isGood_m hr2), rfl, rfl, rfl, trivial⟩
noncomputable def body107 : Code := match Try.f107.body with | some c => c | none => .skip
noncomputable def slices_IndexFunc_Event_Event__impl_GoodTrace_1_l0  (p1 : (List GEvent)) : Nat → Int → Option Int
  | 0, _ => none
  | n + 1, v2 =>
  if (decide (v2 < (p1.length : Int))) = true then
    Option.bind (rd p1 v2) fun x4 =>
    Option.bind (impl_GoodTrace_1 x4) fun r5 =>
    if r5 = true then
      some v2
    else
      slices_IndexFunc_Event_Event__impl_GoodTrace_1_l0 p1 n (w64 (v2 + 1))
  else
    some (-1)
theorem slices_IndexFunc_Event_Event__impl_GoodTrace_1_l0_m {E : Env} (hP : E.P = Try.prog) (hn : E.n = 19) (hx : ∀ p, p ∈ E.fx → p.1 ∈ ([] : List Nat)) (p1 : (List GEvent))  : ∀ (n : Nat) (v2 : Int) (r : Int), slices_IndexFunc_Event_Event__impl_GoodTrace_1_l0 p1 n v2 = some r → WAt E body107 (FQ (RetE Θ Try.f107.results.toList [] [] (I r) E)) [true, false, true, false] ⟨[(0, (AV.ro 5 (p1.map o81))), (1, (AV.fn 84 [])), (7, (I (p1.length : Int))), (8, (I v2))], [], [JJ]⟩ := by
  have hm : E.P.follows .mixedOrders = true := by rw [hP]; exact mixed
  have hΘ : TOK E.P Θ := by rw [hP]; exact Θ_ok
  intro n
  induction n with
  | zero => intro v2 r h; simp only [slices_IndexFunc_Event_Event__impl_GoodTrace_1_l0] at h; cases h
  | succ n ih =>
    intro v2 r h
    simp only [slices_IndexFunc_Event_Event__impl_GoodTrace_1_l0] at h
    rcases itS h with ⟨c3, h⟩ | ⟨c8, h⟩
    · obtain ⟨x4, hx4, h⟩ := bnS h
      obtain ⟨r5, hr5, h⟩ := bnS h
      rcases itS h with ⟨c6, h⟩ | ⟨c7, h⟩
      · have h := Option.some.inj h
        subst h
        exact go_ret hΘ hm hP hn (hs := [⟨1, .br true, none⟩, ⟨7, .row (o81 x4), none⟩, ⟨9, .callV [] (B r5), none⟩, ⟨10, .br true, none⟩]) (rh := []) (ph := .raw) (ps := [(decide (v2 < (p1.length : Int))) = true, (0 : Int) ≤ v2, (p1.map o81)[(Int.toNat v2)]? = some (o81 x4), Meets Try.prog 84 [(AV.agg ((o81 x4)))] (B r5), litA (B r5) = true, r5 = true, (I v2) = (I v2), litA (I v2) = true]) (by kernel_rfl) ⟨c3, (rd0 hx4), (rdM o81 hx4), (impl_GoodTrace_1_m hr5), rfl, c6, rfl, rfl, trivial⟩
      · exact go_to hΘ hm hx hP hn (hs := [⟨1, .br true, none⟩, ⟨7, .row (o81 x4), none⟩, ⟨9, .callV [] (B r5), none⟩, ⟨10, .br false, none⟩]) (π := []) (ts := [0, 1, 7, 8]) (kp := []) (ps := [(decide (v2 < (p1.length : Int))) = true, (0 : Int) ≤ v2, (p1.map o81)[(Int.toNat v2)]? = some (o81 x4), Meets Try.prog 84 [(AV.agg ((o81 x4)))] (B r5), litA (B r5) = true, r5 = false]) (by kernel_rfl) ⟨c3, (rd0 hx4), (rdM o81 hx4), (impl_GoodTrace_1_m hr5), rfl, c7, trivial⟩ (ih (w64 (v2 + 1)) _ h)
    · have h := Option.some.inj h
      subst h
      exact go_ret hΘ hm hP hn (hs := [⟨1, .br false, none⟩]) (rh := []) (ph := .raw) (ps := [(decide (v2 < (p1.length : Int))) = false, (I (-1)) = (I (-1)), litA (I (-1)) = true]) (by kernel_rfl) ⟨c8, rfl, rfl, trivial⟩
noncomputable def slices_IndexFunc_Event_Event__impl_GoodTrace_1 (p1 : (List GEvent)) : Option Int :=
  slices_IndexFunc_Event_Event__impl_GoodTrace_1_l0 p1 FU 0
theorem slices_IndexFunc_Event_Event__impl_GoodTrace_1_m {p1 : (List GEvent)} {r : Int} (h : slices_IndexFunc_Event_Event__impl_GoodTrace_1 p1 = some r) : Meets Try.prog 107 [(AV.ro 5 (p1.map o81)), (AV.fn 84 [])] (I r) := by
  refine meets_ofC Θ_ok Try.func107 rfl (c := body107) (by kernel_rfl) (Nat.le_of_ble_eq_true rfl) ?_
  intro E hP hn hx
  replace hn : E.n = 19 := hn
  have hm : E.P.follows .mixedOrders = true := by rw [hP]; exact mixed
  have hΘ : TOK E.P Θ := by rw [hP]; exact Θ_ok
  unfold slices_IndexFunc_Event_Event__impl_GoodTrace_1 at h
  show WAt E body107 (FQ (RetE Θ Try.f107.results.toList [] [] (I r) E)) [] ⟨[(0, (AV.ro 5 (p1.map o81))), (1, (AV.fn 84 []))], [], [JJ]⟩
  exact go_to hΘ hm hx hP hn (hs := [⟨2, .no, some (I (p1.length : Int))⟩]) (π := []) (ts := [0, 1, 7, 8]) (kp := []) (ps := [AV.lit (.int .i64 (((p1.map o81).length : Nat) : Int)) = (I (p1.length : Int))]) (by kernel_rfl) ⟨(lenM o81), trivial⟩ (slices_IndexFunc_Event_Event__impl_GoodTrace_1_l0_m hP hn hx p1 FU 0 _ h)
noncomputable def body83 : Code := match Try.f83.body with | some c => c | none => .skip
noncomputable def slices_ContainsFunc_Event_Event__impl_GoodTrace_1 (p1 : (List GEvent)) : Option Bool :=
  Option.bind (slices_IndexFunc_Event_Event__impl_GoodTrace_1 p1) fun r2 =>
  some (decide (r2 ≥ 0))
theorem slices_ContainsFunc_Event_Event__impl_GoodTrace_1_m {p1 : (List GEvent)} {r : Bool} (h : slices_ContainsFunc_Event_Event__impl_GoodTrace_1 p1 = some r) : Meets Try.prog 83 [(AV.ro 5 (p1.map o81)), (AV.fn 84 [])] (B r) := by
  refine meets_ofC Θ_ok Try.func83 rfl (c := body83) (by kernel_rfl) (Nat.le_of_ble_eq_true rfl) ?_
  intro E hP hn hx
  replace hn : E.n = 9 := hn
  have hm : E.P.follows .mixedOrders = true := by rw [hP]; exact mixed
  have hΘ : TOK E.P Θ := by rw [hP]; exact Θ_ok
  unfold slices_ContainsFunc_Event_Event__impl_GoodTrace_1 at h
  show WAt E body83 (FQ (RetE Θ Try.f83.results.toList [] [] (B r) E)) [] ⟨[(0, (AV.ro 5 (p1.map o81))), (1, (AV.fn 84 []))], [], [JJ]⟩
  obtain ⟨r2, hr2, h⟩ := bnS h
  have h := Option.some.inj h
  subst h
  exact go_ret hΘ hm hP hn (hs := [⟨3, .callV [] (I r2), none⟩]) (rh := []) (ph := .raw) (ps := [Meets Try.prog 107 [(AV.ro 5 (p1.map o81)), (AV.fn 84 [])] (I r2), litA (I r2) = true, (B (decide (r2 ≥ 0))) = (B (decide (r2 ≥ 0))), litA (B (decide (r2 ≥ 0))) = true]) (by kernel_rfl) ⟨(slices_IndexFunc_Event_Event__impl_GoodTrace_1_m hr2), rfl, rfl, rfl, trivial⟩
noncomputable def body53 : Code := match Try.f53.body with | some c => c | none => .skip
noncomputable def impl_GoodTrace (p1 : (List GEvent)) : Option Bool :=
  if (decide ((p1.length : Int) ≤ 200)) = true then
    Option.bind (slices_ContainsFunc_Event_Event__impl_GoodTrace_1 p1) fun r3 =>
    some (!r3)
  else
    some false
theorem impl_GoodTrace_m {p1 : (List GEvent)} {r : Bool} (h : impl_GoodTrace p1 = some r) : Meets Try.prog 53 [(AV.ro 5 (p1.map o81))] (B r) := by
  refine meets_ofC Θ_ok Try.func53 rfl (c := body53) (by kernel_rfl) (Nat.le_of_ble_eq_true rfl) ?_
  intro E hP hn hx
  replace hn : E.n = 11 := hn
  have hm : E.P.follows .mixedOrders = true := by rw [hP]; exact mixed
  have hΘ : TOK E.P Θ := by rw [hP]; exact Θ_ok
  unfold impl_GoodTrace at h
  show WAt E body53 (FQ (RetE Θ Try.f53.results.toList [] [] (B r) E)) [] ⟨[(0, (AV.ro 5 (p1.map o81)))], [], [JJ]⟩
  rcases itS h with ⟨c2, h⟩ | ⟨c4, h⟩
  · obtain ⟨r3, hr3, h⟩ := bnS h
    have h := Option.some.inj h
    subst h
    exact go_ret hΘ hm hP hn (hs := [⟨2, .no, some (I (p1.length : Int))⟩, ⟨4, .no, some (B true)⟩, ⟨6, .callV [] (B r3), none⟩]) (rh := []) (ph := .raw) (ps := [AV.lit (.int .i64 (((p1.map o81).length : Nat) : Int)) = (I (p1.length : Int)), (B (decide ((p1.length : Int) ≤ 200))) = (B true), Meets Try.prog 83 [(AV.ro 5 (p1.map o81)), (AV.fn 84 [])] (B r3), litA (B r3) = true, (B (!r3)) = (B (!r3)), litA (B (!r3)) = true]) (by kernel_rfl) ⟨(lenM o81), (litB c2), (slices_ContainsFunc_Event_Event__impl_GoodTrace_1_m hr3), rfl, rfl, rfl, trivial⟩
  · have h := Option.some.inj h
    subst h
    exact go_ret hΘ hm hP hn (hs := [⟨2, .no, some (I (p1.length : Int))⟩, ⟨4, .no, some (B false)⟩]) (rh := []) (ph := .raw) (ps := [AV.lit (.int .i64 (((p1.map o81).length : Nat) : Int)) = (I (p1.length : Int)), (B (decide ((p1.length : Int) ≤ 200))) = (B false), (B false) = (B false), litA (B false) = true]) (by kernel_rfl) ⟨(lenM o81), (litB c4), rfl, rfl, trivial⟩
noncomputable def body87 : Code := match Try.f87.body with | some c => c | none => .skip
noncomputable def impl_Event_gives (p1 : GEvent) : Option Int :=
  if (p1.Kind == 5) = true then
    some p1.Obj
  else
    if (p1.Kind == 8) = true then
      some p1.Lock
    else
      some (-1)
theorem impl_Event_gives_m {p1 : GEvent} {r : Int} (h : impl_Event_gives p1 = some r) : Meets Try.prog 87 [(AV.agg ((o81 p1)))] (I r) := by
  refine meets_ofC Θ_ok Try.func87 rfl (c := body87) (by kernel_rfl) (Nat.le_of_ble_eq_true rfl) ?_
  intro E hP hn hx
  replace hn : E.n = 13 := hn
  have hm : E.P.follows .mixedOrders = true := by rw [hP]; exact mixed
  have hΘ : TOK E.P Θ := by rw [hP]; exact Θ_ok
  unfold impl_Event_gives at h
  show WAt E body87 (FQ (RetE Θ Try.f87.results.toList [] [] (I r) E)) [] ⟨[(0, (AV.agg ((o81 p1))))], [], [JJ]⟩
  rcases itS h with ⟨c2, h⟩ | ⟨c3, h⟩
  · have h := Option.some.inj h
    subst h
    exact go_ret hΘ hm hP hn (hs := [⟨0, .new 1001, none⟩, ⟨6, .br true, none⟩]) (rh := []) (ph := .raw) (ps := [(p1.Kind == 5) = true, (I p1.Obj) = (I p1.Obj), litA (I p1.Obj) = true]) (by kernel_rfl) ⟨c2, rfl, rfl, trivial⟩
  · rcases itS h with ⟨c4, h⟩ | ⟨c5, h⟩
    · have h := Option.some.inj h
      subst h
      exact go_ret hΘ hm hP hn (hs := [⟨0, .new 1001, none⟩, ⟨6, .br false, none⟩, ⟨9, .br true, none⟩]) (rh := []) (ph := .raw) (ps := [(p1.Kind == 5) = false, (p1.Kind == 8) = true, (I p1.Lock) = (I p1.Lock), litA (I p1.Lock) = true]) (by kernel_rfl) ⟨c3, c4, rfl, rfl, trivial⟩
    · have h := Option.some.inj h
      subst h
      exact go_ret hΘ hm hP hn (hs := [⟨0, .new 1001, none⟩, ⟨6, .br false, none⟩, ⟨9, .br false, none⟩]) (rh := []) (ph := .raw) (ps := [(p1.Kind == 5) = false, (p1.Kind == 8) = false, (I (-1)) = (I (-1)), litA (I (-1)) = true]) (by kernel_rfl) ⟨c3, c5, rfl, rfl, trivial⟩
noncomputable def body86 : Code := match Try.f86.body with | some c => c | none => .skip
noncomputable def impl_Event_takes (p1 : GEvent) : Option Int :=
  if (p1.Kind == 4) = true then
    some p1.Obj
  else
    if (p1.Kind == 9) = true then
      some p1.Lock
    else
      some (-1)
theorem impl_Event_takes_m {p1 : GEvent} {r : Int} (h : impl_Event_takes p1 = some r) : Meets Try.prog 86 [(AV.agg ((o81 p1)))] (I r) := by
  refine meets_ofC Θ_ok Try.func86 rfl (c := body86) (by kernel_rfl) (Nat.le_of_ble_eq_true rfl) ?_
  intro E hP hn hx
  replace hn : E.n = 13 := hn
  have hm : E.P.follows .mixedOrders = true := by rw [hP]; exact mixed
  have hΘ : TOK E.P Θ := by rw [hP]; exact Θ_ok
  unfold impl_Event_takes at h
  show WAt E body86 (FQ (RetE Θ Try.f86.results.toList [] [] (I r) E)) [] ⟨[(0, (AV.agg ((o81 p1))))], [], [JJ]⟩
  rcases itS h with ⟨c2, h⟩ | ⟨c3, h⟩
  · have h := Option.some.inj h
    subst h
    exact go_ret hΘ hm hP hn (hs := [⟨0, .new 1001, none⟩, ⟨6, .br true, none⟩]) (rh := []) (ph := .raw) (ps := [(p1.Kind == 4) = true, (I p1.Obj) = (I p1.Obj), litA (I p1.Obj) = true]) (by kernel_rfl) ⟨c2, rfl, rfl, trivial⟩
  · rcases itS h with ⟨c4, h⟩ | ⟨c5, h⟩
    · have h := Option.some.inj h
      subst h
      exact go_ret hΘ hm hP hn (hs := [⟨0, .new 1001, none⟩, ⟨6, .br false, none⟩, ⟨9, .br true, none⟩]) (rh := []) (ph := .raw) (ps := [(p1.Kind == 4) = false, (p1.Kind == 9) = true, (I p1.Lock) = (I p1.Lock), litA (I p1.Lock) = true]) (by kernel_rfl) ⟨c3, c4, rfl, rfl, trivial⟩
    · have h := Option.some.inj h
      subst h
      exact go_ret hΘ hm hP hn (hs := [⟨0, .new 1001, none⟩, ⟨6, .br false, none⟩, ⟨9, .br false, none⟩]) (rh := []) (ph := .raw) (ps := [(p1.Kind == 4) = false, (p1.Kind == 9) = false, (I (-1)) = (I (-1)), litA (I (-1)) = true]) (by kernel_rfl) ⟨c3, c5, rfl, rfl, trivial⟩
noncomputable def body96 : Code := match Try.f96.body with | some c => c | none => .skip
noncomputable def impl_Event_lockOf (p1 : GEvent) : Option Int :=
  Option.bind (impl_Event_gives p1) fun r2 =>
  Option.bind (impl_Event_takes p1) fun r3 =>
  some (imax r2 r3)
theorem impl_Event_lockOf_m {p1 : GEvent} {r : Int} (h : impl_Event_lockOf p1 = some r) : Meets Try.prog 96 [(AV.agg ((o81 p1)))] (I r) := by
  refine meets_ofC Θ_ok Try.func96 rfl (c := body96) (by kernel_rfl) (Nat.le_of_ble_eq_true rfl) ?_
  intro E hP hn hx
  replace hn : E.n = 8 := hn
  have hm : E.P.follows .mixedOrders = true := by rw [hP]; exact mixed
  have hΘ : TOK E.P Θ := by rw [hP]; exact Θ_ok
  unfold impl_Event_lockOf at h
  show WAt E body96 (FQ (RetE Θ Try.f96.results.toList [] [] (I r) E)) [] ⟨[(0, (AV.agg ((o81 p1))))], [], [JJ]⟩
  obtain ⟨r2, hr2, h⟩ := bnS h
  obtain ⟨r3, hr3, h⟩ := bnS h
  have h := Option.some.inj h
  subst h
  exact go_ret hΘ hm hP hn (hs := [⟨0, .new 1001, none⟩, ⟨3, .callV [] (I r2), none⟩, ⟨5, .callV [] (I r3), none⟩]) (rh := []) (ph := .raw) (ps := [Meets Try.prog 87 [(AV.agg ((o81 p1)))] (I r2), litA (I r2) = true, Meets Try.prog 86 [(AV.agg ((o81 p1)))] (I r3), litA (I r3) = true, (I (imax r2 r3)) = (I (imax r2 r3)), litA (I (imax r2 r3)) = true]) (by kernel_rfl) ⟨(impl_Event_gives_m hr2), rfl, (impl_Event_takes_m hr3), rfl, rfl, rfl, trivial⟩
noncomputable def body111 : Code := match Try.f111.body with | some c => c | none => .skip
noncomputable def impl_Event_isCond (p1 : GEvent) : Option Bool :=
  if (p1.Kind == 8) = true then
    some true
  else
    if (p1.Kind == 9) = true then
      some true
    else
      some (p1.Kind == 10)
theorem impl_Event_isCond_m {p1 : GEvent} {r : Bool} (h : impl_Event_isCond p1 = some r) : Meets Try.prog 111 [(AV.agg ((o81 p1)))] (B r) := by
  refine meets_ofC Θ_ok Try.func111 rfl (c := body111) (by kernel_rfl) (Nat.le_of_ble_eq_true rfl) ?_
  intro E hP hn hx
  replace hn : E.n = 16 := hn
  have hm : E.P.follows .mixedOrders = true := by rw [hP]; exact mixed
  have hΘ : TOK E.P Θ := by rw [hP]; exact Θ_ok
  unfold impl_Event_isCond at h
  show WAt E body111 (FQ (RetE Θ Try.f111.results.toList [] [] (B r) E)) [] ⟨[(0, (AV.agg ((o81 p1))))], [], [JJ]⟩
  rcases itS h with ⟨c2, h⟩ | ⟨c3, h⟩
  · have h := Option.some.inj h
    subst h
    exact go_ret hΘ hm hP hn (hs := [⟨0, .new 1001, none⟩, ⟨5, .no, some (B true)⟩]) (rh := []) (ph := .raw) (ps := [(B (p1.Kind == 8)) = (B true), (B true) = (B true), litA (B true) = true]) (by kernel_rfl) ⟨(litB c2), rfl, rfl, trivial⟩
  · rcases itS h with ⟨c4, h⟩ | ⟨c5, h⟩
    · have h := Option.some.inj h
      subst h
      exact go_ret hΘ hm hP hn (hs := [⟨0, .new 1001, none⟩, ⟨5, .no, some (B false)⟩, ⟨10, .no, some (B true)⟩]) (rh := []) (ph := .raw) (ps := [(B (p1.Kind == 8)) = (B false), (B (p1.Kind == 9)) = (B true), (B true) = (B true), litA (B true) = true]) (by kernel_rfl) ⟨(litB c3), (litB c4), rfl, rfl, trivial⟩
    · have h := Option.some.inj h
      subst h
      exact go_ret hΘ hm hP hn (hs := [⟨0, .new 1001, none⟩, ⟨5, .no, some (B false)⟩, ⟨10, .no, some (B false)⟩]) (rh := []) (ph := .raw) (ps := [(B (p1.Kind == 8)) = (B false), (B (p1.Kind == 9)) = (B false), (B (p1.Kind == 10)) = (B (p1.Kind == 10)), litA (B (p1.Kind == 10)) = true]) (by kernel_rfl) ⟨(litB c3), (litB c5), rfl, rfl, trivial⟩
noncomputable def body91 : Code := match Try.f91.body with | some c => c | none => .skip
noncomputable def impl_Event_touches (p1 : GEvent) : Option Bool :=
  if (p1.Kind == 2) = true then
    some true
  else
    some (p1.Kind == 3)
theorem impl_Event_touches_m {p1 : GEvent} {r : Bool} (h : impl_Event_touches p1 = some r) : Meets Try.prog 91 [(AV.agg ((o81 p1)))] (B r) := by
  refine meets_ofC Θ_ok Try.func91 rfl (c := body91) (by kernel_rfl) (Nat.le_of_ble_eq_true rfl) ?_
  intro E hP hn hx
  replace hn : E.n = 11 := hn
  have hm : E.P.follows .mixedOrders = true := by rw [hP]; exact mixed
  have hΘ : TOK E.P Θ := by rw [hP]; exact Θ_ok
  unfold impl_Event_touches at h
  show WAt E body91 (FQ (RetE Θ Try.f91.results.toList [] [] (B r) E)) [] ⟨[(0, (AV.agg ((o81 p1))))], [], [JJ]⟩
  rcases itS h with ⟨c2, h⟩ | ⟨c3, h⟩
  · have h := Option.some.inj h
    subst h
    exact go_ret hΘ hm hP hn (hs := [⟨0, .new 1001, none⟩, ⟨5, .no, some (B true)⟩]) (rh := []) (ph := .raw) (ps := [(B (p1.Kind == 2)) = (B true), (B true) = (B true), litA (B true) = true]) (by kernel_rfl) ⟨(litB c2), rfl, rfl, trivial⟩
  · have h := Option.some.inj h
    subst h
    exact go_ret hΘ hm hP hn (hs := [⟨0, .new 1001, none⟩, ⟨5, .no, some (B false)⟩]) (rh := []) (ph := .raw) (ps := [(B (p1.Kind == 2)) = (B false), (B (p1.Kind == 3)) = (B (p1.Kind == 3)), litA (B (p1.Kind == 3)) = true]) (by kernel_rfl) ⟨(litB c3), rfl, rfl, trivial⟩
noncomputable def body95 : Code := match Try.f95.body with | some c => c | none => .skip
noncomputable def impl_binds (p1 : GEvent) (p2 : GEvent) : Option Bool :=
  if (p1.Kind == 3) = true then
    Option.bind (impl_Event_touches p2) fun r4 =>
    if r4 = true then
      some (p1.Obj == p2.Obj)
    else
      some false
  else
    if (p1.Kind == 6) = true then
      if (p2.Kind == 6) = true then
        some true
      else
        some (p2.Thread == p1.Obj)
    else
      if (p1.Kind == 7) = true then
        if (p2.Kind == 11) = true then
          some (p2.Thread == p1.Obj)
        else
          some false
      else
        if (p1.Kind == 10) = true then
          if (p2.Thread == p1.Lock) = true then
            some true
          else
            Option.bind (impl_Event_isCond p2) fun r19 =>
            if r19 = true then
              some (p1.Obj == p2.Obj)
            else
              some false
        else
          if (p1.Kind == 8) = true then
            Option.bind (impl_Event_isCond p2) fun r24 =>
            if r24 = true then
              some (p1.Obj == p2.Obj)
            else
              some false
          else
            if (p1.Kind == 12) = true then
              some true
            else
              some false
theorem impl_binds_m {p1 : GEvent} {p2 : GEvent} {r : Bool} (h : impl_binds p1 p2 = some r) : Meets Try.prog 95 [(AV.agg ((o81 p1))), (AV.agg ((o81 p2)))] (B r) := by
  refine meets_ofC Θ_ok Try.func95 rfl (c := body95) (by kernel_rfl) (Nat.le_of_ble_eq_true rfl) ?_
  intro E hP hn hx
  replace hn : E.n = 73 := hn
  have hm : E.P.follows .mixedOrders = true := by rw [hP]; exact mixed
  have hΘ : TOK E.P Θ := by rw [hP]; exact Θ_ok
  unfold impl_binds at h
  show WAt E body95 (FQ (RetE Θ Try.f95.results.toList [] [] (B r) E)) [] ⟨[(0, (AV.agg ((o81 p1)))), (1, (AV.agg ((o81 p2))))], [], [JJ]⟩
  rcases itS h with ⟨c3, h⟩ | ⟨c7, h⟩
  · obtain ⟨r4, hr4, h⟩ := bnS h
    rcases itS h with ⟨c5, h⟩ | ⟨c6, h⟩
    · have h := Option.some.inj h
      subst h
      exact go_ret hΘ hm hP hn (hs := [⟨0, .new 1001, none⟩, ⟨1, .new 1002, none⟩, ⟨7, .br true, none⟩, ⟨9, .callV [] (B r4), none⟩, ⟨10, .no, some (B true)⟩]) (rh := []) (ph := .raw) (ps := [(p1.Kind == 3) = true, Meets Try.prog 91 [(AV.agg ((o81 p2)))] (B r4), litA (B r4) = true, (B r4) = (B true), (B (p1.Obj == p2.Obj)) = (B (p1.Obj == p2.Obj)), litA (B (p1.Obj == p2.Obj)) = true]) (by kernel_rfl) ⟨c3, (impl_Event_touches_m hr4), rfl, (litB c5), rfl, rfl, trivial⟩
    · have h := Option.some.inj h
      subst h
      exact go_ret hΘ hm hP hn (hs := [⟨0, .new 1001, none⟩, ⟨1, .new 1002, none⟩, ⟨7, .br true, none⟩, ⟨9, .callV [] (B r4), none⟩, ⟨10, .no, some (B false)⟩]) (rh := []) (ph := .raw) (ps := [(p1.Kind == 3) = true, Meets Try.prog 91 [(AV.agg ((o81 p2)))] (B r4), litA (B r4) = true, (B r4) = (B false), (B false) = (B false), litA (B false) = true]) (by kernel_rfl) ⟨c3, (impl_Event_touches_m hr4), rfl, (litB c6), rfl, rfl, trivial⟩
  · rcases itS h with ⟨c8, h⟩ | ⟨c11, h⟩
    · rcases itS h with ⟨c9, h⟩ | ⟨c10, h⟩
      · have h := Option.some.inj h
        subst h
        exact go_ret hΘ hm hP hn (hs := [⟨0, .new 1001, none⟩, ⟨1, .new 1002, none⟩, ⟨7, .br false, none⟩, ⟨10, .br true, none⟩, ⟨14, .no, some (B true)⟩]) (rh := []) (ph := .raw) (ps := [(p1.Kind == 3) = false, (p1.Kind == 6) = true, (B (p2.Kind == 6)) = (B true), (B true) = (B true), litA (B true) = true]) (by kernel_rfl) ⟨c7, c8, (litB c9), rfl, rfl, trivial⟩
      · have h := Option.some.inj h
        subst h
        exact go_ret hΘ hm hP hn (hs := [⟨0, .new 1001, none⟩, ⟨1, .new 1002, none⟩, ⟨7, .br false, none⟩, ⟨10, .br true, none⟩, ⟨14, .no, some (B false)⟩]) (rh := []) (ph := .raw) (ps := [(p1.Kind == 3) = false, (p1.Kind == 6) = true, (B (p2.Kind == 6)) = (B false), (B (p2.Thread == p1.Obj)) = (B (p2.Thread == p1.Obj)), litA (B (p2.Thread == p1.Obj)) = true]) (by kernel_rfl) ⟨c7, c8, (litB c10), rfl, rfl, trivial⟩
    · rcases itS h with ⟨c12, h⟩ | ⟨c15, h⟩
      · rcases itS h with ⟨c13, h⟩ | ⟨c14, h⟩
        · have h := Option.some.inj h
          subst h
          exact go_ret hΘ hm hP hn (hs := [⟨0, .new 1001, none⟩, ⟨1, .new 1002, none⟩, ⟨7, .br false, none⟩, ⟨10, .br false, none⟩, ⟨13, .br true, none⟩, ⟨17, .no, some (B true)⟩]) (rh := []) (ph := .raw) (ps := [(p1.Kind == 3) = false, (p1.Kind == 6) = false, (p1.Kind == 7) = true, (B (p2.Kind == 11)) = (B true), (B (p2.Thread == p1.Obj)) = (B (p2.Thread == p1.Obj)), litA (B (p2.Thread == p1.Obj)) = true]) (by kernel_rfl) ⟨c7, c11, c12, (litB c13), rfl, rfl, trivial⟩
        · have h := Option.some.inj h
          subst h
          exact go_ret hΘ hm hP hn (hs := [⟨0, .new 1001, none⟩, ⟨1, .new 1002, none⟩, ⟨7, .br false, none⟩, ⟨10, .br false, none⟩, ⟨13, .br true, none⟩, ⟨17, .no, some (B false)⟩]) (rh := []) (ph := .raw) (ps := [(p1.Kind == 3) = false, (p1.Kind == 6) = false, (p1.Kind == 7) = true, (B (p2.Kind == 11)) = (B false), (B false) = (B false), litA (B false) = true]) (by kernel_rfl) ⟨c7, c11, c12, (litB c14), rfl, rfl, trivial⟩
      · rcases itS h with ⟨c16, h⟩ | ⟨c22, h⟩
        · rcases itS h with ⟨c17, h⟩ | ⟨c18, h⟩
          · have h := Option.some.inj h
            subst h
            exact go_ret hΘ hm hP hn (hs := [⟨0, .new 1001, none⟩, ⟨1, .new 1002, none⟩, ⟨7, .br false, none⟩, ⟨10, .br false, none⟩, ⟨13, .br false, none⟩, ⟨16, .br true, none⟩, ⟨22, .no, some (B true)⟩]) (rh := []) (ph := .raw) (ps := [(p1.Kind == 3) = false, (p1.Kind == 6) = false, (p1.Kind == 7) = false, (p1.Kind == 10) = true, (B (p2.Thread == p1.Lock)) = (B true), (B true) = (B true), litA (B true) = true]) (by kernel_rfl) ⟨c7, c11, c15, c16, (litB c17), rfl, rfl, trivial⟩
          · obtain ⟨r19, hr19, h⟩ := bnS h
            rcases itS h with ⟨c20, h⟩ | ⟨c21, h⟩
            · have h := Option.some.inj h
              subst h
              exact go_ret hΘ hm hP hn (hs := [⟨0, .new 1001, none⟩, ⟨1, .new 1002, none⟩, ⟨7, .br false, none⟩, ⟨10, .br false, none⟩, ⟨13, .br false, none⟩, ⟨16, .br true, none⟩, ⟨22, .no, some (B false)⟩, ⟨24, .callV [] (B r19), none⟩, ⟨25, .no, some (B true)⟩]) (rh := []) (ph := .raw) (ps := [(p1.Kind == 3) = false, (p1.Kind == 6) = false, (p1.Kind == 7) = false, (p1.Kind == 10) = true, (B (p2.Thread == p1.Lock)) = (B false), Meets Try.prog 111 [(AV.agg ((o81 p2)))] (B r19), litA (B r19) = true, (B r19) = (B true), (B (p1.Obj == p2.Obj)) = (B (p1.Obj == p2.Obj)), litA (B (p1.Obj == p2.Obj)) = true]) (by kernel_rfl) ⟨c7, c11, c15, c16, (litB c18), (impl_Event_isCond_m hr19), rfl, (litB c20), rfl, rfl, trivial⟩
            · have h := Option.some.inj h
              subst h
              exact go_ret hΘ hm hP hn (hs := [⟨0, .new 1001, none⟩, ⟨1, .new 1002, none⟩, ⟨7, .br false, none⟩, ⟨10, .br false, none⟩, ⟨13, .br false, none⟩, ⟨16, .br true, none⟩, ⟨22, .no, some (B false)⟩, ⟨24, .callV [] (B r19), none⟩, ⟨25, .no, some (B false)⟩]) (rh := []) (ph := .raw) (ps := [(p1.Kind == 3) = false, (p1.Kind == 6) = false, (p1.Kind == 7) = false, (p1.Kind == 10) = true, (B (p2.Thread == p1.Lock)) = (B false), Meets Try.prog 111 [(AV.agg ((o81 p2)))] (B r19), litA (B r19) = true, (B r19) = (B false), (B false) = (B false), litA (B false) = true]) (by kernel_rfl) ⟨c7, c11, c15, c16, (litB c18), (impl_Event_isCond_m hr19), rfl, (litB c21), rfl, rfl, trivial⟩
        · rcases itS h with ⟨c23, h⟩ | ⟨c27, h⟩
          · obtain ⟨r24, hr24, h⟩ := bnS h
            rcases itS h with ⟨c25, h⟩ | ⟨c26, h⟩
            · have h := Option.some.inj h
              subst h
              exact go_ret hΘ hm hP hn (hs := [⟨0, .new 1001, none⟩, ⟨1, .new 1002, none⟩, ⟨7, .br false, none⟩, ⟨10, .br false, none⟩, ⟨13, .br false, none⟩, ⟨16, .br false, none⟩, ⟨19, .br true, none⟩, ⟨21, .callV [] (B r24), none⟩, ⟨22, .no, some (B true)⟩]) (rh := []) (ph := .raw) (ps := [(p1.Kind == 3) = false, (p1.Kind == 6) = false, (p1.Kind == 7) = false, (p1.Kind == 10) = false, (p1.Kind == 8) = true, Meets Try.prog 111 [(AV.agg ((o81 p2)))] (B r24), litA (B r24) = true, (B r24) = (B true), (B (p1.Obj == p2.Obj)) = (B (p1.Obj == p2.Obj)), litA (B (p1.Obj == p2.Obj)) = true]) (by kernel_rfl) ⟨c7, c11, c15, c22, c23, (impl_Event_isCond_m hr24), rfl, (litB c25), rfl, rfl, trivial⟩
            · have h := Option.some.inj h
              subst h
              exact go_ret hΘ hm hP hn (hs := [⟨0, .new 1001, none⟩, ⟨1, .new 1002, none⟩, ⟨7, .br false, none⟩, ⟨10, .br false, none⟩, ⟨13, .br false, none⟩, ⟨16, .br false, none⟩, ⟨19, .br true, none⟩, ⟨21, .callV [] (B r24), none⟩, ⟨22, .no, some (B false)⟩]) (rh := []) (ph := .raw) (ps := [(p1.Kind == 3) = false, (p1.Kind == 6) = false, (p1.Kind == 7) = false, (p1.Kind == 10) = false, (p1.Kind == 8) = true, Meets Try.prog 111 [(AV.agg ((o81 p2)))] (B r24), litA (B r24) = true, (B r24) = (B false), (B false) = (B false), litA (B false) = true]) (by kernel_rfl) ⟨c7, c11, c15, c22, c23, (impl_Event_isCond_m hr24), rfl, (litB c26), rfl, rfl, trivial⟩
          · rcases itS h with ⟨c28, h⟩ | ⟨c29, h⟩
            · have h := Option.some.inj h
              subst h
              exact go_ret hΘ hm hP hn (hs := [⟨0, .new 1001, none⟩, ⟨1, .new 1002, none⟩, ⟨7, .br false, none⟩, ⟨10, .br false, none⟩, ⟨13, .br false, none⟩, ⟨16, .br false, none⟩, ⟨19, .br false, none⟩, ⟨22, .br true, none⟩]) (rh := []) (ph := .raw) (ps := [(p1.Kind == 3) = false, (p1.Kind == 6) = false, (p1.Kind == 7) = false, (p1.Kind == 10) = false, (p1.Kind == 8) = false, (p1.Kind == 12) = true, (B true) = (B true), litA (B true) = true]) (by kernel_rfl) ⟨c7, c11, c15, c22, c27, c28, rfl, rfl, trivial⟩
            · have h := Option.some.inj h
              subst h
              exact go_ret hΘ hm hP hn (hs := [⟨0, .new 1001, none⟩, ⟨1, .new 1002, none⟩, ⟨7, .br false, none⟩, ⟨10, .br false, none⟩, ⟨13, .br false, none⟩, ⟨16, .br false, none⟩, ⟨19, .br false, none⟩, ⟨22, .br false, none⟩]) (rh := []) (ph := .raw) (ps := [(p1.Kind == 3) = false, (p1.Kind == 6) = false, (p1.Kind == 7) = false, (p1.Kind == 10) = false, (p1.Kind == 8) = false, (p1.Kind == 12) = false, (B false) = (B false), litA (B false) = true]) (by kernel_rfl) ⟨c7, c11, c15, c22, c27, c29, rfl, rfl, trivial⟩
noncomputable def body60 : Code := match Try.f60.body with | some c => c | none => .skip
noncomputable def impl_hang (p1 : GEvent) (p2 : GEvent) : Option Bool :=
  if (p1.Thread == p2.Thread) = true then
    some true
  else
    Option.bind (impl_binds p1 p2) fun r5 =>
    if r5 = true then
      some true
    else
      Option.bind (impl_binds p2 p1) fun r8 =>
      if r8 = true then
        some true
      else
        Option.bind (impl_Event_lockOf p1) fun r11 =>
        if (decide (r11 ≥ 0)) = true then
          Option.bind (impl_Event_lockOf p1) fun r13 =>
          Option.bind (impl_Event_lockOf p2) fun r14 =>
          some (r13 == r14)
        else
          some false
theorem impl_hang_m {p1 : GEvent} {p2 : GEvent} {r : Bool} (h : impl_hang p1 p2 = some r) : Meets Try.prog 60 [(AV.agg ((o81 p1))), (AV.agg ((o81 p2)))] (B r) := by
  refine meets_ofC Θ_ok Try.func60 rfl (c := body60) (by kernel_rfl) (Nat.le_of_ble_eq_true rfl) ?_
  intro E hP hn hx
  replace hn : E.n = 32 := hn
  have hm : E.P.follows .mixedOrders = true := by rw [hP]; exact mixed
  have hΘ : TOK E.P Θ := by rw [hP]; exact Θ_ok
  unfold impl_hang at h
  show WAt E body60 (FQ (RetE Θ Try.f60.results.toList [] [] (B r) E)) [] ⟨[(0, (AV.agg ((o81 p1)))), (1, (AV.agg ((o81 p2))))], [], [JJ]⟩
  rcases itS h with ⟨c3, h⟩ | ⟨c4, h⟩
  · have h := Option.some.inj h
    subst h
    exact go_ret hΘ hm hP hn (hs := [⟨0, .new 1001, none⟩, ⟨1, .new 1002, none⟩, ⟨8, .no, some (B true)⟩]) (rh := []) (ph := .raw) (ps := [(B (p1.Thread == p2.Thread)) = (B true), (B true) = (B true), litA (B true) = true]) (by kernel_rfl) ⟨(litB c3), rfl, rfl, trivial⟩
  · obtain ⟨r5, hr5, h⟩ := bnS h
    rcases itS h with ⟨c6, h⟩ | ⟨c7, h⟩
    · have h := Option.some.inj h
      subst h
      exact go_ret hΘ hm hP hn (hs := [⟨0, .new 1001, none⟩, ⟨1, .new 1002, none⟩, ⟨8, .no, some (B false)⟩, ⟨11, .callV [] (B r5), none⟩, ⟨13, .no, some (B true)⟩]) (rh := []) (ph := .raw) (ps := [(B (p1.Thread == p2.Thread)) = (B false), Meets Try.prog 95 [(AV.agg ((o81 p1))), (AV.agg ((o81 p2)))] (B r5), litA (B r5) = true, (B r5) = (B true), (B true) = (B true), litA (B true) = true]) (by kernel_rfl) ⟨(litB c4), (impl_binds_m hr5), rfl, (litB c6), rfl, rfl, trivial⟩
    · obtain ⟨r8, hr8, h⟩ := bnS h
      rcases itS h with ⟨c9, h⟩ | ⟨c10, h⟩
      · have h := Option.some.inj h
        subst h
        exact go_ret hΘ hm hP hn (hs := [⟨0, .new 1001, none⟩, ⟨1, .new 1002, none⟩, ⟨8, .no, some (B false)⟩, ⟨11, .callV [] (B r5), none⟩, ⟨13, .no, some (B false)⟩, ⟨16, .callV [] (B r8), none⟩, ⟨18, .no, some (B true)⟩]) (rh := []) (ph := .raw) (ps := [(B (p1.Thread == p2.Thread)) = (B false), Meets Try.prog 95 [(AV.agg ((o81 p1))), (AV.agg ((o81 p2)))] (B r5), litA (B r5) = true, (B r5) = (B false), Meets Try.prog 95 [(AV.agg ((o81 p2))), (AV.agg ((o81 p1)))] (B r8), litA (B r8) = true, (B r8) = (B true), (B true) = (B true), litA (B true) = true]) (by kernel_rfl) ⟨(litB c4), (impl_binds_m hr5), rfl, (litB c7), (impl_binds_m hr8), rfl, (litB c9), rfl, rfl, trivial⟩
      · obtain ⟨r11, hr11, h⟩ := bnS h
        rcases itS h with ⟨c12, h⟩ | ⟨c15, h⟩
        · obtain ⟨r13, hr13, h⟩ := bnS h
          obtain ⟨r14, hr14, h⟩ := bnS h
          have h := Option.some.inj h
          subst h
          exact go_ret hΘ hm hP hn (hs := [⟨0, .new 1001, none⟩, ⟨1, .new 1002, none⟩, ⟨8, .no, some (B false)⟩, ⟨11, .callV [] (B r5), none⟩, ⟨13, .no, some (B false)⟩, ⟨16, .callV [] (B r8), none⟩, ⟨18, .no, some (B false)⟩, ⟨20, .callV [] (I r11), none⟩, ⟨22, .no, some (B true)⟩, ⟨24, .callV [] (I r13), none⟩, ⟨26, .callV [] (I r14), none⟩]) (rh := []) (ph := .raw) (ps := [(B (p1.Thread == p2.Thread)) = (B false), Meets Try.prog 95 [(AV.agg ((o81 p1))), (AV.agg ((o81 p2)))] (B r5), litA (B r5) = true, (B r5) = (B false), Meets Try.prog 95 [(AV.agg ((o81 p2))), (AV.agg ((o81 p1)))] (B r8), litA (B r8) = true, (B r8) = (B false), Meets Try.prog 96 [(AV.agg ((o81 p1)))] (I r11), litA (I r11) = true, (B (decide (r11 ≥ 0))) = (B true), Meets Try.prog 96 [(AV.agg ((o81 p1)))] (I r13), litA (I r13) = true, Meets Try.prog 96 [(AV.agg ((o81 p2)))] (I r14), litA (I r14) = true, (B (r13 == r14)) = (B (r13 == r14)), litA (B (r13 == r14)) = true]) (by kernel_rfl) ⟨(litB c4), (impl_binds_m hr5), rfl, (litB c7), (impl_binds_m hr8), rfl, (litB c10), (impl_Event_lockOf_m hr11), rfl, (litB c12), (impl_Event_lockOf_m hr13), rfl, (impl_Event_lockOf_m hr14), rfl, rfl, rfl, trivial⟩
        · have h := Option.some.inj h
          subst h
          exact go_ret hΘ hm hP hn (hs := [⟨0, .new 1001, none⟩, ⟨1, .new 1002, none⟩, ⟨8, .no, some (B false)⟩, ⟨11, .callV [] (B r5), none⟩, ⟨13, .no, some (B false)⟩, ⟨16, .callV [] (B r8), none⟩, ⟨18, .no, some (B false)⟩, ⟨20, .callV [] (I r11), none⟩, ⟨22, .no, some (B false)⟩]) (rh := []) (ph := .raw) (ps := [(B (p1.Thread == p2.Thread)) = (B false), Meets Try.prog 95 [(AV.agg ((o81 p1))), (AV.agg ((o81 p2)))] (B r5), litA (B r5) = true, (B r5) = (B false), Meets Try.prog 95 [(AV.agg ((o81 p2))), (AV.agg ((o81 p1)))] (B r8), litA (B r8) = true, (B r8) = (B false), Meets Try.prog 96 [(AV.agg ((o81 p1)))] (I r11), litA (I r11) = true, (B (decide (r11 ≥ 0))) = (B false), (B false) = (B false), litA (B false) = true]) (by kernel_rfl) ⟨(litB c4), (impl_binds_m hr5), rfl, (litB c7), (impl_binds_m hr8), rfl, (litB c10), (impl_Event_lockOf_m hr11), rfl, (litB c15), rfl, rfl, trivial⟩
noncomputable def body54 : Code := match Try.f54.body with | some c => c | none => .skip
noncomputable def isPlace_Event (p1 : (List GEvent)) (p2 : Int) : Option Bool :=
  Option.bind (impl_in p2 0 (w64 ((p1.length : Int) - 1))) fun r3 =>
  some r3
theorem isPlace_Event_m {p1 : (List GEvent)} {p2 : Int} {r : Bool} (h : isPlace_Event p1 p2 = some r) : Meets Try.prog 54 [(AV.ro 5 (p1.map o81)), (I p2)] (B r) := by
  refine meets_ofC Θ_ok Try.func54 rfl (c := body54) (by kernel_rfl) (Nat.le_of_ble_eq_true rfl) ?_
  intro E hP hn hx
  replace hn : E.n = 10 := hn
  have hm : E.P.follows .mixedOrders = true := by rw [hP]; exact mixed
  have hΘ : TOK E.P Θ := by rw [hP]; exact Θ_ok
  unfold isPlace_Event at h
  show WAt E body54 (FQ (RetE Θ Try.f54.results.toList [] [] (B r) E)) [] ⟨[(0, (AV.ro 5 (p1.map o81))), (1, (I p2))], [], [JJ]⟩
  obtain ⟨r3, hr3, h⟩ := bnS h
  have h := Option.some.inj h
  subst h
  exact go_ret hΘ hm hP hn (hs := [⟨3, .no, some (I (p1.length : Int))⟩, ⟨5, .callV [] (B r3), none⟩]) (rh := []) (ph := .raw) (ps := [AV.lit (.int .i64 (((p1.map o81).length : Nat) : Int)) = (I (p1.length : Int)), Meets Try.prog 66 [(I p2), (I 0), (I (w64 ((p1.length : Int) - 1)))] (B r3), litA (B r3) = true, (B r3) = (B r3), litA (B r3) = true]) (by kernel_rfl) ⟨(lenM o81), (impl_in_m hr3), rfl, rfl, rfl, trivial⟩
noncomputable def body29 : Code := match Try.f29.body with | some c => c | none => .skip
noncomputable def impl_CutAround_l2 (K0 : (List Bool) → (List Int) → Int → Option ((List Int) × Bool)) (p1 : (List GEvent)) (v14 : Int) : Nat → (List Bool) → (List Int) → Int → Option ((List Int) × Bool)
  | 0, _, _, _ => none
  | n + 1, a21, a22, v23 =>
  if (decide (v23 < v14)) = true then
    Option.bind (rd a21 v23) fun x25 =>
    if x25 = true then
      impl_CutAround_l2 K0 p1 v14 n (a21.set (Int.toNat v23) true) a22 (w64 (v23 + 1))
    else
      Option.bind (rd p1 v23) fun x28 =>
      Option.bind (rd p1 v14) fun x29 =>
      Option.bind (impl_hang x28 x29) fun r30 =>
      impl_CutAround_l2 K0 p1 v14 n (a21.set (Int.toNat v23) r30) a22 (w64 (v23 + 1))
  else
    K0 a21 a22 (w64 (v14 - 1))
theorem impl_CutAround_l2_m {E : Env} (hP : E.P = Try.prog) (hn : E.n = 70) (hx : ∀ p, p ∈ E.fx → p.1 ∈ ([] : List Nat)) (p1 : (List GEvent)) (v14 : Int) {K0 : (List Bool) → (List Int) → Int → Option ((List Int) × Bool)} (hK0 : ∀ (a12 : (List Bool)) (a13 : (List Int)) (v14 : Int) (r : ((List Int) × Bool)), K0 a12 a13 v14 = some r → WAt E body29 (FQ (RetE Θ Try.f29.results.toList [] [] (AV.tup [(AV.own 3 1 (r.1.map o3)), (B r.2)]) E)) [true, true, true, true, true, false, true, false] ⟨[(0, (AV.ro 5 (p1.map o81))), (6, (AV.sl 1 0 (List.length (a12.map o4)))), (7, (AV.sl 2 0 (List.length (a13.map o3)))), (8, (I v14))], [(1, some ⟨4, 1, (a12.map o4)⟩), (2, some ⟨3, 1, (a13.map o3)⟩)], [1, 2, JJ]⟩) : ∀ (n : Nat) (a21 : (List Bool)) (a22 : (List Int)) (v23 : Int) (r : ((List Int) × Bool)), impl_CutAround_l2 K0 p1 v14 n a21 a22 v23 = some r → WAt E body29 (FQ (RetE Θ Try.f29.results.toList [] [] (AV.tup [(AV.own 3 1 (r.1.map o3)), (B r.2)]) E)) [true, true, true, true, true, false, true, false, false, true, false, false, true, true, true, false] ⟨[(0, (AV.ro 5 (p1.map o81))), (6, (AV.sl 1 0 (List.length (a21.map o4)))), (7, (AV.sl 2 0 (List.length (a22.map o3)))), (8, (I v14)), (46, (I v14)), (47, (I v23))], [(1, some ⟨4, 1, (a21.map o4)⟩), (2, some ⟨3, 1, (a22.map o3)⟩)], [1, 2, JJ]⟩ := by
  have hm : E.P.follows .mixedOrders = true := by rw [hP]; exact mixed
  have hΘ : TOK E.P Θ := by rw [hP]; exact Θ_ok
  intro n
  induction n with
  | zero => intro a21 a22 v23 r h; simp only [impl_CutAround_l2] at h; cases h
  | succ n ih =>
    intro a21 a22 v23 r h
    simp only [impl_CutAround_l2] at h
    rcases itS h with ⟨c24, h⟩ | ⟨c31, h⟩
    · obtain ⟨x25, hx25, h⟩ := bnS h
      rcases itS h with ⟨c26, h⟩ | ⟨c27, h⟩
      · exact go_to hΘ hm hx hP hn (hs := [⟨1, .br true, none⟩, ⟨9, .row [(B x25)], none⟩, ⟨10, .no, some (B true)⟩, ⟨22, .sto [(B x25)] ((a21.set (Int.toNat v23) true).map o4), none⟩, ⟨25, .slen 6 (List.length ((a21.set (Int.toNat v23) true).map o4)), none⟩]) (π := [(1, 1), (2, 2)]) (ts := [0, 6, 7, 8, 46, 47]) (kp := []) (ps := [(decide (v23 < v14)) = true, (0 : Int) ≤ v23, v23 < (((List.length (a21.map o4)) : Nat) : Int), (a21.map o4)[(Int.toNat v23)]? = some [(B x25)], (B x25) = (B true), (0 : Int) ≤ v23, v23 < (((List.length (a21.map o4)) : Nat) : Int), (a21.map o4)[(Int.toNat v23)]? = some [(B x25)], (a21.map o4).set (Int.toNat v23) (wr [(B x25)] 0 [(B true)]) = ((a21.set (Int.toNat v23) true).map o4), [(B true)].length = 1, 0 + [(B true)].length ≤ [(B x25)].length, (List.length (a21.map o4)) = (List.length ((a21.set (Int.toNat v23) true).map o4)), treeLL ((a21.set (Int.toNat v23) true).map o4) = true, treeLL (a22.map o3) = true]) (by kernel_rfl) ⟨c24, (rd0 hx25), (rdL o4 hx25), (rdM o4 hx25), (litB c26), (rd0 hx25), (rdL o4 hx25), (rdM o4 hx25), (setM o4), rfl, (Nat.le_of_ble_eq_true rfl), (by first | exact lnSet _ | exact lnSet2 _ | simp only [List.length_map, List.length_set, List.length_cons, List.length_nil]), (treeM t4), (treeM t3), trivial⟩ (ih (a21.set (Int.toNat v23) true) a22 (w64 (v23 + 1)) _ h)
      · obtain ⟨x28, hx28, h⟩ := bnS h
        obtain ⟨x29, hx29, h⟩ := bnS h
        obtain ⟨r30, hr30, h⟩ := bnS h
        exact go_to hΘ hm hx hP hn (hs := [⟨1, .br true, none⟩, ⟨9, .row [(B x25)], none⟩, ⟨10, .no, some (B false)⟩, ⟨13, .row (o81 x28), none⟩, ⟨17, .row (o81 x29), none⟩, ⟨19, .callV [] (B r30), none⟩, ⟨22, .sto [(B x25)] ((a21.set (Int.toNat v23) r30).map o4), none⟩, ⟨25, .slen 6 (List.length ((a21.set (Int.toNat v23) r30).map o4)), none⟩]) (π := [(1, 1), (2, 2)]) (ts := [0, 6, 7, 8, 46, 47]) (kp := []) (ps := [(decide (v23 < v14)) = true, (0 : Int) ≤ v23, v23 < (((List.length (a21.map o4)) : Nat) : Int), (a21.map o4)[(Int.toNat v23)]? = some [(B x25)], (B x25) = (B false), (0 : Int) ≤ v23, (p1.map o81)[(Int.toNat v23)]? = some (o81 x28), (0 : Int) ≤ v14, (p1.map o81)[(Int.toNat v14)]? = some (o81 x29), Meets Try.prog 60 [(AV.agg ((o81 x28))), (AV.agg ((o81 x29)))] (B r30), litA (B r30) = true, (0 : Int) ≤ v23, v23 < (((List.length (a21.map o4)) : Nat) : Int), (a21.map o4)[(Int.toNat v23)]? = some [(B x25)], (a21.map o4).set (Int.toNat v23) (wr [(B x25)] 0 [(B r30)]) = ((a21.set (Int.toNat v23) r30).map o4), [(B r30)].length = 1, 0 + [(B r30)].length ≤ [(B x25)].length, (List.length (a21.map o4)) = (List.length ((a21.set (Int.toNat v23) r30).map o4)), treeLL ((a21.set (Int.toNat v23) r30).map o4) = true, treeLL (a22.map o3) = true]) (by kernel_rfl) ⟨c24, (rd0 hx25), (rdL o4 hx25), (rdM o4 hx25), (litB c27), (rd0 hx28), (rdM o81 hx28), (rd0 hx29), (rdM o81 hx29), (impl_hang_m hr30), rfl, (rd0 hx25), (rdL o4 hx25), (rdM o4 hx25), (setM o4), rfl, (Nat.le_of_ble_eq_true rfl), (by first | exact lnSet _ | exact lnSet2 _ | simp only [List.length_map, List.length_set, List.length_cons, List.length_nil]), (treeM t4), (treeM t3), trivial⟩ (ih (a21.set (Int.toNat v23) r30) a22 (w64 (v23 + 1)) _ h)
    · exact go_to hΘ hm hx hP hn (hs := [⟨1, .br false, none⟩]) (π := [(1, 1), (2, 2)]) (ts := [0, 6, 7, 8]) (kp := []) (ps := [(decide (v23 < v14)) = false, treeLL (a21.map o4) = true, treeLL (a22.map o3) = true]) (by kernel_rfl) ⟨c31, (treeM t4), (treeM t3), trivial⟩ (hK0 a21 a22 (w64 (v14 - 1)) _ h)
noncomputable def impl_CutAround_l1  (p1 : (List GEvent)) : Nat → (List Bool) → (List Int) → Int → Option ((List Int) × Bool)
  | 0, _, _, _ => none
  | n + 1, a12, a13, v14 =>
  if (decide (v14 ≥ 0)) = true then
    Option.bind (rd a12 v14) fun x16 =>
    if (!x16) = true then
      impl_CutAround_l1 p1 n a12 a13 (w64 (v14 - 1))
    else
      Option.bind (rd p1 v14) fun x19 =>
      Option.bind (rd a13 x19.Thread) fun x20 =>
      impl_CutAround_l2 (impl_CutAround_l1 p1 n) p1 v14 FU a12 (a13.set (Int.toNat x19.Thread) (w64 (x20 + 1))) 0
  else
    some (a13, true)
theorem impl_CutAround_l1_m {E : Env} (hP : E.P = Try.prog) (hn : E.n = 70) (hx : ∀ p, p ∈ E.fx → p.1 ∈ ([] : List Nat)) (p1 : (List GEvent))  : ∀ (n : Nat) (a12 : (List Bool)) (a13 : (List Int)) (v14 : Int) (r : ((List Int) × Bool)), impl_CutAround_l1 p1 n a12 a13 v14 = some r → WAt E body29 (FQ (RetE Θ Try.f29.results.toList [] [] (AV.tup [(AV.own 3 1 (r.1.map o3)), (B r.2)]) E)) [true, true, true, true, true, false, true, false] ⟨[(0, (AV.ro 5 (p1.map o81))), (6, (AV.sl 1 0 (List.length (a12.map o4)))), (7, (AV.sl 2 0 (List.length (a13.map o3)))), (8, (I v14))], [(1, some ⟨4, 1, (a12.map o4)⟩), (2, some ⟨3, 1, (a13.map o3)⟩)], [1, 2, JJ]⟩ := by
  have hm : E.P.follows .mixedOrders = true := by rw [hP]; exact mixed
  have hΘ : TOK E.P Θ := by rw [hP]; exact Θ_ok
  intro n
  induction n with
  | zero => intro a12 a13 v14 r h; simp only [impl_CutAround_l1] at h; cases h
  | succ n ih =>
    intro a12 a13 v14 r h
    simp only [impl_CutAround_l1] at h
    rcases itS h with ⟨c15, h⟩ | ⟨c32, h⟩
    · obtain ⟨x16, hx16, h⟩ := bnS h
      rcases itS h with ⟨c17, h⟩ | ⟨c18, h⟩
      · exact go_to hΘ hm hx hP hn (hs := [⟨2, .br true, none⟩, ⟨6, .row [(B x16)], none⟩, ⟨8, .br true, none⟩]) (π := [(1, 1), (2, 2)]) (ts := [0, 6, 7, 8]) (kp := []) (ps := [(decide (v14 ≥ 0)) = true, (0 : Int) ≤ v14, v14 < (((List.length (a12.map o4)) : Nat) : Int), (a12.map o4)[(Int.toNat v14)]? = some [(B x16)], (!x16) = true, treeLL (a12.map o4) = true, treeLL (a13.map o3) = true]) (by kernel_rfl) ⟨c15, (rd0 hx16), (rdL o4 hx16), (rdM o4 hx16), c17, (treeM t4), (treeM t3), trivial⟩ (ih a12 a13 (w64 (v14 - 1)) _ h)
      · obtain ⟨x19, hx19, h⟩ := bnS h
        obtain ⟨x20, hx20, h⟩ := bnS h
        exact go_to hΘ hm hx hP hn (hs := [⟨2, .br true, none⟩, ⟨6, .row [(B x16)], none⟩, ⟨8, .br false, none⟩, ⟨12, .row (o81 x19), none⟩, ⟨16, .row [(I x20)], none⟩, ⟨19, .sto [(I x20)] ((a13.set (Int.toNat x19.Thread) (w64 (x20 + 1))).map o3), none⟩, ⟨22, .slen 7 (List.length ((a13.set (Int.toNat x19.Thread) (w64 (x20 + 1))).map o3)), none⟩]) (π := [(1, 1), (2, 2)]) (ts := [0, 6, 7, 8, 46, 47]) (kp := []) (ps := [(decide (v14 ≥ 0)) = true, (0 : Int) ≤ v14, v14 < (((List.length (a12.map o4)) : Nat) : Int), (a12.map o4)[(Int.toNat v14)]? = some [(B x16)], (!x16) = false, (0 : Int) ≤ v14, (p1.map o81)[(Int.toNat v14)]? = some (o81 x19), (0 : Int) ≤ x19.Thread, x19.Thread < (((List.length (a13.map o3)) : Nat) : Int), (a13.map o3)[(Int.toNat x19.Thread)]? = some [(I x20)], (0 : Int) ≤ x19.Thread, x19.Thread < (((List.length (a13.map o3)) : Nat) : Int), (a13.map o3)[(Int.toNat x19.Thread)]? = some [(I x20)], (a13.map o3).set (Int.toNat x19.Thread) (wr [(I x20)] 0 [(I (w64 (x20 + 1)))]) = ((a13.set (Int.toNat x19.Thread) (w64 (x20 + 1))).map o3), [(I (w64 (x20 + 1)))].length = 1, 0 + [(I (w64 (x20 + 1)))].length ≤ [(I x20)].length, (List.length (a13.map o3)) = (List.length ((a13.set (Int.toNat x19.Thread) (w64 (x20 + 1))).map o3)), treeLL (a12.map o4) = true, treeLL ((a13.set (Int.toNat x19.Thread) (w64 (x20 + 1))).map o3) = true]) (by kernel_rfl) ⟨c15, (rd0 hx16), (rdL o4 hx16), (rdM o4 hx16), c18, (rd0 hx19), (rdM o81 hx19), (rd0 hx20), (rdL o3 hx20), (rdM o3 hx20), (rd0 hx20), (rdL o3 hx20), (rdM o3 hx20), (setM o3), rfl, (Nat.le_of_ble_eq_true rfl), (by first | exact lnSet _ | exact lnSet2 _ | simp only [List.length_map, List.length_set, List.length_cons, List.length_nil]), (treeM t4), (treeM t3), trivial⟩ (impl_CutAround_l2_m hP hn hx p1 v14 ih FU a12 (a13.set (Int.toNat x19.Thread) (w64 (x20 + 1))) 0 _ h)
    · have h := Option.some.inj h
      subst h
      exact go_ret hΘ hm hP hn (hs := [⟨2, .br false, none⟩]) (rh := []) (ph := .agg [.own, .raw]) (ps := [(decide (v14 ≥ 0)) = false, treeLL ((a13.map o3).take (List.length (a13.map o3))) = true, (a13.map o3).take (List.length (a13.map o3)) = (a13.map o3), noRoLL (a13.map o3) = true, (B true) = (B true), litA (B true) = true]) (by kernel_rfl) ⟨c32, (treeT t3), takeM, (noRoM n3), rfl, rfl, trivial⟩
noncomputable def impl_CutAround_j0  (p1 : (List GEvent)) (p2 : Int)  : Option ((List Int) × Bool) :=
  Option.bind (mk false (p1.length : Int)) fun l9 =>
  Option.bind (rd l9 p2) fun x10 =>
  Option.bind (mk 0 5) fun l11 =>
  impl_CutAround_l1 p1 FU (l9.set (Int.toNat p2) true) l11 p2
theorem impl_CutAround_j0_m {E : Env} (hP : E.P = Try.prog) (hn : E.n = 70) (hx : ∀ p, p ∈ E.fx → p.1 ∈ ([] : List Nat)) (p1 : (List GEvent)) (p2 : Int)   (r : ((List Int) × Bool)) (h : impl_CutAround_j0 p1 p2  = some r) : WAt E body29 (FQ (RetE Θ Try.f29.results.toList [] [] (AV.tup [(AV.own 3 1 (r.1.map o3)), (B r.2)]) E)) [true, false, true, true] ⟨[(0, (AV.ro 5 (p1.map o81))), (1, (I p2))], [], [JJ]⟩ := by
  have hm : E.P.follows .mixedOrders = true := by rw [hP]; exact mixed
  have hΘ : TOK E.P Θ := by rw [hP]; exact Θ_ok
  unfold impl_CutAround_j0 at h
  obtain ⟨l9, hl9, h⟩ := bnS h
  obtain ⟨x10, hx10, h⟩ := bnS h
  obtain ⟨l11, hl11, h⟩ := bnS h
  exact go_to hΘ hm hx hP hn (hs := [⟨1, .no, some (I (p1.length : Int))⟩, ⟨2, .nw 1001 (l9.map o4), some (AV.sl 1001 0 (List.length (l9.map o4)))⟩, ⟨7, .sto [(B x10)] ((l9.set (Int.toNat p2) true).map o4), none⟩, ⟨8, .nw 1002 (l11.map o3), some (AV.sl 1002 0 (List.length (l11.map o3)))⟩, ⟨12, .slen 6 (List.length ((l9.set (Int.toNat p2) true).map o4)), none⟩]) (π := [(1001, 1), (1002, 2)]) (ts := [0, 6, 7, 8]) (kp := []) (ps := [AV.lit (.int .i64 (((p1.map o81).length : Nat) : Int)) = (I (p1.length : Int)), List.replicate (Int.toNat (p1.length : Int)) [.lit (.bool false)] = (l9.map o4), AV.sl 1001 0 (Int.toNat (p1.length : Int)) = (AV.sl 1001 0 (List.length (l9.map o4))), (p1.length : Int) = (p1.length : Int), (0 : Int) ≤ (p1.length : Int), (p1.length : Int) * ((1 : Nat) : Int) ≤ 140737488355328, (p1.length : Int) ≤ 140737488355328, (0 : Int) ≤ p2, p2 < (((List.length (l9.map o4)) : Nat) : Int), (l9.map o4)[(Int.toNat p2)]? = some [(B x10)], (l9.map o4).set (Int.toNat p2) (wr [(B x10)] 0 [(B true)]) = ((l9.set (Int.toNat p2) true).map o4), [(B true)].length = 1, 0 + [(B true)].length ≤ [(B x10)].length, List.replicate (Int.toNat 5) [.lit (.int .i64 0)] = (l11.map o3), AV.sl 1002 0 (Int.toNat 5) = (AV.sl 1002 0 (List.length (l11.map o3))), (5 : Int) = (5 : Int), (0 : Int) ≤ (5 : Int), (5 : Int) * ((8 : Nat) : Int) ≤ 140737488355328, (5 : Int) ≤ 140737488355328, (List.length (l9.map o4)) = (List.length ((l9.set (Int.toNat p2) true).map o4)), treeLL ((l9.set (Int.toNat p2) true).map o4) = true, treeLL (l11.map o3) = true]) (by kernel_rfl) ⟨(lenM o81), (mkM o4 hl9), (mkS o4 hl9), rfl, (mk0 hl9), (mkB hl9 (by decide)), (mkC hl9), (rd0 hx10), (rdL o4 hx10), (rdM o4 hx10), (setM o4), rfl, (Nat.le_of_ble_eq_true rfl), (mkM o3 hl11), (mkS o3 hl11), rfl, (mk0 hl11), (mkB hl11 (by decide)), (mkC hl11), (by first | exact lnSet _ | exact lnSet2 _ | simp only [List.length_map, List.length_set, List.length_cons, List.length_nil]), (treeM t4), (treeM t3), trivial⟩ (impl_CutAround_l1_m hP hn hx p1 FU (l9.set (Int.toNat p2) true) l11 p2 _ h)
noncomputable def impl_CutAround (p1 : (List GEvent)) (p2 : Int) : Option ((List Int) × Bool) :=
  Option.bind (impl_GoodTrace p1) fun r3 =>
  if (!r3) = true then
    some ([], false)
  else
    Option.bind (isPlace_Event p1 p2) fun r6 =>
    if (!r6) = true then
      some ([], false)
    else
      impl_CutAround_j0 p1 p2
theorem impl_CutAround_m {p1 : (List GEvent)} {p2 : Int} {r : ((List Int) × Bool)} (h : impl_CutAround p1 p2 = some r) : Meets Try.prog 29 [(AV.ro 5 (p1.map o81)), (I p2)] (AV.tup [(AV.own 3 1 (r.1.map o3)), (B r.2)]) := by
  refine meets_ofC Θ_ok Try.func29 rfl (c := body29) (by kernel_rfl) (Nat.le_of_ble_eq_true rfl) ?_
  intro E hP hn hx
  replace hn : E.n = 70 := hn
  have hm : E.P.follows .mixedOrders = true := by rw [hP]; exact mixed
  have hΘ : TOK E.P Θ := by rw [hP]; exact Θ_ok
  unfold impl_CutAround at h
  show WAt E body29 (FQ (RetE Θ Try.f29.results.toList [] [] (AV.tup [(AV.own 3 1 (r.1.map o3)), (B r.2)]) E)) [] ⟨[(0, (AV.ro 5 (p1.map o81))), (1, (I p2))], [], [JJ]⟩
  obtain ⟨r3, hr3, h⟩ := bnS h
  rcases itS h with ⟨c4, h⟩ | ⟨c5, h⟩
  · have h := Option.some.inj h
    subst h
    exact go_ret hΘ hm hP hn (hs := [⟨3, .callV [] (B r3), none⟩, ⟨5, .no, some (B true)⟩]) (rh := []) (ph := .agg [.own, .raw]) (ps := [Meets Try.prog 53 [(AV.ro 5 (p1.map o81))] (B r3), litA (B r3) = true, (B (!r3)) = (B true), (B false) = (B false), litA (B false) = true]) (by kernel_rfl) ⟨(impl_GoodTrace_m hr3), rfl, (litB c4), rfl, rfl, trivial⟩
  · obtain ⟨r6, hr6, h⟩ := bnS h
    rcases itS h with ⟨c7, h⟩ | ⟨c8, h⟩
    · have h := Option.some.inj h
      subst h
      exact go_ret hΘ hm hP hn (hs := [⟨3, .callV [] (B r3), none⟩, ⟨5, .no, some (B false)⟩, ⟨8, .callV [] (B r6), none⟩, ⟨11, .br true, none⟩]) (rh := []) (ph := .agg [.own, .raw]) (ps := [Meets Try.prog 53 [(AV.ro 5 (p1.map o81))] (B r3), litA (B r3) = true, (B (!r3)) = (B false), Meets Try.prog 54 [(AV.ro 5 (p1.map o81)), (I p2)] (B r6), litA (B r6) = true, (!r6) = true, (B false) = (B false), litA (B false) = true]) (by kernel_rfl) ⟨(impl_GoodTrace_m hr3), rfl, (litB c5), (isPlace_Event_m hr6), rfl, c7, rfl, rfl, trivial⟩
    · exact go_to hΘ hm hx hP hn (hs := [⟨3, .callV [] (B r3), none⟩, ⟨5, .no, some (B false)⟩, ⟨8, .callV [] (B r6), none⟩, ⟨11, .br false, none⟩]) (π := []) (ts := [0, 1]) (kp := []) (ps := [Meets Try.prog 53 [(AV.ro 5 (p1.map o81))] (B r3), litA (B r3) = true, (B (!r3)) = (B false), Meets Try.prog 54 [(AV.ro 5 (p1.map o81)), (I p2)] (B r6), litA (B r6) = true, (!r6) = false]) (by kernel_rfl) ⟨(impl_GoodTrace_m hr3), rfl, (litB c5), (isPlace_Event_m hr6), rfl, c8, trivial⟩ (impl_CutAround_j0_m hP hn hx p1 p2  _ h)
noncomputable def body56 : Code := match Try.f56.body with | some c => c | none => .skip
noncomputable def laws_eqEvent (p1 : GEvent) (p2 : GEvent) : Option Bool :=
  if (p1.Thread != p2.Thread) = true then
    some false
  else
    if (p1.Kind != p2.Kind) = true then
      some false
    else
      if (p1.Obj != p2.Obj) = true then
        some false
      else
        if (p1.Lock != p2.Lock) = true then
          some false
        else
          if (p1.Pc != p2.Pc) = true then
            some false
          else
            some true
theorem laws_eqEvent_m {p1 : GEvent} {p2 : GEvent} {r : Bool} (h : laws_eqEvent p1 p2 = some r) : Meets Try.prog 56 [(AV.agg ((o81 p1))), (AV.agg ((o81 p2)))] (B r) := by
  refine meets_ofC Θ_ok Try.func56 rfl (c := body56) (by kernel_rfl) (Nat.le_of_ble_eq_true rfl) ?_
  intro E hP hn hx
  replace hn : E.n = 30 := hn
  have hm : E.P.follows .mixedOrders = true := by rw [hP]; exact mixed
  have hΘ : TOK E.P Θ := by rw [hP]; exact Θ_ok
  unfold laws_eqEvent at h
  show WAt E body56 (FQ (RetE Θ Try.f56.results.toList [] [] (B r) E)) [] ⟨[(0, (AV.agg ((o81 p1)))), (1, (AV.agg ((o81 p2))))], [], [JJ]⟩
  rcases itS h with ⟨c3, h⟩ | ⟨c4, h⟩
  · have h := Option.some.inj h
    subst h
    exact go_ret hΘ hm hP hn (hs := [⟨0, .new 1001, none⟩, ⟨1, .new 1002, none⟩, ⟨8, .br true, none⟩]) (rh := []) (ph := .raw) (ps := [(p1.Thread != p2.Thread) = true, (B false) = (B false), litA (B false) = true]) (by kernel_rfl) ⟨c3, rfl, rfl, trivial⟩
  · rcases itS h with ⟨c5, h⟩ | ⟨c6, h⟩
    · have h := Option.some.inj h
      subst h
      exact go_ret hΘ hm hP hn (hs := [⟨0, .new 1001, none⟩, ⟨1, .new 1002, none⟩, ⟨8, .br false, none⟩, ⟨14, .br true, none⟩]) (rh := []) (ph := .raw) (ps := [(p1.Thread != p2.Thread) = false, (p1.Kind != p2.Kind) = true, (B false) = (B false), litA (B false) = true]) (by kernel_rfl) ⟨c4, c5, rfl, rfl, trivial⟩
    · rcases itS h with ⟨c7, h⟩ | ⟨c8, h⟩
      · have h := Option.some.inj h
        subst h
        exact go_ret hΘ hm hP hn (hs := [⟨0, .new 1001, none⟩, ⟨1, .new 1002, none⟩, ⟨8, .br false, none⟩, ⟨14, .br false, none⟩, ⟨20, .br true, none⟩]) (rh := []) (ph := .raw) (ps := [(p1.Thread != p2.Thread) = false, (p1.Kind != p2.Kind) = false, (p1.Obj != p2.Obj) = true, (B false) = (B false), litA (B false) = true]) (by kernel_rfl) ⟨c4, c6, c7, rfl, rfl, trivial⟩
      · rcases itS h with ⟨c9, h⟩ | ⟨c10, h⟩
        · have h := Option.some.inj h
          subst h
          exact go_ret hΘ hm hP hn (hs := [⟨0, .new 1001, none⟩, ⟨1, .new 1002, none⟩, ⟨8, .br false, none⟩, ⟨14, .br false, none⟩, ⟨20, .br false, none⟩, ⟨26, .br true, none⟩]) (rh := []) (ph := .raw) (ps := [(p1.Thread != p2.Thread) = false, (p1.Kind != p2.Kind) = false, (p1.Obj != p2.Obj) = false, (p1.Lock != p2.Lock) = true, (B false) = (B false), litA (B false) = true]) (by kernel_rfl) ⟨c4, c6, c8, c9, rfl, rfl, trivial⟩
        · rcases itS h with ⟨c11, h⟩ | ⟨c12, h⟩
          · have h := Option.some.inj h
            subst h
            exact go_ret hΘ hm hP hn (hs := [⟨0, .new 1001, none⟩, ⟨1, .new 1002, none⟩, ⟨8, .br false, none⟩, ⟨14, .br false, none⟩, ⟨20, .br false, none⟩, ⟨26, .br false, none⟩, ⟨32, .br true, none⟩]) (rh := []) (ph := .raw) (ps := [(p1.Thread != p2.Thread) = false, (p1.Kind != p2.Kind) = false, (p1.Obj != p2.Obj) = false, (p1.Lock != p2.Lock) = false, (p1.Pc != p2.Pc) = true, (B false) = (B false), litA (B false) = true]) (by kernel_rfl) ⟨c4, c6, c8, c10, c11, rfl, rfl, trivial⟩
          · have h := Option.some.inj h
            subst h
            exact go_ret hΘ hm hP hn (hs := [⟨0, .new 1001, none⟩, ⟨1, .new 1002, none⟩, ⟨8, .br false, none⟩, ⟨14, .br false, none⟩, ⟨20, .br false, none⟩, ⟨26, .br false, none⟩, ⟨32, .br false, none⟩]) (rh := []) (ph := .raw) (ps := [(p1.Thread != p2.Thread) = false, (p1.Kind != p2.Kind) = false, (p1.Obj != p2.Obj) = false, (p1.Lock != p2.Lock) = false, (p1.Pc != p2.Pc) = false, (B true) = (B true), litA (B true) = true]) (by kernel_rfl) ⟨c4, c6, c8, c10, c12, rfl, rfl, trivial⟩
noncomputable def body21 : Code := match Try.f21.body with | some c => c | none => .skip
noncomputable def laws_eqEventS_l0  (p1 : (List GEvent)) (p2 : (List GEvent)) : Nat → Int → Option Bool
  | 0, _ => none
  | n + 1, v5 =>
  if (decide (v5 < (p1.length : Int))) = true then
    Option.bind (rd p1 v5) fun x7 =>
    Option.bind (rd p2 v5) fun x8 =>
    Option.bind (laws_eqEvent x7 x8) fun r9 =>
    if (!r9) = true then
      some false
    else
      laws_eqEventS_l0 p1 p2 n (w64 (v5 + 1))
  else
    some true
theorem laws_eqEventS_l0_m {E : Env} (hP : E.P = Try.prog) (hn : E.n = 27) (hx : ∀ p, p ∈ E.fx → p.1 ∈ ([] : List Nat)) (p1 : (List GEvent)) (p2 : (List GEvent))  : ∀ (n : Nat) (v5 : Int) (r : Bool), laws_eqEventS_l0 p1 p2 n v5 = some r → WAt E body21 (FQ (RetE Θ Try.f21.results.toList [] [] (B r) E)) [true, true, false, true, false] ⟨[(0, (AV.ro 5 (p1.map o81))), (1, (AV.ro 5 (p2.map o81))), (5, (I v5))], [], [JJ]⟩ := by
  have hm : E.P.follows .mixedOrders = true := by rw [hP]; exact mixed
  have hΘ : TOK E.P Θ := by rw [hP]; exact Θ_ok
  intro n
  induction n with
  | zero => intro v5 r h; simp only [laws_eqEventS_l0] at h; cases h
  | succ n ih =>
    intro v5 r h
    simp only [laws_eqEventS_l0] at h
    rcases itS h with ⟨c6, h⟩ | ⟨c12, h⟩
    · obtain ⟨x7, hx7, h⟩ := bnS h
      obtain ⟨x8, hx8, h⟩ := bnS h
      obtain ⟨r9, hr9, h⟩ := bnS h
      rcases itS h with ⟨c10, h⟩ | ⟨c11, h⟩
      · have h := Option.some.inj h
        subst h
        exact go_ret hΘ hm hP hn (hs := [⟨2, .no, some (I (p1.length : Int))⟩, ⟨4, .br true, none⟩, ⟨7, .row (o81 x7), none⟩, ⟨11, .row (o81 x8), none⟩, ⟨13, .callV [] (B r9), none⟩, ⟨15, .br true, none⟩]) (rh := []) (ph := .raw) (ps := [AV.lit (.int .i64 (((p1.map o81).length : Nat) : Int)) = (I (p1.length : Int)), (decide (v5 < (p1.length : Int))) = true, (0 : Int) ≤ v5, (p1.map o81)[(Int.toNat v5)]? = some (o81 x7), (0 : Int) ≤ v5, (p2.map o81)[(Int.toNat v5)]? = some (o81 x8), Meets Try.prog 56 [(AV.agg ((o81 x7))), (AV.agg ((o81 x8)))] (B r9), litA (B r9) = true, (!r9) = true, (B false) = (B false), litA (B false) = true]) (by kernel_rfl) ⟨(lenM o81), c6, (rd0 hx7), (rdM o81 hx7), (rd0 hx8), (rdM o81 hx8), (laws_eqEvent_m hr9), rfl, c10, rfl, rfl, trivial⟩
      · exact go_to hΘ hm hx hP hn (hs := [⟨2, .no, some (I (p1.length : Int))⟩, ⟨4, .br true, none⟩, ⟨7, .row (o81 x7), none⟩, ⟨11, .row (o81 x8), none⟩, ⟨13, .callV [] (B r9), none⟩, ⟨15, .br false, none⟩]) (π := []) (ts := [0, 1, 5]) (kp := []) (ps := [AV.lit (.int .i64 (((p1.map o81).length : Nat) : Int)) = (I (p1.length : Int)), (decide (v5 < (p1.length : Int))) = true, (0 : Int) ≤ v5, (p1.map o81)[(Int.toNat v5)]? = some (o81 x7), (0 : Int) ≤ v5, (p2.map o81)[(Int.toNat v5)]? = some (o81 x8), Meets Try.prog 56 [(AV.agg ((o81 x7))), (AV.agg ((o81 x8)))] (B r9), litA (B r9) = true, (!r9) = false]) (by kernel_rfl) ⟨(lenM o81), c6, (rd0 hx7), (rdM o81 hx7), (rd0 hx8), (rdM o81 hx8), (laws_eqEvent_m hr9), rfl, c11, trivial⟩ (ih (w64 (v5 + 1)) _ h)
    · have h := Option.some.inj h
      subst h
      exact go_ret hΘ hm hP hn (hs := [⟨2, .no, some (I (p1.length : Int))⟩, ⟨4, .br false, none⟩]) (rh := []) (ph := .raw) (ps := [AV.lit (.int .i64 (((p1.map o81).length : Nat) : Int)) = (I (p1.length : Int)), (decide (v5 < (p1.length : Int))) = false, (B true) = (B true), litA (B true) = true]) (by kernel_rfl) ⟨(lenM o81), c12, rfl, rfl, trivial⟩
noncomputable def laws_eqEventS (p1 : (List GEvent)) (p2 : (List GEvent)) : Option Bool :=
  if ((p1.length : Int) != (p2.length : Int)) = true then
    some false
  else
    laws_eqEventS_l0 p1 p2 FU 0
theorem laws_eqEventS_m {p1 : (List GEvent)} {p2 : (List GEvent)} {r : Bool} (h : laws_eqEventS p1 p2 = some r) : Meets Try.prog 21 [(AV.ro 5 (p1.map o81)), (AV.ro 5 (p2.map o81))] (B r) := by
  refine meets_ofC Θ_ok Try.func21 rfl (c := body21) (by kernel_rfl) (Nat.le_of_ble_eq_true rfl) ?_
  intro E hP hn hx
  replace hn : E.n = 27 := hn
  have hm : E.P.follows .mixedOrders = true := by rw [hP]; exact mixed
  have hΘ : TOK E.P Θ := by rw [hP]; exact Θ_ok
  unfold laws_eqEventS at h
  show WAt E body21 (FQ (RetE Θ Try.f21.results.toList [] [] (B r) E)) [] ⟨[(0, (AV.ro 5 (p1.map o81))), (1, (AV.ro 5 (p2.map o81)))], [], [JJ]⟩
  rcases itS h with ⟨c3, h⟩ | ⟨c4, h⟩
  · have h := Option.some.inj h
    subst h
    exact go_ret hΘ hm hP hn (hs := [⟨2, .no, some (I (p1.length : Int))⟩, ⟨4, .no, some (I (p2.length : Int))⟩, ⟨6, .br true, none⟩]) (rh := []) (ph := .raw) (ps := [AV.lit (.int .i64 (((p1.map o81).length : Nat) : Int)) = (I (p1.length : Int)), AV.lit (.int .i64 (((p2.map o81).length : Nat) : Int)) = (I (p2.length : Int)), ((p1.length : Int) != (p2.length : Int)) = true, (B false) = (B false), litA (B false) = true]) (by kernel_rfl) ⟨(lenM o81), (lenM o81), c3, rfl, rfl, trivial⟩
  · exact go_to hΘ hm hx hP hn (hs := [⟨2, .no, some (I (p1.length : Int))⟩, ⟨4, .no, some (I (p2.length : Int))⟩, ⟨6, .br false, none⟩]) (π := []) (ts := [0, 1, 5]) (kp := []) (ps := [AV.lit (.int .i64 (((p1.map o81).length : Nat) : Int)) = (I (p1.length : Int)), AV.lit (.int .i64 (((p2.map o81).length : Nat) : Int)) = (I (p2.length : Int)), ((p1.length : Int) != (p2.length : Int)) = false]) (by kernel_rfl) ⟨(lenM o81), (lenM o81), c4, trivial⟩ (laws_eqEventS_l0_m hP hn hx p1 p2 FU 0 _ h)
noncomputable def body20 : Code := match Try.f20.body with | some c => c | none => .skip
noncomputable def laws_eqIntS_l0  (p1 : (List Int)) (p2 : (List Int)) : Nat → Int → Option Bool
  | 0, _ => none
  | n + 1, v5 =>
  if (decide (v5 < (p1.length : Int))) = true then
    Option.bind (rd p1 v5) fun x7 =>
    Option.bind (rd p2 v5) fun x8 =>
    if (x7 != x8) = true then
      some false
    else
      laws_eqIntS_l0 p1 p2 n (w64 (v5 + 1))
  else
    some true
theorem laws_eqIntS_l0_m {E : Env} (hP : E.P = Try.prog) (hn : E.n = 26) (hx : ∀ p, p ∈ E.fx → p.1 ∈ ([] : List Nat)) (p1 : (List Int)) (p2 : (List Int))  : ∀ (n : Nat) (v5 : Int) (r : Bool), laws_eqIntS_l0 p1 p2 n v5 = some r → WAt E body20 (FQ (RetE Θ Try.f20.results.toList [] [] (B r) E)) [true, true, false, true, false] ⟨[(0, (AV.ro 1 (p1.map o3))), (1, (AV.ro 1 (p2.map o3))), (5, (I v5))], [], [JJ]⟩ := by
  have hm : E.P.follows .mixedOrders = true := by rw [hP]; exact mixed
  have hΘ : TOK E.P Θ := by rw [hP]; exact Θ_ok
  intro n
  induction n with
  | zero => intro v5 r h; simp only [laws_eqIntS_l0] at h; cases h
  | succ n ih =>
    intro v5 r h
    simp only [laws_eqIntS_l0] at h
    rcases itS h with ⟨c6, h⟩ | ⟨c11, h⟩
    · obtain ⟨x7, hx7, h⟩ := bnS h
      obtain ⟨x8, hx8, h⟩ := bnS h
      rcases itS h with ⟨c9, h⟩ | ⟨c10, h⟩
      · have h := Option.some.inj h
        subst h
        exact go_ret hΘ hm hP hn (hs := [⟨2, .no, some (I (p1.length : Int))⟩, ⟨4, .br true, none⟩, ⟨7, .row (o3 x7), none⟩, ⟨11, .row (o3 x8), none⟩, ⟨14, .br true, none⟩]) (rh := []) (ph := .raw) (ps := [AV.lit (.int .i64 (((p1.map o3).length : Nat) : Int)) = (I (p1.length : Int)), (decide (v5 < (p1.length : Int))) = true, (0 : Int) ≤ v5, (p1.map o3)[(Int.toNat v5)]? = some (o3 x7), (0 : Int) ≤ v5, (p2.map o3)[(Int.toNat v5)]? = some (o3 x8), (x7 != x8) = true, (B false) = (B false), litA (B false) = true]) (by kernel_rfl) ⟨(lenM o3), c6, (rd0 hx7), (rdM o3 hx7), (rd0 hx8), (rdM o3 hx8), c9, rfl, rfl, trivial⟩
      · exact go_to hΘ hm hx hP hn (hs := [⟨2, .no, some (I (p1.length : Int))⟩, ⟨4, .br true, none⟩, ⟨7, .row (o3 x7), none⟩, ⟨11, .row (o3 x8), none⟩, ⟨14, .br false, none⟩]) (π := []) (ts := [0, 1, 5]) (kp := []) (ps := [AV.lit (.int .i64 (((p1.map o3).length : Nat) : Int)) = (I (p1.length : Int)), (decide (v5 < (p1.length : Int))) = true, (0 : Int) ≤ v5, (p1.map o3)[(Int.toNat v5)]? = some (o3 x7), (0 : Int) ≤ v5, (p2.map o3)[(Int.toNat v5)]? = some (o3 x8), (x7 != x8) = false]) (by kernel_rfl) ⟨(lenM o3), c6, (rd0 hx7), (rdM o3 hx7), (rd0 hx8), (rdM o3 hx8), c10, trivial⟩ (ih (w64 (v5 + 1)) _ h)
    · have h := Option.some.inj h
      subst h
      exact go_ret hΘ hm hP hn (hs := [⟨2, .no, some (I (p1.length : Int))⟩, ⟨4, .br false, none⟩]) (rh := []) (ph := .raw) (ps := [AV.lit (.int .i64 (((p1.map o3).length : Nat) : Int)) = (I (p1.length : Int)), (decide (v5 < (p1.length : Int))) = false, (B true) = (B true), litA (B true) = true]) (by kernel_rfl) ⟨(lenM o3), c11, rfl, rfl, trivial⟩
noncomputable def laws_eqIntS (p1 : (List Int)) (p2 : (List Int)) : Option Bool :=
  if ((p1.length : Int) != (p2.length : Int)) = true then
    some false
  else
    laws_eqIntS_l0 p1 p2 FU 0
theorem laws_eqIntS_m {p1 : (List Int)} {p2 : (List Int)} {r : Bool} (h : laws_eqIntS p1 p2 = some r) : Meets Try.prog 20 [(AV.ro 1 (p1.map o3)), (AV.ro 1 (p2.map o3))] (B r) := by
  refine meets_ofC Θ_ok Try.func20 rfl (c := body20) (by kernel_rfl) (Nat.le_of_ble_eq_true rfl) ?_
  intro E hP hn hx
  replace hn : E.n = 26 := hn
  have hm : E.P.follows .mixedOrders = true := by rw [hP]; exact mixed
  have hΘ : TOK E.P Θ := by rw [hP]; exact Θ_ok
  unfold laws_eqIntS at h
  show WAt E body20 (FQ (RetE Θ Try.f20.results.toList [] [] (B r) E)) [] ⟨[(0, (AV.ro 1 (p1.map o3))), (1, (AV.ro 1 (p2.map o3)))], [], [JJ]⟩
  rcases itS h with ⟨c3, h⟩ | ⟨c4, h⟩
  · have h := Option.some.inj h
    subst h
    exact go_ret hΘ hm hP hn (hs := [⟨2, .no, some (I (p1.length : Int))⟩, ⟨4, .no, some (I (p2.length : Int))⟩, ⟨6, .br true, none⟩]) (rh := []) (ph := .raw) (ps := [AV.lit (.int .i64 (((p1.map o3).length : Nat) : Int)) = (I (p1.length : Int)), AV.lit (.int .i64 (((p2.map o3).length : Nat) : Int)) = (I (p2.length : Int)), ((p1.length : Int) != (p2.length : Int)) = true, (B false) = (B false), litA (B false) = true]) (by kernel_rfl) ⟨(lenM o3), (lenM o3), c3, rfl, rfl, trivial⟩
  · exact go_to hΘ hm hx hP hn (hs := [⟨2, .no, some (I (p1.length : Int))⟩, ⟨4, .no, some (I (p2.length : Int))⟩, ⟨6, .br false, none⟩]) (π := []) (ts := [0, 1, 5]) (kp := []) (ps := [AV.lit (.int .i64 (((p1.map o3).length : Nat) : Int)) = (I (p1.length : Int)), AV.lit (.int .i64 (((p2.map o3).length : Nat) : Int)) = (I (p2.length : Int)), ((p1.length : Int) != (p2.length : Int)) = false]) (by kernel_rfl) ⟨(lenM o3), (lenM o3), c4, trivial⟩ (laws_eqIntS_l0_m hP hn hx p1 p2 FU 0 _ h)
noncomputable def body24 : Code := match Try.f24.body with | some c => c | none => .skip
noncomputable def laws_heldIntS_l0  (p1 : (List Int)) : Nat → Int → Int → Option Int
  | 0, _, _ => none
  | n + 1, v3, v4 =>
  if (decide (v4 < (p1.length : Int))) = true then
    Option.bind (rd p1 v4) fun x6 =>
    if (x6 != v3) = true then
      some (-1)
    else
      laws_heldIntS_l0 p1 n (w64 (v3 + 1)) (w64 (v4 + 1))
  else
    some v3
theorem laws_heldIntS_l0_m {E : Env} (hP : E.P = Try.prog) (hn : E.n = 21) (hx : ∀ p, p ∈ E.fx → p.1 ∈ ([] : List Nat)) (p1 : (List Int))  : ∀ (n : Nat) (v3 : Int) (v4 : Int) (r : Int), laws_heldIntS_l0 p1 n v3 v4 = some r → WAt E body24 (FQ (RetE Θ Try.f24.results.toList [] [] (I r) E)) [true, false, true, false] ⟨[(0, (AV.ro 1 (p1.map o3))), (1, (I v3)), (5, (I v4))], [], [JJ]⟩ := by
  have hm : E.P.follows .mixedOrders = true := by rw [hP]; exact mixed
  have hΘ : TOK E.P Θ := by rw [hP]; exact Θ_ok
  intro n
  induction n with
  | zero => intro v3 v4 r h; simp only [laws_heldIntS_l0] at h; cases h
  | succ n ih =>
    intro v3 v4 r h
    simp only [laws_heldIntS_l0] at h
    rcases itS h with ⟨c5, h⟩ | ⟨c9, h⟩
    · obtain ⟨x6, hx6, h⟩ := bnS h
      rcases itS h with ⟨c7, h⟩ | ⟨c8, h⟩
      · have h := Option.some.inj h
        subst h
        exact go_ret hΘ hm hP hn (hs := [⟨2, .no, some (I (p1.length : Int))⟩, ⟨4, .br true, none⟩, ⟨7, .row (o3 x6), none⟩, ⟨11, .br true, none⟩]) (rh := []) (ph := .raw) (ps := [AV.lit (.int .i64 (((p1.map o3).length : Nat) : Int)) = (I (p1.length : Int)), (decide (v4 < (p1.length : Int))) = true, (0 : Int) ≤ v4, (p1.map o3)[(Int.toNat v4)]? = some (o3 x6), (x6 != v3) = true, (I (-1)) = (I (-1)), litA (I (-1)) = true]) (by kernel_rfl) ⟨(lenM o3), c5, (rd0 hx6), (rdM o3 hx6), c7, rfl, rfl, trivial⟩
      · exact go_to hΘ hm hx hP hn (hs := [⟨2, .no, some (I (p1.length : Int))⟩, ⟨4, .br true, none⟩, ⟨7, .row (o3 x6), none⟩, ⟨11, .br false, none⟩]) (π := []) (ts := [0, 1, 5]) (kp := []) (ps := [AV.lit (.int .i64 (((p1.map o3).length : Nat) : Int)) = (I (p1.length : Int)), (decide (v4 < (p1.length : Int))) = true, (0 : Int) ≤ v4, (p1.map o3)[(Int.toNat v4)]? = some (o3 x6), (x6 != v3) = false]) (by kernel_rfl) ⟨(lenM o3), c5, (rd0 hx6), (rdM o3 hx6), c8, trivial⟩ (ih (w64 (v3 + 1)) (w64 (v4 + 1)) _ h)
    · have h := Option.some.inj h
      subst h
      exact go_ret hΘ hm hP hn (hs := [⟨2, .no, some (I (p1.length : Int))⟩, ⟨4, .br false, none⟩]) (rh := []) (ph := .raw) (ps := [AV.lit (.int .i64 (((p1.map o3).length : Nat) : Int)) = (I (p1.length : Int)), (decide (v4 < (p1.length : Int))) = false, (I v3) = (I v3), litA (I v3) = true]) (by kernel_rfl) ⟨(lenM o3), c9, rfl, rfl, trivial⟩
noncomputable def laws_heldIntS (p1 : (List Int)) (p2 : Int) : Option Int :=
  laws_heldIntS_l0 p1 FU p2 0
theorem laws_heldIntS_m {p1 : (List Int)} {p2 : Int} {r : Int} (h : laws_heldIntS p1 p2 = some r) : Meets Try.prog 24 [(AV.ro 1 (p1.map o3)), (I p2)] (I r) := by
  refine meets_ofC Θ_ok Try.func24 rfl (c := body24) (by kernel_rfl) (Nat.le_of_ble_eq_true rfl) ?_
  intro E hP hn hx
  replace hn : E.n = 21 := hn
  have hm : E.P.follows .mixedOrders = true := by rw [hP]; exact mixed
  have hΘ : TOK E.P Θ := by rw [hP]; exact Θ_ok
  unfold laws_heldIntS at h
  show WAt E body24 (FQ (RetE Θ Try.f24.results.toList [] [] (I r) E)) [] ⟨[(0, (AV.ro 1 (p1.map o3))), (1, (I p2))], [], [JJ]⟩
  exact go_to hΘ hm hx hP hn (hs := []) (π := []) (ts := [0, 1, 5]) (kp := []) (ps := []) (by kernel_rfl) trivial (laws_heldIntS_l0_m hP hn hx p1 FU p2 0 _ h)
noncomputable def body22 : Code := match Try.f22.body with | some c => c | none => .skip
noncomputable def laws_markEventS_l0   : Nat → (List GEvent) → Int → Int → Option (Int × (List GEvent))
  | 0, _, _, _ => none
  | n + 1, a3, v4, v5 =>
  if (decide (v5 < (a3.length : Int))) = true then
    Option.bind (rd a3 v5) fun x7 =>
    laws_markEventS_l0 n (a3.set (Int.toNat v5) (GEvent.mk v4 (w64 (v4 + 1)) (w64 ((w64 (v4 + 1)) + 1)) (w64 ((w64 ((w64 (v4 + 1)) + 1)) + 1)) (w64 ((w64 ((w64 ((w64 (v4 + 1)) + 1)) + 1)) + 1)))) (w64 ((w64 ((w64 ((w64 ((w64 (v4 + 1)) + 1)) + 1)) + 1)) + 1)) (w64 (v5 + 1))
  else
    some (v4, a3)
theorem laws_markEventS_l0_m {E : Env} (hP : E.P = Try.prog) (hn : E.n = 48) (hx : ∀ p, p ∈ E.fx → p.1 ∈ ([0] : List Nat))   : ∀ (n : Nat) (a3 : (List GEvent)) (v4 : Int) (v5 : Int) (r : (Int × (List GEvent))), laws_markEventS_l0  n a3 v4 v5 = some r → WAt E body22 (FQ (RetE Θ Try.f22.results.toList [true] [⟨81, 5, (r.2.map o81)⟩] (I r.1) E)) [true, false, true, false] ⟨[(0, (AV.sl 0 0 (List.length (a3.map o81)))), (1, (I v4)), (5, (I v5))], [(0, some ⟨81, 5, (a3.map o81)⟩)], [0, JJ]⟩ := by
  have hm : E.P.follows .mixedOrders = true := by rw [hP]; exact mixed
  have hΘ : TOK E.P Θ := by rw [hP]; exact Θ_ok
  intro n
  induction n with
  | zero => intro a3 v4 v5 r h; simp only [laws_markEventS_l0] at h; cases h
  | succ n ih =>
    intro a3 v4 v5 r h
    simp only [laws_markEventS_l0] at h
    rcases itS h with ⟨c6, h⟩ | ⟨c8, h⟩
    · obtain ⟨x7, hx7, h⟩ := bnS h
      exact go_to hΘ hm hx hP hn (hs := [⟨2, .no, some (I (a3.length : Int))⟩, ⟨4, .br true, none⟩, ⟨10, .sto ((o81 x7)) ((a3.set (Int.toNat v5) (GEvent.mk v4 x7.Kind x7.Obj x7.Lock x7.Pc)).map o81), none⟩, ⟨14, .slen 0 (List.length ((a3.set (Int.toNat v5) (GEvent.mk v4 x7.Kind x7.Obj x7.Lock x7.Pc)).map o81)), none⟩, ⟨19, .sto [(I v4), (I x7.Kind), (I x7.Obj), (I x7.Lock), (I x7.Pc)] ((a3.set (Int.toNat v5) (GEvent.mk v4 (w64 (v4 + 1)) x7.Obj x7.Lock x7.Pc)).map o81), none⟩, ⟨23, .slen 0 (List.length ((a3.set (Int.toNat v5) (GEvent.mk v4 (w64 (v4 + 1)) x7.Obj x7.Lock x7.Pc)).map o81)), none⟩, ⟨28, .sto [(I v4), (I (w64 (v4 + 1))), (I x7.Obj), (I x7.Lock), (I x7.Pc)] ((a3.set (Int.toNat v5) (GEvent.mk v4 (w64 (v4 + 1)) (w64 ((w64 (v4 + 1)) + 1)) x7.Lock x7.Pc)).map o81), none⟩, ⟨32, .slen 0 (List.length ((a3.set (Int.toNat v5) (GEvent.mk v4 (w64 (v4 + 1)) (w64 ((w64 (v4 + 1)) + 1)) x7.Lock x7.Pc)).map o81)), none⟩, ⟨37, .sto [(I v4), (I (w64 (v4 + 1))), (I (w64 ((w64 (v4 + 1)) + 1))), (I x7.Lock), (I x7.Pc)] ((a3.set (Int.toNat v5) (GEvent.mk v4 (w64 (v4 + 1)) (w64 ((w64 (v4 + 1)) + 1)) (w64 ((w64 ((w64 (v4 + 1)) + 1)) + 1)) x7.Pc)).map o81), none⟩, ⟨41, .slen 0 (List.length ((a3.set (Int.toNat v5) (GEvent.mk v4 (w64 (v4 + 1)) (w64 ((w64 (v4 + 1)) + 1)) (w64 ((w64 ((w64 (v4 + 1)) + 1)) + 1)) x7.Pc)).map o81)), none⟩, ⟨46, .sto [(I v4), (I (w64 (v4 + 1))), (I (w64 ((w64 (v4 + 1)) + 1))), (I (w64 ((w64 ((w64 (v4 + 1)) + 1)) + 1))), (I x7.Pc)] ((a3.set (Int.toNat v5) (GEvent.mk v4 (w64 (v4 + 1)) (w64 ((w64 (v4 + 1)) + 1)) (w64 ((w64 ((w64 (v4 + 1)) + 1)) + 1)) (w64 ((w64 ((w64 ((w64 (v4 + 1)) + 1)) + 1)) + 1)))).map o81), none⟩, ⟨53, .slen 0 (List.length ((a3.set (Int.toNat v5) (GEvent.mk v4 (w64 (v4 + 1)) (w64 ((w64 (v4 + 1)) + 1)) (w64 ((w64 ((w64 (v4 + 1)) + 1)) + 1)) (w64 ((w64 ((w64 ((w64 (v4 + 1)) + 1)) + 1)) + 1)))).map o81)), none⟩]) (π := [(0, 0)]) (ts := [0, 1, 5]) (kp := []) (ps := [AV.lit (.int .i64 (((List.length (a3.map o81)) : Nat) : Int)) = (I (a3.length : Int)), (decide (v5 < (a3.length : Int))) = true, (0 : Int) ≤ v5, v5 < (((List.length (a3.map o81)) : Nat) : Int), (a3.map o81)[(Int.toNat v5)]? = some ((o81 x7)), (a3.map o81).set (Int.toNat v5) (wr ((o81 x7)) 0 [(I v4)]) = ((a3.set (Int.toNat v5) (GEvent.mk v4 x7.Kind x7.Obj x7.Lock x7.Pc)).map o81), [(I v4)].length = 1, 0 + [(I v4)].length ≤ ((o81 x7)).length, (List.length (a3.map o81)) = (List.length ((a3.set (Int.toNat v5) (GEvent.mk v4 x7.Kind x7.Obj x7.Lock x7.Pc)).map o81)), (0 : Int) ≤ v5, v5 < (((List.length ((a3.set (Int.toNat v5) (GEvent.mk v4 x7.Kind x7.Obj x7.Lock x7.Pc)).map o81)) : Nat) : Int), ((a3.set (Int.toNat v5) (GEvent.mk v4 x7.Kind x7.Obj x7.Lock x7.Pc)).map o81)[(Int.toNat v5)]? = some [(I v4), (I x7.Kind), (I x7.Obj), (I x7.Lock), (I x7.Pc)], ((a3.set (Int.toNat v5) (GEvent.mk v4 x7.Kind x7.Obj x7.Lock x7.Pc)).map o81).set (Int.toNat v5) (wr [(I v4), (I x7.Kind), (I x7.Obj), (I x7.Lock), (I x7.Pc)] 1 [(I (w64 (v4 + 1)))]) = ((a3.set (Int.toNat v5) (GEvent.mk v4 (w64 (v4 + 1)) x7.Obj x7.Lock x7.Pc)).map o81), [(I (w64 (v4 + 1)))].length = 1, 1 + [(I (w64 (v4 + 1)))].length ≤ [(I v4), (I x7.Kind), (I x7.Obj), (I x7.Lock), (I x7.Pc)].length, (List.length ((a3.set (Int.toNat v5) (GEvent.mk v4 x7.Kind x7.Obj x7.Lock x7.Pc)).map o81)) = (List.length ((a3.set (Int.toNat v5) (GEvent.mk v4 (w64 (v4 + 1)) x7.Obj x7.Lock x7.Pc)).map o81)), (0 : Int) ≤ v5, v5 < (((List.length ((a3.set (Int.toNat v5) (GEvent.mk v4 (w64 (v4 + 1)) x7.Obj x7.Lock x7.Pc)).map o81)) : Nat) : Int), ((a3.set (Int.toNat v5) (GEvent.mk v4 (w64 (v4 + 1)) x7.Obj x7.Lock x7.Pc)).map o81)[(Int.toNat v5)]? = some [(I v4), (I (w64 (v4 + 1))), (I x7.Obj), (I x7.Lock), (I x7.Pc)], ((a3.set (Int.toNat v5) (GEvent.mk v4 (w64 (v4 + 1)) x7.Obj x7.Lock x7.Pc)).map o81).set (Int.toNat v5) (wr [(I v4), (I (w64 (v4 + 1))), (I x7.Obj), (I x7.Lock), (I x7.Pc)] 2 [(I (w64 ((w64 (v4 + 1)) + 1)))]) = ((a3.set (Int.toNat v5) (GEvent.mk v4 (w64 (v4 + 1)) (w64 ((w64 (v4 + 1)) + 1)) x7.Lock x7.Pc)).map o81), [(I (w64 ((w64 (v4 + 1)) + 1)))].length = 1, 2 + [(I (w64 ((w64 (v4 + 1)) + 1)))].length ≤ [(I v4), (I (w64 (v4 + 1))), (I x7.Obj), (I x7.Lock), (I x7.Pc)].length, (List.length ((a3.set (Int.toNat v5) (GEvent.mk v4 (w64 (v4 + 1)) x7.Obj x7.Lock x7.Pc)).map o81)) = (List.length ((a3.set (Int.toNat v5) (GEvent.mk v4 (w64 (v4 + 1)) (w64 ((w64 (v4 + 1)) + 1)) x7.Lock x7.Pc)).map o81)), (0 : Int) ≤ v5, v5 < (((List.length ((a3.set (Int.toNat v5) (GEvent.mk v4 (w64 (v4 + 1)) (w64 ((w64 (v4 + 1)) + 1)) x7.Lock x7.Pc)).map o81)) : Nat) : Int), ((a3.set (Int.toNat v5) (GEvent.mk v4 (w64 (v4 + 1)) (w64 ((w64 (v4 + 1)) + 1)) x7.Lock x7.Pc)).map o81)[(Int.toNat v5)]? = some [(I v4), (I (w64 (v4 + 1))), (I (w64 ((w64 (v4 + 1)) + 1))), (I x7.Lock), (I x7.Pc)], ((a3.set (Int.toNat v5) (GEvent.mk v4 (w64 (v4 + 1)) (w64 ((w64 (v4 + 1)) + 1)) x7.Lock x7.Pc)).map o81).set (Int.toNat v5) (wr [(I v4), (I (w64 (v4 + 1))), (I (w64 ((w64 (v4 + 1)) + 1))), (I x7.Lock), (I x7.Pc)] 3 [(I (w64 ((w64 ((w64 (v4 + 1)) + 1)) + 1)))]) = ((a3.set (Int.toNat v5) (GEvent.mk v4 (w64 (v4 + 1)) (w64 ((w64 (v4 + 1)) + 1)) (w64 ((w64 ((w64 (v4 + 1)) + 1)) + 1)) x7.Pc)).map o81), [(I (w64 ((w64 ((w64 (v4 + 1)) + 1)) + 1)))].length = 1, 3 + [(I (w64 ((w64 ((w64 (v4 + 1)) + 1)) + 1)))].length ≤ [(I v4), (I (w64 (v4 + 1))), (I (w64 ((w64 (v4 + 1)) + 1))), (I x7.Lock), (I x7.Pc)].length, (List.length ((a3.set (Int.toNat v5) (GEvent.mk v4 (w64 (v4 + 1)) (w64 ((w64 (v4 + 1)) + 1)) x7.Lock x7.Pc)).map o81)) = (List.length ((a3.set (Int.toNat v5) (GEvent.mk v4 (w64 (v4 + 1)) (w64 ((w64 (v4 + 1)) + 1)) (w64 ((w64 ((w64 (v4 + 1)) + 1)) + 1)) x7.Pc)).map o81)), (0 : Int) ≤ v5, v5 < (((List.length ((a3.set (Int.toNat v5) (GEvent.mk v4 (w64 (v4 + 1)) (w64 ((w64 (v4 + 1)) + 1)) (w64 ((w64 ((w64 (v4 + 1)) + 1)) + 1)) x7.Pc)).map o81)) : Nat) : Int), ((a3.set (Int.toNat v5) (GEvent.mk v4 (w64 (v4 + 1)) (w64 ((w64 (v4 + 1)) + 1)) (w64 ((w64 ((w64 (v4 + 1)) + 1)) + 1)) x7.Pc)).map o81)[(Int.toNat v5)]? = some [(I v4), (I (w64 (v4 + 1))), (I (w64 ((w64 (v4 + 1)) + 1))), (I (w64 ((w64 ((w64 (v4 + 1)) + 1)) + 1))), (I x7.Pc)], ((a3.set (Int.toNat v5) (GEvent.mk v4 (w64 (v4 + 1)) (w64 ((w64 (v4 + 1)) + 1)) (w64 ((w64 ((w64 (v4 + 1)) + 1)) + 1)) x7.Pc)).map o81).set (Int.toNat v5) (wr [(I v4), (I (w64 (v4 + 1))), (I (w64 ((w64 (v4 + 1)) + 1))), (I (w64 ((w64 ((w64 (v4 + 1)) + 1)) + 1))), (I x7.Pc)] 4 [(I (w64 ((w64 ((w64 ((w64 (v4 + 1)) + 1)) + 1)) + 1)))]) = ((a3.set (Int.toNat v5) (GEvent.mk v4 (w64 (v4 + 1)) (w64 ((w64 (v4 + 1)) + 1)) (w64 ((w64 ((w64 (v4 + 1)) + 1)) + 1)) (w64 ((w64 ((w64 ((w64 (v4 + 1)) + 1)) + 1)) + 1)))).map o81), [(I (w64 ((w64 ((w64 ((w64 (v4 + 1)) + 1)) + 1)) + 1)))].length = 1, 4 + [(I (w64 ((w64 ((w64 ((w64 (v4 + 1)) + 1)) + 1)) + 1)))].length ≤ [(I v4), (I (w64 (v4 + 1))), (I (w64 ((w64 (v4 + 1)) + 1))), (I (w64 ((w64 ((w64 (v4 + 1)) + 1)) + 1))), (I x7.Pc)].length, (List.length ((a3.set (Int.toNat v5) (GEvent.mk v4 (w64 (v4 + 1)) (w64 ((w64 (v4 + 1)) + 1)) (w64 ((w64 ((w64 (v4 + 1)) + 1)) + 1)) x7.Pc)).map o81)) = (List.length ((a3.set (Int.toNat v5) (GEvent.mk v4 (w64 (v4 + 1)) (w64 ((w64 (v4 + 1)) + 1)) (w64 ((w64 ((w64 (v4 + 1)) + 1)) + 1)) (w64 ((w64 ((w64 ((w64 (v4 + 1)) + 1)) + 1)) + 1)))).map o81)), treeLL ((a3.set (Int.toNat v5) (GEvent.mk v4 (w64 (v4 + 1)) (w64 ((w64 (v4 + 1)) + 1)) (w64 ((w64 ((w64 (v4 + 1)) + 1)) + 1)) (w64 ((w64 ((w64 ((w64 (v4 + 1)) + 1)) + 1)) + 1)))).map o81) = true]) (by kernel_rfl) ⟨(lenM o81), c6, (rd0 hx7), (rdL o81 hx7), (rdM o81 hx7), (setMr o81 (by kernel_rfl)), rfl, (Nat.le_of_ble_eq_true rfl), (by first | exact lnSet _ | exact lnSet2 _ | simp only [List.length_map, List.length_set, List.length_cons, List.length_nil]), (rd0 hx7), (rdL o81 (rdS (y := (GEvent.mk v4 x7.Kind x7.Obj x7.Lock x7.Pc)) hx7)), (rdM o81 (rdS (y := (GEvent.mk v4 x7.Kind x7.Obj x7.Lock x7.Pc)) hx7)), (setSS o81 (by kernel_rfl)), rfl, (Nat.le_of_ble_eq_true rfl), (by first | exact lnSet _ | exact lnSet2 _ | simp only [List.length_map, List.length_set, List.length_cons, List.length_nil]), (rd0 hx7), (rdL o81 (rdS (y := (GEvent.mk v4 (w64 (v4 + 1)) x7.Obj x7.Lock x7.Pc)) hx7)), (rdM o81 (rdS (y := (GEvent.mk v4 (w64 (v4 + 1)) x7.Obj x7.Lock x7.Pc)) hx7)), (setSS o81 (by kernel_rfl)), rfl, (Nat.le_of_ble_eq_true rfl), (by first | exact lnSet _ | exact lnSet2 _ | simp only [List.length_map, List.length_set, List.length_cons, List.length_nil]), (rd0 hx7), (rdL o81 (rdS (y := (GEvent.mk v4 (w64 (v4 + 1)) (w64 ((w64 (v4 + 1)) + 1)) x7.Lock x7.Pc)) hx7)), (rdM o81 (rdS (y := (GEvent.mk v4 (w64 (v4 + 1)) (w64 ((w64 (v4 + 1)) + 1)) x7.Lock x7.Pc)) hx7)), (setSS o81 (by kernel_rfl)), rfl, (Nat.le_of_ble_eq_true rfl), (by first | exact lnSet _ | exact lnSet2 _ | simp only [List.length_map, List.length_set, List.length_cons, List.length_nil]), (rd0 hx7), (rdL o81 (rdS (y := (GEvent.mk v4 (w64 (v4 + 1)) (w64 ((w64 (v4 + 1)) + 1)) (w64 ((w64 ((w64 (v4 + 1)) + 1)) + 1)) x7.Pc)) hx7)), (rdM o81 (rdS (y := (GEvent.mk v4 (w64 (v4 + 1)) (w64 ((w64 (v4 + 1)) + 1)) (w64 ((w64 ((w64 (v4 + 1)) + 1)) + 1)) x7.Pc)) hx7)), (setSS o81 (by kernel_rfl)), rfl, (Nat.le_of_ble_eq_true rfl), (by first | exact lnSet _ | exact lnSet2 _ | simp only [List.length_map, List.length_set, List.length_cons, List.length_nil]), (treeM t81), trivial⟩ (ih (a3.set (Int.toNat v5) (GEvent.mk v4 (w64 (v4 + 1)) (w64 ((w64 (v4 + 1)) + 1)) (w64 ((w64 ((w64 (v4 + 1)) + 1)) + 1)) (w64 ((w64 ((w64 ((w64 (v4 + 1)) + 1)) + 1)) + 1)))) (w64 ((w64 ((w64 ((w64 ((w64 (v4 + 1)) + 1)) + 1)) + 1)) + 1)) (w64 (v5 + 1)) _ h)
    · have h := Option.some.inj h
      subst h
      exact go_ret hΘ hm hP hn (hs := [⟨2, .no, some (I (a3.length : Int))⟩, ⟨4, .br false, none⟩]) (rh := []) (ph := .raw) (ps := [AV.lit (.int .i64 (((List.length (a3.map o81)) : Nat) : Int)) = (I (a3.length : Int)), (decide (v5 < (a3.length : Int))) = false, (a3.map o81) = (a3.map o81), treeLL (a3.map o81) = true, noRoLL (a3.map o81) = true, (I v4) = (I v4), litA (I v4) = true]) (by kernel_rfl) ⟨(lenM o81), c8, rfl, (treeM t81), (noRoM n81), rfl, rfl, trivial⟩
noncomputable def laws_markEventS (p1 : (List GEvent)) (p2 : Int) : Option (Int × (List GEvent)) :=
  laws_markEventS_l0 FU p1 p2 0
theorem laws_markEventS_m {p1 : (List GEvent)} {p2 : Int} {r : (Int × (List GEvent))} (h : laws_markEventS p1 p2 = some r) : MeetsR Try.prog 22 [⟨81, 5, (p1.map o81)⟩] [(AV.sl 0 0 (List.length (p1.map o81))), (I p2)] [true] [⟨81, 5, (r.2.map o81)⟩] (I r.1) := by
  refine meetsR_of Θ_ok Try.func22 rfl (c := body22) (by kernel_rfl) (Nat.le_of_ble_eq_true rfl) rfl (Nat.le_of_ble_eq_true rfl) rfl (fr := [0]) (frI rfl) ?_
  intro E hP hn hx
  replace hn : E.n = 48 := hn
  have hm : E.P.follows .mixedOrders = true := by rw [hP]; exact mixed
  have hΘ : TOK E.P Θ := by rw [hP]; exact Θ_ok
  unfold laws_markEventS at h
  show WAt E body22 (FQ (RetE Θ Try.f22.results.toList [true] [⟨81, 5, (r.2.map o81)⟩] (I r.1) E)) [] ⟨[(0, (AV.sl 0 0 (List.length (p1.map o81)))), (1, (I p2))], [(0, some ⟨81, 5, (p1.map o81)⟩)], [0, JJ]⟩
  exact go_to hΘ hm hx hP hn (hs := []) (π := [(0, 0)]) (ts := [0, 1, 5]) (kp := []) (ps := [treeLL (p1.map o81) = true]) (by kernel_rfl) ⟨(treeM t81), trivial⟩ (laws_markEventS_l0_m hP hn hx FU p1 p2 0 _ h)
noncomputable def body23 : Code := match Try.f23.body with | some c => c | none => .skip
noncomputable def laws_markIntS_l0   : Nat → (List Int) → Int → Int → Option (Int × (List Int))
  | 0, _, _, _ => none
  | n + 1, a3, v4, v5 =>
  if (decide (v5 < (a3.length : Int))) = true then
    Option.bind (rd a3 v5) fun x7 =>
    laws_markIntS_l0 n (a3.set (Int.toNat v5) v4) (w64 (v4 + 1)) (w64 (v5 + 1))
  else
    some (v4, a3)
theorem laws_markIntS_l0_m {E : Env} (hP : E.P = Try.prog) (hn : E.n = 19) (hx : ∀ p, p ∈ E.fx → p.1 ∈ ([0] : List Nat))   : ∀ (n : Nat) (a3 : (List Int)) (v4 : Int) (v5 : Int) (r : (Int × (List Int))), laws_markIntS_l0  n a3 v4 v5 = some r → WAt E body23 (FQ (RetE Θ Try.f23.results.toList [true] [⟨3, 1, (r.2.map o3)⟩] (I r.1) E)) [true, false, true, false] ⟨[(0, (AV.sl 0 0 (List.length (a3.map o3)))), (1, (I v4)), (5, (I v5))], [(0, some ⟨3, 1, (a3.map o3)⟩)], [0, JJ]⟩ := by
  have hm : E.P.follows .mixedOrders = true := by rw [hP]; exact mixed
  have hΘ : TOK E.P Θ := by rw [hP]; exact Θ_ok
  intro n
  induction n with
  | zero => intro a3 v4 v5 r h; simp only [laws_markIntS_l0] at h; cases h
  | succ n ih =>
    intro a3 v4 v5 r h
    simp only [laws_markIntS_l0] at h
    rcases itS h with ⟨c6, h⟩ | ⟨c8, h⟩
    · obtain ⟨x7, hx7, h⟩ := bnS h
      exact go_to hΘ hm hx hP hn (hs := [⟨2, .no, some (I (a3.length : Int))⟩, ⟨4, .br true, none⟩, ⟨9, .sto [(I x7)] ((a3.set (Int.toNat v5) v4).map o3), none⟩, ⟨16, .slen 0 (List.length ((a3.set (Int.toNat v5) v4).map o3)), none⟩]) (π := [(0, 0)]) (ts := [0, 1, 5]) (kp := []) (ps := [AV.lit (.int .i64 (((List.length (a3.map o3)) : Nat) : Int)) = (I (a3.length : Int)), (decide (v5 < (a3.length : Int))) = true, (0 : Int) ≤ v5, v5 < (((List.length (a3.map o3)) : Nat) : Int), (a3.map o3)[(Int.toNat v5)]? = some [(I x7)], (a3.map o3).set (Int.toNat v5) (wr [(I x7)] 0 [(I v4)]) = ((a3.set (Int.toNat v5) v4).map o3), [(I v4)].length = 1, 0 + [(I v4)].length ≤ [(I x7)].length, (List.length (a3.map o3)) = (List.length ((a3.set (Int.toNat v5) v4).map o3)), treeLL ((a3.set (Int.toNat v5) v4).map o3) = true]) (by kernel_rfl) ⟨(lenM o3), c6, (rd0 hx7), (rdL o3 hx7), (rdM o3 hx7), (setM o3), rfl, (Nat.le_of_ble_eq_true rfl), (by first | exact lnSet _ | exact lnSet2 _ | simp only [List.length_map, List.length_set, List.length_cons, List.length_nil]), (treeM t3), trivial⟩ (ih (a3.set (Int.toNat v5) v4) (w64 (v4 + 1)) (w64 (v5 + 1)) _ h)
    · have h := Option.some.inj h
      subst h
      exact go_ret hΘ hm hP hn (hs := [⟨2, .no, some (I (a3.length : Int))⟩, ⟨4, .br false, none⟩]) (rh := []) (ph := .raw) (ps := [AV.lit (.int .i64 (((List.length (a3.map o3)) : Nat) : Int)) = (I (a3.length : Int)), (decide (v5 < (a3.length : Int))) = false, (a3.map o3) = (a3.map o3), treeLL (a3.map o3) = true, noRoLL (a3.map o3) = true, (I v4) = (I v4), litA (I v4) = true]) (by kernel_rfl) ⟨(lenM o3), c8, rfl, (treeM t3), (noRoM n3), rfl, rfl, trivial⟩
noncomputable def laws_markIntS (p1 : (List Int)) (p2 : Int) : Option (Int × (List Int)) :=
  laws_markIntS_l0 FU p1 p2 0
theorem laws_markIntS_m {p1 : (List Int)} {p2 : Int} {r : (Int × (List Int))} (h : laws_markIntS p1 p2 = some r) : MeetsR Try.prog 23 [⟨3, 1, (p1.map o3)⟩] [(AV.sl 0 0 (List.length (p1.map o3))), (I p2)] [true] [⟨3, 1, (r.2.map o3)⟩] (I r.1) := by
  refine meetsR_of Θ_ok Try.func23 rfl (c := body23) (by kernel_rfl) (Nat.le_of_ble_eq_true rfl) rfl (Nat.le_of_ble_eq_true rfl) rfl (fr := [0]) (frI rfl) ?_
  intro E hP hn hx
  replace hn : E.n = 19 := hn
  have hm : E.P.follows .mixedOrders = true := by rw [hP]; exact mixed
  have hΘ : TOK E.P Θ := by rw [hP]; exact Θ_ok
  unfold laws_markIntS at h
  show WAt E body23 (FQ (RetE Θ Try.f23.results.toList [true] [⟨3, 1, (r.2.map o3)⟩] (I r.1) E)) [] ⟨[(0, (AV.sl 0 0 (List.length (p1.map o3)))), (1, (I p2))], [(0, some ⟨3, 1, (p1.map o3)⟩)], [0, JJ]⟩
  exact go_to hΘ hm hx hP hn (hs := []) (π := [(0, 0)]) (ts := [0, 1, 5]) (kp := []) (ps := [treeLL (p1.map o3) = true]) (by kernel_rfl) ⟨(treeM t3), trivial⟩ (laws_markIntS_l0_m hP hn hx FU p1 p2 0 _ h)
noncomputable def body16 : Code := match Try.f16.body with | some c => c | none => .skip
noncomputable def laws_szEventS (p1 : (List GEvent)) (p2 : Int) : Option Int :=
  if (decide ((w64 (p2 - (p1.length : Int))) < 0)) = true then
    some (-1)
  else
    some (w64 (p2 - (p1.length : Int)))
theorem laws_szEventS_m {p1 : (List GEvent)} {p2 : Int} {r : Int} (h : laws_szEventS p1 p2 = some r) : Meets Try.prog 16 [(AV.ro 5 (p1.map o83)), (I p2)] (I r) := by
  refine meets_ofC Θ_ok Try.func16 rfl (c := body16) (by kernel_rfl) (Nat.le_of_ble_eq_true rfl) ?_
  intro E hP hn hx
  replace hn : E.n = 12 := hn
  have hm : E.P.follows .mixedOrders = true := by rw [hP]; exact mixed
  have hΘ : TOK E.P Θ := by rw [hP]; exact Θ_ok
  unfold laws_szEventS at h
  show WAt E body16 (FQ (RetE Θ Try.f16.results.toList [] [] (I r) E)) [] ⟨[(0, (AV.ro 5 (p1.map o83))), (1, (I p2))], [], [JJ]⟩
  rcases itS h with ⟨c3, h⟩ | ⟨c4, h⟩
  · have h := Option.some.inj h
    subst h
    exact go_ret hΘ hm hP hn (hs := [⟨3, .no, some (I (p1.length : Int))⟩, ⟨8, .br true, none⟩]) (rh := []) (ph := .raw) (ps := [AV.lit (.int .i64 (((p1.map o83).length : Nat) : Int)) = (I (p1.length : Int)), (decide ((w64 (p2 - (p1.length : Int))) < 0)) = true, (I (-1)) = (I (-1)), litA (I (-1)) = true]) (by kernel_rfl) ⟨(lenM o83), c3, rfl, rfl, trivial⟩
  · have h := Option.some.inj h
    subst h
    exact go_ret hΘ hm hP hn (hs := [⟨3, .no, some (I (p1.length : Int))⟩, ⟨8, .br false, none⟩]) (rh := []) (ph := .raw) (ps := [AV.lit (.int .i64 (((p1.map o83).length : Nat) : Int)) = (I (p1.length : Int)), (decide ((w64 (p2 - (p1.length : Int))) < 0)) = false, (I (w64 (p2 - (p1.length : Int)))) = (I (w64 (p2 - (p1.length : Int)))), litA (I (w64 (p2 - (p1.length : Int)))) = true]) (by kernel_rfl) ⟨(lenM o83), c4, rfl, rfl, trivial⟩
noncomputable def body52 : Code := match Try.f52.body with | some c => c | none => .skip
noncomputable def laws_toEvent (p1 : GEvent) : Option GEvent :=
  some (GEvent.mk p1.Thread p1.Kind p1.Obj p1.Lock p1.Pc)
theorem laws_toEvent_m {p1 : GEvent} {r : GEvent} (h : laws_toEvent p1 = some r) : Meets Try.prog 52 [(AV.agg ((o83 p1)))] (AV.agg (o81 r)) := by
  refine meets_ofC Θ_ok Try.func52 rfl (c := body52) (by kernel_rfl) (Nat.le_of_ble_eq_true rfl) ?_
  intro E hP hn hx
  replace hn : E.n = 20 := hn
  have hm : E.P.follows .mixedOrders = true := by rw [hP]; exact mixed
  have hΘ : TOK E.P Θ := by rw [hP]; exact Θ_ok
  unfold laws_toEvent at h
  show WAt E body52 (FQ (RetE Θ Try.f52.results.toList [] [] (AV.agg (o81 r)) E)) [] ⟨[(0, (AV.agg ((o83 p1))))], [], [JJ]⟩
  have h := Option.some.inj h
  subst h
  exact go_ret hΘ hm hP hn (hs := [⟨0, .new 1001, none⟩, ⟨1, .new 1002, none⟩, ⟨2, .new 1003, none⟩]) (rh := []) (ph := .raw) (ps := [(AV.agg [(I p1.Thread), (I p1.Kind), (I p1.Obj), (I p1.Lock), (I p1.Pc)]) = (AV.agg [(I p1.Thread), (I p1.Kind), (I p1.Obj), (I p1.Lock), (I p1.Pc)]), litA (AV.agg [(I p1.Thread), (I p1.Kind), (I p1.Obj), (I p1.Lock), (I p1.Pc)]) = true]) (by kernel_rfl) ⟨rfl, rfl, trivial⟩
noncomputable def body18 : Code := match Try.f18.body with | some c => c | none => .skip
noncomputable def laws_toEventS_l0  (p1 : (List GEvent)) : Nat → (List GEvent) → Int → Option (List GEvent)
  | 0, _, _ => none
  | n + 1, a3, v4 =>
  if (decide (v4 < (p1.length : Int))) = true then
    Option.bind (rd p1 v4) fun x6 =>
    Option.bind (laws_toEvent x6) fun r7 =>
    Option.bind (rd a3 v4) fun x8 =>
    laws_toEventS_l0 p1 n (a3.set (Int.toNat v4) r7) (w64 (v4 + 1))
  else
    some a3
theorem laws_toEventS_l0_m {E : Env} (hP : E.P = Try.prog) (hn : E.n = 23) (hx : ∀ p, p ∈ E.fx → p.1 ∈ ([] : List Nat)) (p1 : (List GEvent))  : ∀ (n : Nat) (a3 : (List GEvent)) (v4 : Int) (r : (List GEvent)), laws_toEventS_l0 p1 n a3 v4 = some r → WAt E body18 (FQ (RetE Θ Try.f18.results.toList [] [] (AV.own 81 5 (r.map o81)) E)) [true, true, false, true, false] ⟨[(0, (AV.ro 5 (p1.map o83))), (3, (AV.sl 1 0 (List.length (a3.map o81)))), (4, (I v4))], [(1, some ⟨81, 5, (a3.map o81)⟩)], [1, JJ]⟩ := by
  have hm : E.P.follows .mixedOrders = true := by rw [hP]; exact mixed
  have hΘ : TOK E.P Θ := by rw [hP]; exact Θ_ok
  intro n
  induction n with
  | zero => intro a3 v4 r h; simp only [laws_toEventS_l0] at h; cases h
  | succ n ih =>
    intro a3 v4 r h
    simp only [laws_toEventS_l0] at h
    rcases itS h with ⟨c5, h⟩ | ⟨c9, h⟩
    · obtain ⟨x6, hx6, h⟩ := bnS h
      obtain ⟨r7, hr7, h⟩ := bnS h
      obtain ⟨x8, hx8, h⟩ := bnS h
      exact go_to hΘ hm hx hP hn (hs := [⟨2, .no, some (I (p1.length : Int))⟩, ⟨4, .br true, none⟩, ⟨9, .row (o83 x6), none⟩, ⟨11, .callV [] (AV.agg (o81 r7)), none⟩, ⟨13, .sto ((o81 x8)) ((a3.set (Int.toNat v4) r7).map o81), none⟩, ⟨17, .slen 3 (List.length ((a3.set (Int.toNat v4) r7).map o81)), none⟩]) (π := [(1, 1)]) (ts := [0, 3, 4]) (kp := []) (ps := [AV.lit (.int .i64 (((p1.map o83).length : Nat) : Int)) = (I (p1.length : Int)), (decide (v4 < (p1.length : Int))) = true, (0 : Int) ≤ v4, (p1.map o83)[(Int.toNat v4)]? = some (o83 x6), Meets Try.prog 52 [(AV.agg ((o83 x6)))] (AV.agg (o81 r7)), litA (AV.agg (o81 r7)) = true, (0 : Int) ≤ v4, v4 < (((List.length (a3.map o81)) : Nat) : Int), (a3.map o81)[(Int.toNat v4)]? = some ((o81 x8)), (a3.map o81).set (Int.toNat v4) (wr ((o81 x8)) 0 ((o81 r7))) = ((a3.set (Int.toNat v4) r7).map o81), ((o81 r7)).length = 5, 0 + ((o81 r7)).length ≤ ((o81 x8)).length, (List.length (a3.map o81)) = (List.length ((a3.set (Int.toNat v4) r7).map o81)), treeLL ((a3.set (Int.toNat v4) r7).map o81) = true]) (by kernel_rfl) ⟨(lenM o83), c5, (rd0 hx6), (rdM o83 hx6), (laws_toEvent_m hr7), rfl, (rd0 hx8), (rdL o81 hx8), (rdM o81 hx8), (setMr o81 (by kernel_rfl)), rfl, (Nat.le_of_ble_eq_true rfl), (by first | exact lnSet _ | exact lnSet2 _ | simp only [List.length_map, List.length_set, List.length_cons, List.length_nil]), (treeM t81), trivial⟩ (ih (a3.set (Int.toNat v4) r7) (w64 (v4 + 1)) _ h)
    · have h := Option.some.inj h
      subst h
      exact go_ret hΘ hm hP hn (hs := [⟨2, .no, some (I (p1.length : Int))⟩, ⟨4, .br false, none⟩]) (rh := []) (ph := .own) (ps := [AV.lit (.int .i64 (((p1.map o83).length : Nat) : Int)) = (I (p1.length : Int)), (decide (v4 < (p1.length : Int))) = false, treeLL ((a3.map o81).take (List.length (a3.map o81))) = true, (a3.map o81).take (List.length (a3.map o81)) = (a3.map o81), noRoLL (a3.map o81) = true]) (by kernel_rfl) ⟨(lenM o83), c9, (treeT t81), takeM, (noRoM n81), trivial⟩
noncomputable def laws_toEventS (p1 : (List GEvent)) : Option (List GEvent) :=
  Option.bind (mk (GEvent.mk 0 0 0 0 0) (p1.length : Int)) fun l2 =>
  laws_toEventS_l0 p1 FU l2 0
theorem laws_toEventS_m {p1 : (List GEvent)} {r : (List GEvent)} (h : laws_toEventS p1 = some r) : Meets Try.prog 18 [(AV.ro 5 (p1.map o83))] (AV.own 81 5 (r.map o81)) := by
  refine meets_ofC Θ_ok Try.func18 rfl (c := body18) (by kernel_rfl) (Nat.le_of_ble_eq_true rfl) ?_
  intro E hP hn hx
  replace hn : E.n = 23 := hn
  have hm : E.P.follows .mixedOrders = true := by rw [hP]; exact mixed
  have hΘ : TOK E.P Θ := by rw [hP]; exact Θ_ok
  unfold laws_toEventS at h
  show WAt E body18 (FQ (RetE Θ Try.f18.results.toList [] [] (AV.own 81 5 (r.map o81)) E)) [] ⟨[(0, (AV.ro 5 (p1.map o83)))], [], [JJ]⟩
  obtain ⟨l2, hl2, h⟩ := bnS h
  exact go_to hΘ hm hx hP hn (hs := [⟨2, .no, some (I (p1.length : Int))⟩, ⟨3, .nw 1001 (l2.map o81), some (AV.sl 1001 0 (List.length (l2.map o81)))⟩]) (π := [(1001, 1)]) (ts := [0, 3, 4]) (kp := []) (ps := [AV.lit (.int .i64 (((p1.map o83).length : Nat) : Int)) = (I (p1.length : Int)), List.replicate (Int.toNat (p1.length : Int)) [.lit (.int .i64 0), .lit (.int .i64 0), .lit (.int .i64 0), .lit (.int .i64 0), .lit (.int .i64 0)] = (l2.map o81), AV.sl 1001 0 (Int.toNat (p1.length : Int)) = (AV.sl 1001 0 (List.length (l2.map o81))), (p1.length : Int) = (p1.length : Int), (0 : Int) ≤ (p1.length : Int), (p1.length : Int) * ((40 : Nat) : Int) ≤ 140737488355328, (p1.length : Int) ≤ 140737488355328, treeLL (l2.map o81) = true]) (by kernel_rfl) ⟨(lenM o83), (mkM o81 hl2), (mkS o81 hl2), rfl, (mk0 hl2), (mkB hl2 (by decide)), (mkC hl2), (treeM t81), trivial⟩ (laws_toEventS_l0_m hP hn hx p1 FU l2 0 _ h)
noncomputable def body50 : Code := match Try.f50.body with | some c => c | none => .skip
noncomputable def spec_l1In (p1 : Int) (p2 : Int) (p3 : Int) : Option Bool :=
  if (decide (p1 ≥ p2)) = true then
    some (decide (p1 ≤ p3))
  else
    some false
theorem spec_l1In_m {p1 : Int} {p2 : Int} {p3 : Int} {r : Bool} (h : spec_l1In p1 p2 p3 = some r) : Meets Try.prog 50 [(I p1), (I p2), (I p3)] (B r) := by
  refine meets_ofC Θ_ok Try.func50 rfl (c := body50) (by kernel_rfl) (Nat.le_of_ble_eq_true rfl) ?_
  intro E hP hn hx
  replace hn : E.n = 15 := hn
  have hm : E.P.follows .mixedOrders = true := by rw [hP]; exact mixed
  have hΘ : TOK E.P Θ := by rw [hP]; exact Θ_ok
  unfold spec_l1In at h
  show WAt E body50 (FQ (RetE Θ Try.f50.results.toList [] [] (B r) E)) [] ⟨[(0, (I p1)), (1, (I p2)), (2, (I p3))], [], [JJ]⟩
  rcases itS h with ⟨c4, h⟩ | ⟨c5, h⟩
  · have h := Option.some.inj h
    subst h
    exact go_ret hΘ hm hP hn (hs := [⟨4, .no, some (B true)⟩]) (rh := []) (ph := .raw) (ps := [(B (decide (p1 ≥ p2))) = (B true), (B (decide (p1 ≤ p3))) = (B (decide (p1 ≤ p3))), litA (B (decide (p1 ≤ p3))) = true]) (by kernel_rfl) ⟨(litB c4), rfl, rfl, trivial⟩
  · have h := Option.some.inj h
    subst h
    exact go_ret hΘ hm hP hn (hs := [⟨4, .no, some (B false)⟩]) (rh := []) (ph := .raw) (ps := [(B (decide (p1 ≥ p2))) = (B false), (B false) = (B false), litA (B false) = true]) (by kernel_rfl) ⟨(litB c5), rfl, rfl, trivial⟩
noncomputable def body78 : Code := match Try.f78.body with | some c => c | none => .skip
noncomputable def spec_l6Event_j0  (p1 : GEvent)  : Option Bool :=
  Option.bind (spec_l1In p1.Thread 0 4) fun r9 =>
  if r9 = true then
    Option.bind (spec_l1In p1.Kind 1 12) fun r11 =>
    if r11 = true then
      Option.bind (spec_l1In p1.Obj (-1) 99) fun r13 =>
      if r13 = true then
        Option.bind (spec_l1In p1.Lock (-1) 99) fun r15 =>
        if r15 = true then
          Option.bind (spec_l1In p1.Pc 0 99) fun r17 =>
          some r17
        else
          some false
      else
        some false
    else
      some false
  else
    some false
theorem spec_l6Event_j0_m {E : Env} (hP : E.P = Try.prog) (hn : E.n = 49) (hx : ∀ p, p ∈ E.fx → p.1 ∈ ([] : List Nat)) (p1 : GEvent)   (r : Bool) (h : spec_l6Event_j0 p1  = some r) : WAt E body78 (FQ (RetE Θ Try.f78.results.toList [] [] (B r) E)) [true, false, true, true] ⟨[(1, (AV.ptr 1 0 0))], [(1, some ⟨81, 5, [((o81 p1))]⟩)], [1, JJ]⟩ := by
  have hm : E.P.follows .mixedOrders = true := by rw [hP]; exact mixed
  have hΘ : TOK E.P Θ := by rw [hP]; exact Θ_ok
  unfold spec_l6Event_j0 at h
  obtain ⟨r9, hr9, h⟩ := bnS h
  rcases itS h with ⟨c10, h⟩ | ⟨c21, h⟩
  · obtain ⟨r11, hr11, h⟩ := bnS h
    rcases itS h with ⟨c12, h⟩ | ⟨c20, h⟩
    · obtain ⟨r13, hr13, h⟩ := bnS h
      rcases itS h with ⟨c14, h⟩ | ⟨c19, h⟩
      · obtain ⟨r15, hr15, h⟩ := bnS h
        rcases itS h with ⟨c16, h⟩ | ⟨c18, h⟩
        · obtain ⟨r17, hr17, h⟩ := bnS h
          have h := Option.some.inj h
          subst h
          exact go_ret hΘ hm hP hn (hs := [⟨2, .callV [] (B r9), none⟩, ⟨3, .no, some (B true)⟩, ⟨6, .callV [] (B r11), none⟩, ⟨8, .no, some (B true)⟩, ⟨11, .callV [] (B r13), none⟩, ⟨13, .no, some (B true)⟩, ⟨16, .callV [] (B r15), none⟩, ⟨18, .no, some (B true)⟩, ⟨21, .callV [] (B r17), none⟩]) (rh := []) (ph := .raw) (ps := [Meets Try.prog 50 [(I p1.Thread), (I 0), (I 4)] (B r9), litA (B r9) = true, (B r9) = (B true), Meets Try.prog 50 [(I p1.Kind), (I 1), (I 12)] (B r11), litA (B r11) = true, (B r11) = (B true), Meets Try.prog 50 [(I p1.Obj), (I (-1)), (I 99)] (B r13), litA (B r13) = true, (B r13) = (B true), Meets Try.prog 50 [(I p1.Lock), (I (-1)), (I 99)] (B r15), litA (B r15) = true, (B r15) = (B true), Meets Try.prog 50 [(I p1.Pc), (I 0), (I 99)] (B r17), litA (B r17) = true, (B r17) = (B r17), litA (B r17) = true]) (by kernel_rfl) ⟨(spec_l1In_m hr9), rfl, (litB c10), (spec_l1In_m hr11), rfl, (litB c12), (spec_l1In_m hr13), rfl, (litB c14), (spec_l1In_m hr15), rfl, (litB c16), (spec_l1In_m hr17), rfl, rfl, rfl, trivial⟩
        · have h := Option.some.inj h
          subst h
          exact go_ret hΘ hm hP hn (hs := [⟨2, .callV [] (B r9), none⟩, ⟨3, .no, some (B true)⟩, ⟨6, .callV [] (B r11), none⟩, ⟨8, .no, some (B true)⟩, ⟨11, .callV [] (B r13), none⟩, ⟨13, .no, some (B true)⟩, ⟨16, .callV [] (B r15), none⟩, ⟨18, .no, some (B false)⟩]) (rh := []) (ph := .raw) (ps := [Meets Try.prog 50 [(I p1.Thread), (I 0), (I 4)] (B r9), litA (B r9) = true, (B r9) = (B true), Meets Try.prog 50 [(I p1.Kind), (I 1), (I 12)] (B r11), litA (B r11) = true, (B r11) = (B true), Meets Try.prog 50 [(I p1.Obj), (I (-1)), (I 99)] (B r13), litA (B r13) = true, (B r13) = (B true), Meets Try.prog 50 [(I p1.Lock), (I (-1)), (I 99)] (B r15), litA (B r15) = true, (B r15) = (B false), (B false) = (B false), litA (B false) = true]) (by kernel_rfl) ⟨(spec_l1In_m hr9), rfl, (litB c10), (spec_l1In_m hr11), rfl, (litB c12), (spec_l1In_m hr13), rfl, (litB c14), (spec_l1In_m hr15), rfl, (litB c18), rfl, rfl, trivial⟩
      · have h := Option.some.inj h
        subst h
        exact go_ret hΘ hm hP hn (hs := [⟨2, .callV [] (B r9), none⟩, ⟨3, .no, some (B true)⟩, ⟨6, .callV [] (B r11), none⟩, ⟨8, .no, some (B true)⟩, ⟨11, .callV [] (B r13), none⟩, ⟨13, .no, some (B false)⟩]) (rh := []) (ph := .raw) (ps := [Meets Try.prog 50 [(I p1.Thread), (I 0), (I 4)] (B r9), litA (B r9) = true, (B r9) = (B true), Meets Try.prog 50 [(I p1.Kind), (I 1), (I 12)] (B r11), litA (B r11) = true, (B r11) = (B true), Meets Try.prog 50 [(I p1.Obj), (I (-1)), (I 99)] (B r13), litA (B r13) = true, (B r13) = (B false), (B false) = (B false), litA (B false) = true]) (by kernel_rfl) ⟨(spec_l1In_m hr9), rfl, (litB c10), (spec_l1In_m hr11), rfl, (litB c12), (spec_l1In_m hr13), rfl, (litB c19), rfl, rfl, trivial⟩
    · have h := Option.some.inj h
      subst h
      exact go_ret hΘ hm hP hn (hs := [⟨2, .callV [] (B r9), none⟩, ⟨3, .no, some (B true)⟩, ⟨6, .callV [] (B r11), none⟩, ⟨8, .no, some (B false)⟩]) (rh := []) (ph := .raw) (ps := [Meets Try.prog 50 [(I p1.Thread), (I 0), (I 4)] (B r9), litA (B r9) = true, (B r9) = (B true), Meets Try.prog 50 [(I p1.Kind), (I 1), (I 12)] (B r11), litA (B r11) = true, (B r11) = (B false), (B false) = (B false), litA (B false) = true]) (by kernel_rfl) ⟨(spec_l1In_m hr9), rfl, (litB c10), (spec_l1In_m hr11), rfl, (litB c20), rfl, rfl, trivial⟩
  · have h := Option.some.inj h
    subst h
    exact go_ret hΘ hm hP hn (hs := [⟨2, .callV [] (B r9), none⟩, ⟨3, .no, some (B false)⟩]) (rh := []) (ph := .raw) (ps := [Meets Try.prog 50 [(I p1.Thread), (I 0), (I 4)] (B r9), litA (B r9) = true, (B r9) = (B false), (B false) = (B false), litA (B false) = true]) (by kernel_rfl) ⟨(spec_l1In_m hr9), rfl, (litB c21), rfl, rfl, trivial⟩
noncomputable def spec_l6Event (p1 : GEvent) : Option Bool :=
  Option.bind (spec_l1In p1.Kind 2 10) fun r2 =>
  if r2 = true then
    if (decide (p1.Obj < 0)) = true then
      some false
    else
      if (p1.Kind == 8) = true then
        if (decide (p1.Lock < 0)) = true then
          some false
        else
          spec_l6Event_j0 p1
      else
        if (p1.Kind == 9) = true then
          if (decide (p1.Lock < 0)) = true then
            some false
          else
            spec_l6Event_j0 p1
        else
          spec_l6Event_j0 p1
  else
    if (p1.Kind == 8) = true then
      if (decide (p1.Lock < 0)) = true then
        some false
      else
        spec_l6Event_j0 p1
    else
      if (p1.Kind == 9) = true then
        if (decide (p1.Lock < 0)) = true then
          some false
        else
          spec_l6Event_j0 p1
      else
        spec_l6Event_j0 p1
theorem spec_l6Event_m {p1 : GEvent} {r : Bool} (h : spec_l6Event p1 = some r) : Meets Try.prog 78 [(AV.agg ((o81 p1)))] (B r) := by
  refine meets_ofC Θ_ok Try.func78 rfl (c := body78) (by kernel_rfl) (Nat.le_of_ble_eq_true rfl) ?_
  intro E hP hn hx
  replace hn : E.n = 49 := hn
  have hm : E.P.follows .mixedOrders = true := by rw [hP]; exact mixed
  have hΘ : TOK E.P Θ := by rw [hP]; exact Θ_ok
  unfold spec_l6Event at h
  show WAt E body78 (FQ (RetE Θ Try.f78.results.toList [] [] (B r) E)) [] ⟨[(0, (AV.agg ((o81 p1))))], [], [JJ]⟩
  obtain ⟨r2, hr2, h⟩ := bnS h
  rcases itS h with ⟨c3, h⟩ | ⟨c27, h⟩
  · rcases itS h with ⟨c4, h⟩ | ⟨c5, h⟩
    · have h := Option.some.inj h
      subst h
      exact go_ret hΘ hm hP hn (hs := [⟨0, .new 1001, none⟩, ⟨4, .callV [] (B r2), none⟩, ⟨5, .no, some (B true)⟩, ⟨10, .no, some (B true)⟩]) (rh := []) (ph := .raw) (ps := [Meets Try.prog 50 [(I p1.Kind), (I 2), (I 10)] (B r2), litA (B r2) = true, (B r2) = (B true), (B (decide (p1.Obj < 0))) = (B true), (B false) = (B false), litA (B false) = true]) (by kernel_rfl) ⟨(spec_l1In_m hr2), rfl, (litB c3), (litB c4), rfl, rfl, trivial⟩
    · rcases itS h with ⟨c6, h⟩ | ⟨c22, h⟩
      · rcases itS h with ⟨c7, h⟩ | ⟨c8, h⟩
        · have h := Option.some.inj h
          subst h
          exact go_ret hΘ hm hP hn (hs := [⟨0, .new 1001, none⟩, ⟨4, .callV [] (B r2), none⟩, ⟨5, .no, some (B true)⟩, ⟨10, .no, some (B false)⟩, ⟨14, .no, some (B true)⟩, ⟨25, .br true, none⟩]) (rh := []) (ph := .raw) (ps := [Meets Try.prog 50 [(I p1.Kind), (I 2), (I 10)] (B r2), litA (B r2) = true, (B r2) = (B true), (B (decide (p1.Obj < 0))) = (B false), (B (p1.Kind == 8)) = (B true), (decide (p1.Lock < 0)) = true, (B false) = (B false), litA (B false) = true]) (by kernel_rfl) ⟨(spec_l1In_m hr2), rfl, (litB c3), (litB c5), (litB c6), c7, rfl, rfl, trivial⟩
        · exact go_to hΘ hm hx hP hn (hs := [⟨0, .new 1001, none⟩, ⟨4, .callV [] (B r2), none⟩, ⟨5, .no, some (B true)⟩, ⟨10, .no, some (B false)⟩, ⟨14, .no, some (B true)⟩, ⟨25, .br false, none⟩]) (π := [(1001, 1)]) (ts := [1]) (kp := []) (ps := [Meets Try.prog 50 [(I p1.Kind), (I 2), (I 10)] (B r2), litA (B r2) = true, (B r2) = (B true), (B (decide (p1.Obj < 0))) = (B false), (B (p1.Kind == 8)) = (B true), (decide (p1.Lock < 0)) = false, treeLL [((o81 p1))] = true]) (by kernel_rfl) ⟨(spec_l1In_m hr2), rfl, (litB c3), (litB c5), (litB c6), c8, rfl, trivial⟩ (spec_l6Event_j0_m hP hn hx p1  _ h)
      · rcases itS h with ⟨c23, h⟩ | ⟨c26, h⟩
        · rcases itS h with ⟨c24, h⟩ | ⟨c25, h⟩
          · have h := Option.some.inj h
            subst h
            exact go_ret hΘ hm hP hn (hs := [⟨0, .new 1001, none⟩, ⟨4, .callV [] (B r2), none⟩, ⟨5, .no, some (B true)⟩, ⟨10, .no, some (B false)⟩, ⟨14, .no, some (B false)⟩, ⟨19, .no, some (B true)⟩, ⟨25, .br true, none⟩]) (rh := []) (ph := .raw) (ps := [Meets Try.prog 50 [(I p1.Kind), (I 2), (I 10)] (B r2), litA (B r2) = true, (B r2) = (B true), (B (decide (p1.Obj < 0))) = (B false), (B (p1.Kind == 8)) = (B false), (B (p1.Kind == 9)) = (B true), (decide (p1.Lock < 0)) = true, (B false) = (B false), litA (B false) = true]) (by kernel_rfl) ⟨(spec_l1In_m hr2), rfl, (litB c3), (litB c5), (litB c22), (litB c23), c24, rfl, rfl, trivial⟩
          · exact go_to hΘ hm hx hP hn (hs := [⟨0, .new 1001, none⟩, ⟨4, .callV [] (B r2), none⟩, ⟨5, .no, some (B true)⟩, ⟨10, .no, some (B false)⟩, ⟨14, .no, some (B false)⟩, ⟨19, .no, some (B true)⟩, ⟨25, .br false, none⟩]) (π := [(1001, 1)]) (ts := [1]) (kp := []) (ps := [Meets Try.prog 50 [(I p1.Kind), (I 2), (I 10)] (B r2), litA (B r2) = true, (B r2) = (B true), (B (decide (p1.Obj < 0))) = (B false), (B (p1.Kind == 8)) = (B false), (B (p1.Kind == 9)) = (B true), (decide (p1.Lock < 0)) = false, treeLL [((o81 p1))] = true]) (by kernel_rfl) ⟨(spec_l1In_m hr2), rfl, (litB c3), (litB c5), (litB c22), (litB c23), c25, rfl, trivial⟩ (spec_l6Event_j0_m hP hn hx p1  _ h)
        · exact go_to hΘ hm hx hP hn (hs := [⟨0, .new 1001, none⟩, ⟨4, .callV [] (B r2), none⟩, ⟨5, .no, some (B true)⟩, ⟨10, .no, some (B false)⟩, ⟨14, .no, some (B false)⟩, ⟨19, .no, some (B false)⟩]) (π := [(1001, 1)]) (ts := [1]) (kp := []) (ps := [Meets Try.prog 50 [(I p1.Kind), (I 2), (I 10)] (B r2), litA (B r2) = true, (B r2) = (B true), (B (decide (p1.Obj < 0))) = (B false), (B (p1.Kind == 8)) = (B false), (B (p1.Kind == 9)) = (B false), treeLL [((o81 p1))] = true]) (by kernel_rfl) ⟨(spec_l1In_m hr2), rfl, (litB c3), (litB c5), (litB c22), (litB c26), rfl, trivial⟩ (spec_l6Event_j0_m hP hn hx p1  _ h)
  · rcases itS h with ⟨c28, h⟩ | ⟨c31, h⟩
    · rcases itS h with ⟨c29, h⟩ | ⟨c30, h⟩
      · have h := Option.some.inj h
        subst h
        exact go_ret hΘ hm hP hn (hs := [⟨0, .new 1001, none⟩, ⟨4, .callV [] (B r2), none⟩, ⟨5, .no, some (B false)⟩, ⟨14, .no, some (B true)⟩, ⟨25, .br true, none⟩]) (rh := []) (ph := .raw) (ps := [Meets Try.prog 50 [(I p1.Kind), (I 2), (I 10)] (B r2), litA (B r2) = true, (B r2) = (B false), (B (p1.Kind == 8)) = (B true), (decide (p1.Lock < 0)) = true, (B false) = (B false), litA (B false) = true]) (by kernel_rfl) ⟨(spec_l1In_m hr2), rfl, (litB c27), (litB c28), c29, rfl, rfl, trivial⟩
      · exact go_to hΘ hm hx hP hn (hs := [⟨0, .new 1001, none⟩, ⟨4, .callV [] (B r2), none⟩, ⟨5, .no, some (B false)⟩, ⟨14, .no, some (B true)⟩, ⟨25, .br false, none⟩]) (π := [(1001, 1)]) (ts := [1]) (kp := []) (ps := [Meets Try.prog 50 [(I p1.Kind), (I 2), (I 10)] (B r2), litA (B r2) = true, (B r2) = (B false), (B (p1.Kind == 8)) = (B true), (decide (p1.Lock < 0)) = false, treeLL [((o81 p1))] = true]) (by kernel_rfl) ⟨(spec_l1In_m hr2), rfl, (litB c27), (litB c28), c30, rfl, trivial⟩ (spec_l6Event_j0_m hP hn hx p1  _ h)
    · rcases itS h with ⟨c32, h⟩ | ⟨c35, h⟩
      · rcases itS h with ⟨c33, h⟩ | ⟨c34, h⟩
        · have h := Option.some.inj h
          subst h
          exact go_ret hΘ hm hP hn (hs := [⟨0, .new 1001, none⟩, ⟨4, .callV [] (B r2), none⟩, ⟨5, .no, some (B false)⟩, ⟨14, .no, some (B false)⟩, ⟨19, .no, some (B true)⟩, ⟨25, .br true, none⟩]) (rh := []) (ph := .raw) (ps := [Meets Try.prog 50 [(I p1.Kind), (I 2), (I 10)] (B r2), litA (B r2) = true, (B r2) = (B false), (B (p1.Kind == 8)) = (B false), (B (p1.Kind == 9)) = (B true), (decide (p1.Lock < 0)) = true, (B false) = (B false), litA (B false) = true]) (by kernel_rfl) ⟨(spec_l1In_m hr2), rfl, (litB c27), (litB c31), (litB c32), c33, rfl, rfl, trivial⟩
        · exact go_to hΘ hm hx hP hn (hs := [⟨0, .new 1001, none⟩, ⟨4, .callV [] (B r2), none⟩, ⟨5, .no, some (B false)⟩, ⟨14, .no, some (B false)⟩, ⟨19, .no, some (B true)⟩, ⟨25, .br false, none⟩]) (π := [(1001, 1)]) (ts := [1]) (kp := []) (ps := [Meets Try.prog 50 [(I p1.Kind), (I 2), (I 10)] (B r2), litA (B r2) = true, (B r2) = (B false), (B (p1.Kind == 8)) = (B false), (B (p1.Kind == 9)) = (B true), (decide (p1.Lock < 0)) = false, treeLL [((o81 p1))] = true]) (by kernel_rfl) ⟨(spec_l1In_m hr2), rfl, (litB c27), (litB c31), (litB c32), c34, rfl, trivial⟩ (spec_l6Event_j0_m hP hn hx p1  _ h)
      · exact go_to hΘ hm hx hP hn (hs := [⟨0, .new 1001, none⟩, ⟨4, .callV [] (B r2), none⟩, ⟨5, .no, some (B false)⟩, ⟨14, .no, some (B false)⟩, ⟨19, .no, some (B false)⟩]) (π := [(1001, 1)]) (ts := [1]) (kp := []) (ps := [Meets Try.prog 50 [(I p1.Kind), (I 2), (I 10)] (B r2), litA (B r2) = true, (B r2) = (B false), (B (p1.Kind == 8)) = (B false), (B (p1.Kind == 9)) = (B false), treeLL [((o81 p1))] = true]) (by kernel_rfl) ⟨(spec_l1In_m hr2), rfl, (litB c27), (litB c31), (litB c35), rfl, trivial⟩ (spec_l6Event_j0_m hP hn hx p1  _ h)
noncomputable def body49 : Code := match Try.f49.body with | some c => c | none => .skip
noncomputable def spec_l6Trace_l0  (p1 : (List GEvent)) : Nat → Int → Option Bool
  | 0, _ => none
  | n + 1, v2 =>
  if (decide (v2 < (p1.length : Int))) = true then
    Option.bind (rd p1 v2) fun x4 =>
    Option.bind (spec_l6Event x4) fun r5 =>
    if (!r5) = true then
      some false
    else
      spec_l6Trace_l0 p1 n (w64 (v2 + 1))
  else
    some (decide ((p1.length : Int) ≤ 200))
theorem spec_l6Trace_l0_m {E : Env} (hP : E.P = Try.prog) (hn : E.n = 18) (hx : ∀ p, p ∈ E.fx → p.1 ∈ ([] : List Nat)) (p1 : (List GEvent))  : ∀ (n : Nat) (v2 : Int) (r : Bool), spec_l6Trace_l0 p1 n v2 = some r → WAt E body49 (FQ (RetE Θ Try.f49.results.toList [] [] (B r) E)) [true, false, true, false] ⟨[(0, (AV.ro 5 (p1.map o81))), (5, (AV.ro 5 (p1.map o81))), (6, (I (p1.length : Int))), (7, (I v2))], [], [JJ]⟩ := by
  have hm : E.P.follows .mixedOrders = true := by rw [hP]; exact mixed
  have hΘ : TOK E.P Θ := by rw [hP]; exact Θ_ok
  intro n
  induction n with
  | zero => intro v2 r h; simp only [spec_l6Trace_l0] at h; cases h
  | succ n ih =>
    intro v2 r h
    simp only [spec_l6Trace_l0] at h
    rcases itS h with ⟨c3, h⟩ | ⟨c8, h⟩
    · obtain ⟨x4, hx4, h⟩ := bnS h
      obtain ⟨r5, hr5, h⟩ := bnS h
      rcases itS h with ⟨c6, h⟩ | ⟨c7, h⟩
      · have h := Option.some.inj h
        subst h
        exact go_ret hΘ hm hP hn (hs := [⟨1, .br true, none⟩, ⟨2, .row (o81 x4), none⟩, ⟨4, .new 1001, none⟩, ⟨7, .callV [] (B r5), none⟩, ⟨9, .br true, none⟩]) (rh := []) (ph := .raw) (ps := [(decide (v2 < (p1.length : Int))) = true, (0 : Int) ≤ v2, (p1.map o81)[(Int.toNat v2)]? = some (o81 x4), Meets Try.prog 78 [(AV.agg ((o81 x4)))] (B r5), litA (B r5) = true, (!r5) = true, (B false) = (B false), litA (B false) = true]) (by kernel_rfl) ⟨c3, (rd0 hx4), (rdM o81 hx4), (spec_l6Event_m hr5), rfl, c6, rfl, rfl, trivial⟩
      · exact go_to hΘ hm hx hP hn (hs := [⟨1, .br true, none⟩, ⟨2, .row (o81 x4), none⟩, ⟨4, .new 1001, none⟩, ⟨7, .callV [] (B r5), none⟩, ⟨9, .br false, none⟩]) (π := []) (ts := [0, 5, 6, 7]) (kp := []) (ps := [(decide (v2 < (p1.length : Int))) = true, (0 : Int) ≤ v2, (p1.map o81)[(Int.toNat v2)]? = some (o81 x4), Meets Try.prog 78 [(AV.agg ((o81 x4)))] (B r5), litA (B r5) = true, (!r5) = false]) (by kernel_rfl) ⟨c3, (rd0 hx4), (rdM o81 hx4), (spec_l6Event_m hr5), rfl, c7, trivial⟩ (ih (w64 (v2 + 1)) _ h)
    · have h := Option.some.inj h
      subst h
      exact go_ret hΘ hm hP hn (hs := [⟨1, .br false, none⟩, ⟨3, .no, some (I (p1.length : Int))⟩]) (rh := []) (ph := .raw) (ps := [(decide (v2 < (p1.length : Int))) = false, AV.lit (.int .i64 (((p1.map o81).length : Nat) : Int)) = (I (p1.length : Int)), (B (decide ((p1.length : Int) ≤ 200))) = (B (decide ((p1.length : Int) ≤ 200))), litA (B (decide ((p1.length : Int) ≤ 200))) = true]) (by kernel_rfl) ⟨c8, (lenM o81), rfl, rfl, trivial⟩
noncomputable def spec_l6Trace (p1 : (List GEvent)) : Option Bool :=
  spec_l6Trace_l0 p1 FU 0
theorem spec_l6Trace_m {p1 : (List GEvent)} {r : Bool} (h : spec_l6Trace p1 = some r) : Meets Try.prog 49 [(AV.ro 5 (p1.map o81))] (B r) := by
  refine meets_ofC Θ_ok Try.func49 rfl (c := body49) (by kernel_rfl) (Nat.le_of_ble_eq_true rfl) ?_
  intro E hP hn hx
  replace hn : E.n = 18 := hn
  have hm : E.P.follows .mixedOrders = true := by rw [hP]; exact mixed
  have hΘ : TOK E.P Θ := by rw [hP]; exact Θ_ok
  unfold spec_l6Trace at h
  show WAt E body49 (FQ (RetE Θ Try.f49.results.toList [] [] (B r) E)) [] ⟨[(0, (AV.ro 5 (p1.map o81)))], [], [JJ]⟩
  exact go_to hΘ hm hx hP hn (hs := [⟨2, .no, some (I (p1.length : Int))⟩]) (π := []) (ts := [0, 5, 6, 7]) (kp := []) (ps := [AV.lit (.int .i64 (((p1.map o81).length : Nat) : Int)) = (I (p1.length : Int))]) (by kernel_rfl) ⟨(lenM o81), trivial⟩ (spec_l6Trace_l0_m hP hn hx p1 FU 0 _ h)
noncomputable def body93 : Code := match Try.f93.body with | some c => c | none => .skip
noncomputable def spec_l9Lock_j1  (p1 : GEvent) (v7 : Bool) : Option Int :=
  if v7 = true then
    some p1.Lock
  else
    some (-2)
theorem spec_l9Lock_j1_m {E : Env} (hP : E.P = Try.prog) (hn : E.n = 15) (hx : ∀ p, p ∈ E.fx → p.1 ∈ ([] : List Nat)) (p1 : GEvent)  (v7 : Bool) (r : Int) (h : spec_l9Lock_j1 p1 v7 = some r) : WAt E body93 (FQ (RetE Θ Try.f93.results.toList [] [] (I r) E)) [true, false, true, false, true, true, true] ⟨[(1, (AV.ptr 1 0 0)), (10, (B v7))], [(1, some ⟨81, 5, [((o81 p1))]⟩)], [1, JJ]⟩ := by
  have hm : E.P.follows .mixedOrders = true := by rw [hP]; exact mixed
  have hΘ : TOK E.P Θ := by rw [hP]; exact Θ_ok
  unfold spec_l9Lock_j1 at h
  rcases itS h with ⟨c8, h⟩ | ⟨c9, h⟩
  · have h := Option.some.inj h
    subst h
    exact go_ret hΘ hm hP hn (hs := [⟨0, .br true, none⟩]) (rh := []) (ph := .raw) (ps := [v7 = true, (I p1.Lock) = (I p1.Lock), litA (I p1.Lock) = true]) (by kernel_rfl) ⟨c8, rfl, rfl, trivial⟩
  · have h := Option.some.inj h
    subst h
    exact go_ret hΘ hm hP hn (hs := [⟨0, .br false, none⟩]) (rh := []) (ph := .raw) (ps := [v7 = false, (I (-2)) = (I (-2)), litA (I (-2)) = true]) (by kernel_rfl) ⟨c9, rfl, rfl, trivial⟩
noncomputable def spec_l9Lock_j0  (p1 : GEvent) (v3 : Bool) : Option Int :=
  if v3 = true then
    some p1.Obj
  else
    if (p1.Kind == 8) = true then
      spec_l9Lock_j1 p1 (p1.Kind == 8)
    else
      spec_l9Lock_j1 p1 (p1.Kind == 9)
theorem spec_l9Lock_j0_m {E : Env} (hP : E.P = Try.prog) (hn : E.n = 15) (hx : ∀ p, p ∈ E.fx → p.1 ∈ ([] : List Nat)) (p1 : GEvent)  (v3 : Bool) (r : Int) (h : spec_l9Lock_j0 p1 v3 = some r) : WAt E body93 (FQ (RetE Θ Try.f93.results.toList [] [] (I r) E)) [true, false, true, false, true] ⟨[(1, (AV.ptr 1 0 0)), (4, (I p1.Kind)), (5, (B v3))], [(1, some ⟨81, 5, [((o81 p1))]⟩)], [1, JJ]⟩ := by
  have hm : E.P.follows .mixedOrders = true := by rw [hP]; exact mixed
  have hΘ : TOK E.P Θ := by rw [hP]; exact Θ_ok
  unfold spec_l9Lock_j0 at h
  rcases itS h with ⟨c4, h⟩ | ⟨c5, h⟩
  · have h := Option.some.inj h
    subst h
    exact go_ret hΘ hm hP hn (hs := [⟨0, .br true, none⟩]) (rh := []) (ph := .raw) (ps := [v3 = true, (I p1.Obj) = (I p1.Obj), litA (I p1.Obj) = true]) (by kernel_rfl) ⟨c4, rfl, rfl, trivial⟩
  · rcases itS h with ⟨c6, h⟩ | ⟨c10, h⟩
    · exact go_to hΘ hm hx hP hn (hs := [⟨0, .br false, none⟩, ⟨3, .br true, none⟩]) (π := [(1, 1)]) (ts := [1, 10]) (kp := []) (ps := [v3 = false, (p1.Kind == 8) = true, treeLL [((o81 p1))] = true]) (by kernel_rfl) ⟨c5, c6, rfl, trivial⟩ (spec_l9Lock_j1_m hP hn hx p1 (p1.Kind == 8) _ h)
    · exact go_to hΘ hm hx hP hn (hs := [⟨0, .br false, none⟩, ⟨3, .br false, none⟩]) (π := [(1, 1)]) (ts := [1, 10]) (kp := []) (ps := [v3 = false, (p1.Kind == 8) = false, treeLL [((o81 p1))] = true]) (by kernel_rfl) ⟨c5, c10, rfl, trivial⟩ (spec_l9Lock_j1_m hP hn hx p1 (p1.Kind == 9) _ h)
noncomputable def spec_l9Lock (p1 : GEvent) : Option Int :=
  if (p1.Kind == 4) = true then
    spec_l9Lock_j0 p1 (p1.Kind == 4)
  else
    spec_l9Lock_j0 p1 (p1.Kind == 5)
theorem spec_l9Lock_m {p1 : GEvent} {r : Int} (h : spec_l9Lock p1 = some r) : Meets Try.prog 93 [(AV.agg ((o81 p1)))] (I r) := by
  refine meets_ofC Θ_ok Try.func93 rfl (c := body93) (by kernel_rfl) (Nat.le_of_ble_eq_true rfl) ?_
  intro E hP hn hx
  replace hn : E.n = 15 := hn
  have hm : E.P.follows .mixedOrders = true := by rw [hP]; exact mixed
  have hΘ : TOK E.P Θ := by rw [hP]; exact Θ_ok
  unfold spec_l9Lock at h
  show WAt E body93 (FQ (RetE Θ Try.f93.results.toList [] [] (I r) E)) [] ⟨[(0, (AV.agg ((o81 p1))))], [], [JJ]⟩
  rcases itS h with ⟨c2, h⟩ | ⟨c11, h⟩
  · exact go_to hΘ hm hx hP hn (hs := [⟨0, .new 1001, none⟩, ⟨6, .br true, none⟩]) (π := [(1001, 1)]) (ts := [1, 4, 5]) (kp := []) (ps := [(p1.Kind == 4) = true, treeLL [((o81 p1))] = true]) (by kernel_rfl) ⟨c2, rfl, trivial⟩ (spec_l9Lock_j0_m hP hn hx p1 (p1.Kind == 4) _ h)
  · exact go_to hΘ hm hx hP hn (hs := [⟨0, .new 1001, none⟩, ⟨6, .br false, none⟩]) (π := [(1001, 1)]) (ts := [1, 4, 5]) (kp := []) (ps := [(p1.Kind == 4) = false, treeLL [((o81 p1))] = true]) (by kernel_rfl) ⟨c11, rfl, trivial⟩ (spec_l9Lock_j0_m hP hn hx p1 (p1.Kind == 5) _ h)
noncomputable def body89 : Code := match Try.f89.body with | some c => c | none => .skip
noncomputable def spec_l7Touch (p1 : GEvent) : Option Bool :=
  if (p1.Kind == 2) = true then
    some true
  else
    some (p1.Kind == 3)
theorem spec_l7Touch_m {p1 : GEvent} {r : Bool} (h : spec_l7Touch p1 = some r) : Meets Try.prog 89 [(AV.agg ((o81 p1)))] (B r) := by
  refine meets_ofC Θ_ok Try.func89 rfl (c := body89) (by kernel_rfl) (Nat.le_of_ble_eq_true rfl) ?_
  intro E hP hn hx
  replace hn : E.n = 11 := hn
  have hm : E.P.follows .mixedOrders = true := by rw [hP]; exact mixed
  have hΘ : TOK E.P Θ := by rw [hP]; exact Θ_ok
  unfold spec_l7Touch at h
  show WAt E body89 (FQ (RetE Θ Try.f89.results.toList [] [] (B r) E)) [] ⟨[(0, (AV.agg ((o81 p1))))], [], [JJ]⟩
  rcases itS h with ⟨c2, h⟩ | ⟨c3, h⟩
  · have h := Option.some.inj h
    subst h
    exact go_ret hΘ hm hP hn (hs := [⟨0, .new 1001, none⟩, ⟨5, .no, some (B true)⟩]) (rh := []) (ph := .raw) (ps := [(B (p1.Kind == 2)) = (B true), (B true) = (B true), litA (B true) = true]) (by kernel_rfl) ⟨(litB c2), rfl, rfl, trivial⟩
  · have h := Option.some.inj h
    subst h
    exact go_ret hΘ hm hP hn (hs := [⟨0, .new 1001, none⟩, ⟨5, .no, some (B false)⟩]) (rh := []) (ph := .raw) (ps := [(B (p1.Kind == 2)) = (B false), (B (p1.Kind == 3)) = (B (p1.Kind == 3)), litA (B (p1.Kind == 3)) = true]) (by kernel_rfl) ⟨(litB c3), rfl, rfl, trivial⟩
noncomputable def body110 : Code := match Try.f110.body with | some c => c | none => .skip
noncomputable def spec_l9Cond (p1 : GEvent) : Option Bool :=
  if (p1.Kind == 8) = true then
    some true
  else
    if (p1.Kind == 9) = true then
      some true
    else
      some (p1.Kind == 10)
theorem spec_l9Cond_m {p1 : GEvent} {r : Bool} (h : spec_l9Cond p1 = some r) : Meets Try.prog 110 [(AV.agg ((o81 p1)))] (B r) := by
  refine meets_ofC Θ_ok Try.func110 rfl (c := body110) (by kernel_rfl) (Nat.le_of_ble_eq_true rfl) ?_
  intro E hP hn hx
  replace hn : E.n = 16 := hn
  have hm : E.P.follows .mixedOrders = true := by rw [hP]; exact mixed
  have hΘ : TOK E.P Θ := by rw [hP]; exact Θ_ok
  unfold spec_l9Cond at h
  show WAt E body110 (FQ (RetE Θ Try.f110.results.toList [] [] (B r) E)) [] ⟨[(0, (AV.agg ((o81 p1))))], [], [JJ]⟩
  rcases itS h with ⟨c2, h⟩ | ⟨c3, h⟩
  · have h := Option.some.inj h
    subst h
    exact go_ret hΘ hm hP hn (hs := [⟨0, .new 1001, none⟩, ⟨5, .no, some (B true)⟩]) (rh := []) (ph := .raw) (ps := [(B (p1.Kind == 8)) = (B true), (B true) = (B true), litA (B true) = true]) (by kernel_rfl) ⟨(litB c2), rfl, rfl, trivial⟩
  · rcases itS h with ⟨c4, h⟩ | ⟨c5, h⟩
    · have h := Option.some.inj h
      subst h
      exact go_ret hΘ hm hP hn (hs := [⟨0, .new 1001, none⟩, ⟨5, .no, some (B false)⟩, ⟨10, .no, some (B true)⟩]) (rh := []) (ph := .raw) (ps := [(B (p1.Kind == 8)) = (B false), (B (p1.Kind == 9)) = (B true), (B true) = (B true), litA (B true) = true]) (by kernel_rfl) ⟨(litB c3), (litB c4), rfl, rfl, trivial⟩
    · have h := Option.some.inj h
      subst h
      exact go_ret hΘ hm hP hn (hs := [⟨0, .new 1001, none⟩, ⟨5, .no, some (B false)⟩, ⟨10, .no, some (B false)⟩]) (rh := []) (ph := .raw) (ps := [(B (p1.Kind == 8)) = (B false), (B (p1.Kind == 9)) = (B false), (B (p1.Kind == 10)) = (B (p1.Kind == 10)), litA (B (p1.Kind == 10)) = true]) (by kernel_rfl) ⟨(litB c3), (litB c5), rfl, rfl, trivial⟩
noncomputable def body94 : Code := match Try.f94.body with | some c => c | none => .skip
noncomputable def spec_l9One (p1 : GEvent) (p2 : GEvent) : Option Bool :=
  if (p1.Kind == 3) = true then
    Option.bind (spec_l7Touch p2) fun r4 =>
    if r4 = true then
      some (p1.Obj == p2.Obj)
    else
      some false
  else
    if (p1.Kind == 6) = true then
      if (p2.Kind == 6) = true then
        some true
      else
        some (p2.Thread == p1.Obj)
    else
      if (p1.Kind == 7) = true then
        if (p2.Kind == 11) = true then
          some (p2.Thread == p1.Obj)
        else
          some false
      else
        if (p1.Kind == 10) = true then
          Option.bind (spec_l9Cond p2) fun r17 =>
          if r17 = true then
            if (p1.Obj == p2.Obj) = true then
              some true
            else
              some (p2.Thread == p1.Lock)
          else
            some (p2.Thread == p1.Lock)
        else
          if (p1.Kind == 8) = true then
            Option.bind (spec_l9Cond p2) fun r24 =>
            if r24 = true then
              some (p1.Obj == p2.Obj)
            else
              some false
          else
            some (p1.Kind == 12)
theorem spec_l9One_m {p1 : GEvent} {p2 : GEvent} {r : Bool} (h : spec_l9One p1 p2 = some r) : Meets Try.prog 94 [(AV.agg ((o81 p1))), (AV.agg ((o81 p2)))] (B r) := by
  refine meets_ofC Θ_ok Try.func94 rfl (c := body94) (by kernel_rfl) (Nat.le_of_ble_eq_true rfl) ?_
  intro E hP hn hx
  replace hn : E.n = 74 := hn
  have hm : E.P.follows .mixedOrders = true := by rw [hP]; exact mixed
  have hΘ : TOK E.P Θ := by rw [hP]; exact Θ_ok
  unfold spec_l9One at h
  show WAt E body94 (FQ (RetE Θ Try.f94.results.toList [] [] (B r) E)) [] ⟨[(0, (AV.agg ((o81 p1)))), (1, (AV.agg ((o81 p2))))], [], [JJ]⟩
  rcases itS h with ⟨c3, h⟩ | ⟨c7, h⟩
  · obtain ⟨r4, hr4, h⟩ := bnS h
    rcases itS h with ⟨c5, h⟩ | ⟨c6, h⟩
    · have h := Option.some.inj h
      subst h
      exact go_ret hΘ hm hP hn (hs := [⟨0, .new 1001, none⟩, ⟨1, .new 1002, none⟩, ⟨7, .br true, none⟩, ⟨9, .callV [] (B r4), none⟩, ⟨10, .no, some (B true)⟩]) (rh := []) (ph := .raw) (ps := [(p1.Kind == 3) = true, Meets Try.prog 89 [(AV.agg ((o81 p2)))] (B r4), litA (B r4) = true, (B r4) = (B true), (B (p1.Obj == p2.Obj)) = (B (p1.Obj == p2.Obj)), litA (B (p1.Obj == p2.Obj)) = true]) (by kernel_rfl) ⟨c3, (spec_l7Touch_m hr4), rfl, (litB c5), rfl, rfl, trivial⟩
    · have h := Option.some.inj h
      subst h
      exact go_ret hΘ hm hP hn (hs := [⟨0, .new 1001, none⟩, ⟨1, .new 1002, none⟩, ⟨7, .br true, none⟩, ⟨9, .callV [] (B r4), none⟩, ⟨10, .no, some (B false)⟩]) (rh := []) (ph := .raw) (ps := [(p1.Kind == 3) = true, Meets Try.prog 89 [(AV.agg ((o81 p2)))] (B r4), litA (B r4) = true, (B r4) = (B false), (B false) = (B false), litA (B false) = true]) (by kernel_rfl) ⟨c3, (spec_l7Touch_m hr4), rfl, (litB c6), rfl, rfl, trivial⟩
  · rcases itS h with ⟨c8, h⟩ | ⟨c11, h⟩
    · rcases itS h with ⟨c9, h⟩ | ⟨c10, h⟩
      · have h := Option.some.inj h
        subst h
        exact go_ret hΘ hm hP hn (hs := [⟨0, .new 1001, none⟩, ⟨1, .new 1002, none⟩, ⟨7, .br false, none⟩, ⟨10, .br true, none⟩, ⟨14, .no, some (B true)⟩]) (rh := []) (ph := .raw) (ps := [(p1.Kind == 3) = false, (p1.Kind == 6) = true, (B (p2.Kind == 6)) = (B true), (B true) = (B true), litA (B true) = true]) (by kernel_rfl) ⟨c7, c8, (litB c9), rfl, rfl, trivial⟩
      · have h := Option.some.inj h
        subst h
        exact go_ret hΘ hm hP hn (hs := [⟨0, .new 1001, none⟩, ⟨1, .new 1002, none⟩, ⟨7, .br false, none⟩, ⟨10, .br true, none⟩, ⟨14, .no, some (B false)⟩]) (rh := []) (ph := .raw) (ps := [(p1.Kind == 3) = false, (p1.Kind == 6) = true, (B (p2.Kind == 6)) = (B false), (B (p2.Thread == p1.Obj)) = (B (p2.Thread == p1.Obj)), litA (B (p2.Thread == p1.Obj)) = true]) (by kernel_rfl) ⟨c7, c8, (litB c10), rfl, rfl, trivial⟩
    · rcases itS h with ⟨c12, h⟩ | ⟨c15, h⟩
      · rcases itS h with ⟨c13, h⟩ | ⟨c14, h⟩
        · have h := Option.some.inj h
          subst h
          exact go_ret hΘ hm hP hn (hs := [⟨0, .new 1001, none⟩, ⟨1, .new 1002, none⟩, ⟨7, .br false, none⟩, ⟨10, .br false, none⟩, ⟨13, .br true, none⟩, ⟨17, .no, some (B true)⟩]) (rh := []) (ph := .raw) (ps := [(p1.Kind == 3) = false, (p1.Kind == 6) = false, (p1.Kind == 7) = true, (B (p2.Kind == 11)) = (B true), (B (p2.Thread == p1.Obj)) = (B (p2.Thread == p1.Obj)), litA (B (p2.Thread == p1.Obj)) = true]) (by kernel_rfl) ⟨c7, c11, c12, (litB c13), rfl, rfl, trivial⟩
        · have h := Option.some.inj h
          subst h
          exact go_ret hΘ hm hP hn (hs := [⟨0, .new 1001, none⟩, ⟨1, .new 1002, none⟩, ⟨7, .br false, none⟩, ⟨10, .br false, none⟩, ⟨13, .br true, none⟩, ⟨17, .no, some (B false)⟩]) (rh := []) (ph := .raw) (ps := [(p1.Kind == 3) = false, (p1.Kind == 6) = false, (p1.Kind == 7) = true, (B (p2.Kind == 11)) = (B false), (B false) = (B false), litA (B false) = true]) (by kernel_rfl) ⟨c7, c11, c12, (litB c14), rfl, rfl, trivial⟩
      · rcases itS h with ⟨c16, h⟩ | ⟨c22, h⟩
        · obtain ⟨r17, hr17, h⟩ := bnS h
          rcases itS h with ⟨c18, h⟩ | ⟨c21, h⟩
          · rcases itS h with ⟨c19, h⟩ | ⟨c20, h⟩
            · have h := Option.some.inj h
              subst h
              exact go_ret hΘ hm hP hn (hs := [⟨0, .new 1001, none⟩, ⟨1, .new 1002, none⟩, ⟨7, .br false, none⟩, ⟨10, .br false, none⟩, ⟨13, .br false, none⟩, ⟨16, .br true, none⟩, ⟨18, .callV [] (B r17), none⟩, ⟨19, .no, some (B true)⟩, ⟨26, .no, some (B true)⟩]) (rh := []) (ph := .raw) (ps := [(p1.Kind == 3) = false, (p1.Kind == 6) = false, (p1.Kind == 7) = false, (p1.Kind == 10) = true, Meets Try.prog 110 [(AV.agg ((o81 p2)))] (B r17), litA (B r17) = true, (B r17) = (B true), (B (p1.Obj == p2.Obj)) = (B true), (B true) = (B true), litA (B true) = true]) (by kernel_rfl) ⟨c7, c11, c15, c16, (spec_l9Cond_m hr17), rfl, (litB c18), (litB c19), rfl, rfl, trivial⟩
            · have h := Option.some.inj h
              subst h
              exact go_ret hΘ hm hP hn (hs := [⟨0, .new 1001, none⟩, ⟨1, .new 1002, none⟩, ⟨7, .br false, none⟩, ⟨10, .br false, none⟩, ⟨13, .br false, none⟩, ⟨16, .br true, none⟩, ⟨18, .callV [] (B r17), none⟩, ⟨19, .no, some (B true)⟩, ⟨26, .no, some (B false)⟩]) (rh := []) (ph := .raw) (ps := [(p1.Kind == 3) = false, (p1.Kind == 6) = false, (p1.Kind == 7) = false, (p1.Kind == 10) = true, Meets Try.prog 110 [(AV.agg ((o81 p2)))] (B r17), litA (B r17) = true, (B r17) = (B true), (B (p1.Obj == p2.Obj)) = (B false), (B (p2.Thread == p1.Lock)) = (B (p2.Thread == p1.Lock)), litA (B (p2.Thread == p1.Lock)) = true]) (by kernel_rfl) ⟨c7, c11, c15, c16, (spec_l9Cond_m hr17), rfl, (litB c18), (litB c20), rfl, rfl, trivial⟩
          · have h := Option.some.inj h
            subst h
            exact go_ret hΘ hm hP hn (hs := [⟨0, .new 1001, none⟩, ⟨1, .new 1002, none⟩, ⟨7, .br false, none⟩, ⟨10, .br false, none⟩, ⟨13, .br false, none⟩, ⟨16, .br true, none⟩, ⟨18, .callV [] (B r17), none⟩, ⟨19, .no, some (B false)⟩]) (rh := []) (ph := .raw) (ps := [(p1.Kind == 3) = false, (p1.Kind == 6) = false, (p1.Kind == 7) = false, (p1.Kind == 10) = true, Meets Try.prog 110 [(AV.agg ((o81 p2)))] (B r17), litA (B r17) = true, (B r17) = (B false), (B (p2.Thread == p1.Lock)) = (B (p2.Thread == p1.Lock)), litA (B (p2.Thread == p1.Lock)) = true]) (by kernel_rfl) ⟨c7, c11, c15, c16, (spec_l9Cond_m hr17), rfl, (litB c21), rfl, rfl, trivial⟩
        · rcases itS h with ⟨c23, h⟩ | ⟨c27, h⟩
          · obtain ⟨r24, hr24, h⟩ := bnS h
            rcases itS h with ⟨c25, h⟩ | ⟨c26, h⟩
            · have h := Option.some.inj h
              subst h
              exact go_ret hΘ hm hP hn (hs := [⟨0, .new 1001, none⟩, ⟨1, .new 1002, none⟩, ⟨7, .br false, none⟩, ⟨10, .br false, none⟩, ⟨13, .br false, none⟩, ⟨16, .br false, none⟩, ⟨19, .br true, none⟩, ⟨21, .callV [] (B r24), none⟩, ⟨22, .no, some (B true)⟩]) (rh := []) (ph := .raw) (ps := [(p1.Kind == 3) = false, (p1.Kind == 6) = false, (p1.Kind == 7) = false, (p1.Kind == 10) = false, (p1.Kind == 8) = true, Meets Try.prog 110 [(AV.agg ((o81 p2)))] (B r24), litA (B r24) = true, (B r24) = (B true), (B (p1.Obj == p2.Obj)) = (B (p1.Obj == p2.Obj)), litA (B (p1.Obj == p2.Obj)) = true]) (by kernel_rfl) ⟨c7, c11, c15, c22, c23, (spec_l9Cond_m hr24), rfl, (litB c25), rfl, rfl, trivial⟩
            · have h := Option.some.inj h
              subst h
              exact go_ret hΘ hm hP hn (hs := [⟨0, .new 1001, none⟩, ⟨1, .new 1002, none⟩, ⟨7, .br false, none⟩, ⟨10, .br false, none⟩, ⟨13, .br false, none⟩, ⟨16, .br false, none⟩, ⟨19, .br true, none⟩, ⟨21, .callV [] (B r24), none⟩, ⟨22, .no, some (B false)⟩]) (rh := []) (ph := .raw) (ps := [(p1.Kind == 3) = false, (p1.Kind == 6) = false, (p1.Kind == 7) = false, (p1.Kind == 10) = false, (p1.Kind == 8) = true, Meets Try.prog 110 [(AV.agg ((o81 p2)))] (B r24), litA (B r24) = true, (B r24) = (B false), (B false) = (B false), litA (B false) = true]) (by kernel_rfl) ⟨c7, c11, c15, c22, c23, (spec_l9Cond_m hr24), rfl, (litB c26), rfl, rfl, trivial⟩
          · have h := Option.some.inj h
            subst h
            exact go_ret hΘ hm hP hn (hs := [⟨0, .new 1001, none⟩, ⟨1, .new 1002, none⟩, ⟨7, .br false, none⟩, ⟨10, .br false, none⟩, ⟨13, .br false, none⟩, ⟨16, .br false, none⟩, ⟨19, .br false, none⟩]) (rh := []) (ph := .raw) (ps := [(p1.Kind == 3) = false, (p1.Kind == 6) = false, (p1.Kind == 7) = false, (p1.Kind == 10) = false, (p1.Kind == 8) = false, (B (p1.Kind == 12)) = (B (p1.Kind == 12)), litA (B (p1.Kind == 12)) = true]) (by kernel_rfl) ⟨c7, c11, c15, c22, c27, rfl, rfl, trivial⟩
noncomputable def body59 : Code := match Try.f59.body with | some c => c | none => .skip
noncomputable def spec_l9Hang_j0  (p1 : GEvent) (p2 : GEvent)  : Option Bool :=
  Option.bind (spec_l9One p1 p2) fun r11 =>
  if r11 = true then
    some true
  else
    Option.bind (spec_l9One p2 p1) fun r14 =>
    some r14
theorem spec_l9Hang_j0_m {E : Env} (hP : E.P = Try.prog) (hn : E.n = 30) (hx : ∀ p, p ∈ E.fx → p.1 ∈ ([] : List Nat)) (p1 : GEvent) (p2 : GEvent)   (r : Bool) (h : spec_l9Hang_j0 p1 p2  = some r) : WAt E body59 (FQ (RetE Θ Try.f59.results.toList [] [] (B r) E)) [true, false, true, true] ⟨[(2, (AV.ptr 1 0 0)), (3, (AV.ptr 2 0 0))], [(1, some ⟨81, 5, [((o81 p1))]⟩), (2, some ⟨81, 5, [((o81 p2))]⟩)], [1, 2, JJ]⟩ := by
  have hm : E.P.follows .mixedOrders = true := by rw [hP]; exact mixed
  have hΘ : TOK E.P Θ := by rw [hP]; exact Θ_ok
  unfold spec_l9Hang_j0 at h
  obtain ⟨r11, hr11, h⟩ := bnS h
  rcases itS h with ⟨c12, h⟩ | ⟨c13, h⟩
  · have h := Option.some.inj h
    subst h
    exact go_ret hΘ hm hP hn (hs := [⟨2, .callV [] (B r11), none⟩, ⟨3, .no, some (B true)⟩]) (rh := []) (ph := .raw) (ps := [Meets Try.prog 94 [(AV.agg ((o81 p1))), (AV.agg ((o81 p2)))] (B r11), litA (B r11) = true, (B r11) = (B true), (B true) = (B true), litA (B true) = true]) (by kernel_rfl) ⟨(spec_l9One_m hr11), rfl, (litB c12), rfl, rfl, trivial⟩
  · obtain ⟨r14, hr14, h⟩ := bnS h
    have h := Option.some.inj h
    subst h
    exact go_ret hΘ hm hP hn (hs := [⟨2, .callV [] (B r11), none⟩, ⟨3, .no, some (B false)⟩, ⟨6, .callV [] (B r14), none⟩]) (rh := []) (ph := .raw) (ps := [Meets Try.prog 94 [(AV.agg ((o81 p1))), (AV.agg ((o81 p2)))] (B r11), litA (B r11) = true, (B r11) = (B false), Meets Try.prog 94 [(AV.agg ((o81 p2))), (AV.agg ((o81 p1)))] (B r14), litA (B r14) = true, (B r14) = (B r14), litA (B r14) = true]) (by kernel_rfl) ⟨(spec_l9One_m hr11), rfl, (litB c13), (spec_l9One_m hr14), rfl, rfl, rfl, trivial⟩
noncomputable def spec_l9Hang (p1 : GEvent) (p2 : GEvent) : Option Bool :=
  if (p1.Thread == p2.Thread) = true then
    some true
  else
    Option.bind (spec_l9Lock p1) fun r5 =>
    Option.bind (spec_l9Lock p2) fun r6 =>
    if (r5 == r6) = true then
      Option.bind (spec_l9Lock p1) fun r8 =>
      if (r8 != (-2)) = true then
        some true
      else
        spec_l9Hang_j0 p1 p2
    else
      spec_l9Hang_j0 p1 p2
theorem spec_l9Hang_m {p1 : GEvent} {p2 : GEvent} {r : Bool} (h : spec_l9Hang p1 p2 = some r) : Meets Try.prog 59 [(AV.agg ((o81 p1))), (AV.agg ((o81 p2)))] (B r) := by
  refine meets_ofC Θ_ok Try.func59 rfl (c := body59) (by kernel_rfl) (Nat.le_of_ble_eq_true rfl) ?_
  intro E hP hn hx
  replace hn : E.n = 30 := hn
  have hm : E.P.follows .mixedOrders = true := by rw [hP]; exact mixed
  have hΘ : TOK E.P Θ := by rw [hP]; exact Θ_ok
  unfold spec_l9Hang at h
  show WAt E body59 (FQ (RetE Θ Try.f59.results.toList [] [] (B r) E)) [] ⟨[(0, (AV.agg ((o81 p1)))), (1, (AV.agg ((o81 p2))))], [], [JJ]⟩
  rcases itS h with ⟨c3, h⟩ | ⟨c4, h⟩
  · have h := Option.some.inj h
    subst h
    exact go_ret hΘ hm hP hn (hs := [⟨0, .new 1001, none⟩, ⟨1, .new 1002, none⟩, ⟨8, .no, some (B true)⟩]) (rh := []) (ph := .raw) (ps := [(B (p1.Thread == p2.Thread)) = (B true), (B true) = (B true), litA (B true) = true]) (by kernel_rfl) ⟨(litB c3), rfl, rfl, trivial⟩
  · obtain ⟨r5, hr5, h⟩ := bnS h
    obtain ⟨r6, hr6, h⟩ := bnS h
    rcases itS h with ⟨c7, h⟩ | ⟨c15, h⟩
    · obtain ⟨r8, hr8, h⟩ := bnS h
      rcases itS h with ⟨c9, h⟩ | ⟨c10, h⟩
      · have h := Option.some.inj h
        subst h
        exact go_ret hΘ hm hP hn (hs := [⟨0, .new 1001, none⟩, ⟨1, .new 1002, none⟩, ⟨8, .no, some (B false)⟩, ⟨10, .callV [] (I r5), none⟩, ⟨12, .callV [] (I r6), none⟩, ⟨14, .no, some (B true)⟩, ⟨16, .callV [] (I r8), none⟩, ⟨20, .br true, none⟩]) (rh := []) (ph := .raw) (ps := [(B (p1.Thread == p2.Thread)) = (B false), Meets Try.prog 93 [(AV.agg ((o81 p1)))] (I r5), litA (I r5) = true, Meets Try.prog 93 [(AV.agg ((o81 p2)))] (I r6), litA (I r6) = true, (B (r5 == r6)) = (B true), Meets Try.prog 93 [(AV.agg ((o81 p1)))] (I r8), litA (I r8) = true, (r8 != (-2)) = true, (B true) = (B true), litA (B true) = true]) (by kernel_rfl) ⟨(litB c4), (spec_l9Lock_m hr5), rfl, (spec_l9Lock_m hr6), rfl, (litB c7), (spec_l9Lock_m hr8), rfl, c9, rfl, rfl, trivial⟩
      · exact go_to hΘ hm hx hP hn (hs := [⟨0, .new 1001, none⟩, ⟨1, .new 1002, none⟩, ⟨8, .no, some (B false)⟩, ⟨10, .callV [] (I r5), none⟩, ⟨12, .callV [] (I r6), none⟩, ⟨14, .no, some (B true)⟩, ⟨16, .callV [] (I r8), none⟩, ⟨20, .br false, none⟩]) (π := [(1001, 1), (1002, 2)]) (ts := [2, 3]) (kp := []) (ps := [(B (p1.Thread == p2.Thread)) = (B false), Meets Try.prog 93 [(AV.agg ((o81 p1)))] (I r5), litA (I r5) = true, Meets Try.prog 93 [(AV.agg ((o81 p2)))] (I r6), litA (I r6) = true, (B (r5 == r6)) = (B true), Meets Try.prog 93 [(AV.agg ((o81 p1)))] (I r8), litA (I r8) = true, (r8 != (-2)) = false, treeLL [((o81 p1))] = true, treeLL [((o81 p2))] = true]) (by kernel_rfl) ⟨(litB c4), (spec_l9Lock_m hr5), rfl, (spec_l9Lock_m hr6), rfl, (litB c7), (spec_l9Lock_m hr8), rfl, c10, rfl, rfl, trivial⟩ (spec_l9Hang_j0_m hP hn hx p1 p2  _ h)
    · exact go_to hΘ hm hx hP hn (hs := [⟨0, .new 1001, none⟩, ⟨1, .new 1002, none⟩, ⟨8, .no, some (B false)⟩, ⟨10, .callV [] (I r5), none⟩, ⟨12, .callV [] (I r6), none⟩, ⟨14, .no, some (B false)⟩]) (π := [(1001, 1), (1002, 2)]) (ts := [2, 3]) (kp := []) (ps := [(B (p1.Thread == p2.Thread)) = (B false), Meets Try.prog 93 [(AV.agg ((o81 p1)))] (I r5), litA (I r5) = true, Meets Try.prog 93 [(AV.agg ((o81 p2)))] (I r6), litA (I r6) = true, (B (r5 == r6)) = (B false), treeLL [((o81 p1))] = true, treeLL [((o81 p2))] = true]) (by kernel_rfl) ⟨(litB c4), (spec_l9Lock_m hr5), rfl, (spec_l9Lock_m hr6), rfl, (litB c15), rfl, rfl, trivial⟩ (spec_l9Hang_j0_m hP hn hx p1 p2  _ h)
noncomputable def body28 : Code := match Try.f28.body with | some c => c | none => .skip
noncomputable def spec_CutAround_l1 (K0 : (List Bool) → (List Int) → Int → Option ((List Int) × Bool)) (p1 : (List GEvent)) (p2 : Int) (v14 : Int) : Nat → (List Bool) → (List Int) → Int → Option ((List Int) × Bool)
  | 0, _, _, _ => none
  | n + 1, a16, a17, v18 =>
  if (decide (v18 ≤ p2)) = true then
    Option.bind (rd a16 v14) fun x20 =>
    if x20 = true then
      spec_CutAround_l1 K0 p1 p2 v14 n (a16.set (Int.toNat v14) true) a17 (w64 (v18 + 1))
    else
      Option.bind (rd a16 v18) fun x23 =>
      if x23 = true then
        Option.bind (rd p1 v14) fun x25 =>
        Option.bind (rd p1 v18) fun x26 =>
        Option.bind (spec_l9Hang x25 x26) fun r27 =>
        spec_CutAround_l1 K0 p1 p2 v14 n (a16.set (Int.toNat v14) r27) a17 (w64 (v18 + 1))
      else
        spec_CutAround_l1 K0 p1 p2 v14 n (a16.set (Int.toNat v14) false) a17 (w64 (v18 + 1))
  else
    Option.bind (rd a16 v14) fun x30 =>
    if x30 = true then
      Option.bind (rd p1 v14) fun x32 =>
      Option.bind (rd a17 x32.Thread) fun x33 =>
      K0 a16 (a17.set (Int.toNat x32.Thread) (w64 (x33 + 1))) (w64 (v14 - 1))
    else
      K0 a16 a17 (w64 (v14 - 1))
theorem spec_CutAround_l1_m {E : Env} (hP : E.P = Try.prog) (hn : E.n = 79) (hx : ∀ p, p ∈ E.fx → p.1 ∈ ([] : List Nat)) (p1 : (List GEvent)) (p2 : Int) (v14 : Int) {K0 : (List Bool) → (List Int) → Int → Option ((List Int) × Bool)} (hK0 : ∀ (a12 : (List Bool)) (a13 : (List Int)) (v14 : Int) (r : ((List Int) × Bool)), K0 a12 a13 v14 = some r → WAt E body28 (FQ (RetE Θ Try.f28.results.toList [] [] (AV.tup [(AV.own 3 1 (r.1.map o3)), (B r.2)]) E)) [true, true, true, true, true, false, true, false] ⟨[(0, (AV.ro 5 (p1.map o81))), (1, (I p2)), (6, (AV.sl 1 0 (List.length (a12.map o4)))), (7, (AV.sl 2 0 (List.length (a13.map o3)))), (8, (I v14))], [(1, some ⟨4, 1, (a12.map o4)⟩), (2, some ⟨3, 1, (a13.map o3)⟩)], [1, 2, JJ]⟩) : ∀ (n : Nat) (a16 : (List Bool)) (a17 : (List Int)) (v18 : Int) (r : ((List Int) × Bool)), spec_CutAround_l1 K0 p1 p2 v14 n a16 a17 v18 = some r → WAt E body28 (FQ (RetE Θ Try.f28.results.toList [] [] (AV.tup [(AV.own 3 1 (r.1.map o3)), (B r.2)]) E)) [true, true, true, true, true, false, true, false, false, true, false, false, false, true, false] ⟨[(0, (AV.ro 5 (p1.map o81))), (1, (I p2)), (6, (AV.sl 1 0 (List.length (a16.map o4)))), (7, (AV.sl 2 0 (List.length (a17.map o3)))), (8, (I v14)), (9, (I v18))], [(1, some ⟨4, 1, (a16.map o4)⟩), (2, some ⟨3, 1, (a17.map o3)⟩)], [1, 2, JJ]⟩ := by
  have hm : E.P.follows .mixedOrders = true := by rw [hP]; exact mixed
  have hΘ : TOK E.P Θ := by rw [hP]; exact Θ_ok
  intro n
  induction n with
  | zero => intro a16 a17 v18 r h; simp only [spec_CutAround_l1] at h; cases h
  | succ n ih =>
    intro a16 a17 v18 r h
    simp only [spec_CutAround_l1] at h
    rcases itS h with ⟨c19, h⟩ | ⟨c29, h⟩
    · obtain ⟨x20, hx20, h⟩ := bnS h
      rcases itS h with ⟨c21, h⟩ | ⟨c22, h⟩
      · exact go_to hΘ hm hx hP hn (hs := [⟨3, .br true, none⟩, ⟨9, .row [(B x20)], none⟩, ⟨10, .no, some (B true)⟩, ⟨28, .sto [(B x20)] ((a16.set (Int.toNat v14) true).map o4), none⟩, ⟨32, .slen 6 (List.length ((a16.set (Int.toNat v14) true).map o4)), none⟩]) (π := [(1, 1), (2, 2)]) (ts := [0, 1, 6, 7, 8, 9]) (kp := []) (ps := [(decide (v18 ≤ p2)) = true, (0 : Int) ≤ v14, v14 < (((List.length (a16.map o4)) : Nat) : Int), (a16.map o4)[(Int.toNat v14)]? = some [(B x20)], (B x20) = (B true), (0 : Int) ≤ v14, v14 < (((List.length (a16.map o4)) : Nat) : Int), (a16.map o4)[(Int.toNat v14)]? = some [(B x20)], (a16.map o4).set (Int.toNat v14) (wr [(B x20)] 0 [(B true)]) = ((a16.set (Int.toNat v14) true).map o4), [(B true)].length = 1, 0 + [(B true)].length ≤ [(B x20)].length, (List.length (a16.map o4)) = (List.length ((a16.set (Int.toNat v14) true).map o4)), treeLL ((a16.set (Int.toNat v14) true).map o4) = true, treeLL (a17.map o3) = true]) (by kernel_rfl) ⟨c19, (rd0 hx20), (rdL o4 hx20), (rdM o4 hx20), (litB c21), (rd0 hx20), (rdL o4 hx20), (rdM o4 hx20), (setM o4), rfl, (Nat.le_of_ble_eq_true rfl), (by first | exact lnSet _ | exact lnSet2 _ | simp only [List.length_map, List.length_set, List.length_cons, List.length_nil]), (treeM t4), (treeM t3), trivial⟩ (ih (a16.set (Int.toNat v14) true) a17 (w64 (v18 + 1)) _ h)
      · obtain ⟨x23, hx23, h⟩ := bnS h
        rcases itS h with ⟨c24, h⟩ | ⟨c28, h⟩
        · obtain ⟨x25, hx25, h⟩ := bnS h
          obtain ⟨x26, hx26, h⟩ := bnS h
          obtain ⟨r27, hr27, h⟩ := bnS h
          exact go_to hΘ hm hx hP hn (hs := [⟨3, .br true, none⟩, ⟨9, .row [(B x20)], none⟩, ⟨10, .no, some (B false)⟩, ⟨14, .row [(B x23)], none⟩, ⟨15, .no, some (B true)⟩, ⟨18, .row (o81 x25), none⟩, ⟨22, .row (o81 x26), none⟩, ⟨24, .callV [] (B r27), none⟩, ⟨28, .sto [(B x20)] ((a16.set (Int.toNat v14) r27).map o4), none⟩, ⟨32, .slen 6 (List.length ((a16.set (Int.toNat v14) r27).map o4)), none⟩, ⟨32, .slen 47 (List.length ((a16.set (Int.toNat v14) r27).map o4)), none⟩]) (π := [(1, 1), (2, 2)]) (ts := [0, 1, 6, 7, 8, 9]) (kp := []) (ps := [(decide (v18 ≤ p2)) = true, (0 : Int) ≤ v14, v14 < (((List.length (a16.map o4)) : Nat) : Int), (a16.map o4)[(Int.toNat v14)]? = some [(B x20)], (B x20) = (B false), (0 : Int) ≤ v18, v18 < (((List.length (a16.map o4)) : Nat) : Int), (a16.map o4)[(Int.toNat v18)]? = some [(B x23)], (B x23) = (B true), (0 : Int) ≤ v14, (p1.map o81)[(Int.toNat v14)]? = some (o81 x25), (0 : Int) ≤ v18, (p1.map o81)[(Int.toNat v18)]? = some (o81 x26), Meets Try.prog 59 [(AV.agg ((o81 x25))), (AV.agg ((o81 x26)))] (B r27), litA (B r27) = true, (0 : Int) ≤ v14, v14 < (((List.length (a16.map o4)) : Nat) : Int), (a16.map o4)[(Int.toNat v14)]? = some [(B x20)], (a16.map o4).set (Int.toNat v14) (wr [(B x20)] 0 [(B r27)]) = ((a16.set (Int.toNat v14) r27).map o4), [(B r27)].length = 1, 0 + [(B r27)].length ≤ [(B x20)].length, (List.length (a16.map o4)) = (List.length ((a16.set (Int.toNat v14) r27).map o4)), (List.length (a16.map o4)) = (List.length ((a16.set (Int.toNat v14) r27).map o4)), treeLL ((a16.set (Int.toNat v14) r27).map o4) = true, treeLL (a17.map o3) = true]) (by kernel_rfl) ⟨c19, (rd0 hx20), (rdL o4 hx20), (rdM o4 hx20), (litB c22), (rd0 hx23), (rdL o4 hx23), (rdM o4 hx23), (litB c24), (rd0 hx25), (rdM o81 hx25), (rd0 hx26), (rdM o81 hx26), (spec_l9Hang_m hr27), rfl, (rd0 hx20), (rdL o4 hx20), (rdM o4 hx20), (setM o4), rfl, (Nat.le_of_ble_eq_true rfl), (by first | exact lnSet _ | exact lnSet2 _ | simp only [List.length_map, List.length_set, List.length_cons, List.length_nil]), (by first | exact lnSet _ | exact lnSet2 _ | simp only [List.length_map, List.length_set, List.length_cons, List.length_nil]), (treeM t4), (treeM t3), trivial⟩ (ih (a16.set (Int.toNat v14) r27) a17 (w64 (v18 + 1)) _ h)
        · exact go_to hΘ hm hx hP hn (hs := [⟨3, .br true, none⟩, ⟨9, .row [(B x20)], none⟩, ⟨10, .no, some (B false)⟩, ⟨14, .row [(B x23)], none⟩, ⟨15, .no, some (B false)⟩, ⟨28, .sto [(B x20)] ((a16.set (Int.toNat v14) false).map o4), none⟩, ⟨32, .slen 6 (List.length ((a16.set (Int.toNat v14) false).map o4)), none⟩, ⟨32, .slen 47 (List.length ((a16.set (Int.toNat v14) false).map o4)), none⟩]) (π := [(1, 1), (2, 2)]) (ts := [0, 1, 6, 7, 8, 9]) (kp := []) (ps := [(decide (v18 ≤ p2)) = true, (0 : Int) ≤ v14, v14 < (((List.length (a16.map o4)) : Nat) : Int), (a16.map o4)[(Int.toNat v14)]? = some [(B x20)], (B x20) = (B false), (0 : Int) ≤ v18, v18 < (((List.length (a16.map o4)) : Nat) : Int), (a16.map o4)[(Int.toNat v18)]? = some [(B x23)], (B x23) = (B false), (0 : Int) ≤ v14, v14 < (((List.length (a16.map o4)) : Nat) : Int), (a16.map o4)[(Int.toNat v14)]? = some [(B x20)], (a16.map o4).set (Int.toNat v14) (wr [(B x20)] 0 [(B false)]) = ((a16.set (Int.toNat v14) false).map o4), [(B false)].length = 1, 0 + [(B false)].length ≤ [(B x20)].length, (List.length (a16.map o4)) = (List.length ((a16.set (Int.toNat v14) false).map o4)), (List.length (a16.map o4)) = (List.length ((a16.set (Int.toNat v14) false).map o4)), treeLL ((a16.set (Int.toNat v14) false).map o4) = true, treeLL (a17.map o3) = true]) (by kernel_rfl) ⟨c19, (rd0 hx20), (rdL o4 hx20), (rdM o4 hx20), (litB c22), (rd0 hx23), (rdL o4 hx23), (rdM o4 hx23), (litB c28), (rd0 hx20), (rdL o4 hx20), (rdM o4 hx20), (setM o4), rfl, (Nat.le_of_ble_eq_true rfl), (by first | exact lnSet _ | exact lnSet2 _ | simp only [List.length_map, List.length_set, List.length_cons, List.length_nil]), (by first | exact lnSet _ | exact lnSet2 _ | simp only [List.length_map, List.length_set, List.length_cons, List.length_nil]), (treeM t4), (treeM t3), trivial⟩ (ih (a16.set (Int.toNat v14) false) a17 (w64 (v18 + 1)) _ h)
    · obtain ⟨x30, hx30, h⟩ := bnS h
      rcases itS h with ⟨c31, h⟩ | ⟨c34, h⟩
      · obtain ⟨x32, hx32, h⟩ := bnS h
        obtain ⟨x33, hx33, h⟩ := bnS h
        exact go_to hΘ hm hx hP hn (hs := [⟨3, .br false, none⟩, ⟨7, .row [(B x30)], none⟩, ⟨8, .br true, none⟩, ⟨12, .row (o81 x32), none⟩, ⟨16, .row [(I x33)], none⟩, ⟨19, .sto [(I x33)] ((a17.set (Int.toNat x32.Thread) (w64 (x33 + 1))).map o3), none⟩, ⟨23, .slen 7 (List.length ((a17.set (Int.toNat x32.Thread) (w64 (x33 + 1))).map o3)), none⟩]) (π := [(1, 1), (2, 2)]) (ts := [0, 1, 6, 7, 8]) (kp := []) (ps := [(decide (v18 ≤ p2)) = false, (0 : Int) ≤ v14, v14 < (((List.length (a16.map o4)) : Nat) : Int), (a16.map o4)[(Int.toNat v14)]? = some [(B x30)], x30 = true, (0 : Int) ≤ v14, (p1.map o81)[(Int.toNat v14)]? = some (o81 x32), (0 : Int) ≤ x32.Thread, x32.Thread < (((List.length (a17.map o3)) : Nat) : Int), (a17.map o3)[(Int.toNat x32.Thread)]? = some [(I x33)], (0 : Int) ≤ x32.Thread, x32.Thread < (((List.length (a17.map o3)) : Nat) : Int), (a17.map o3)[(Int.toNat x32.Thread)]? = some [(I x33)], (a17.map o3).set (Int.toNat x32.Thread) (wr [(I x33)] 0 [(I (w64 (x33 + 1)))]) = ((a17.set (Int.toNat x32.Thread) (w64 (x33 + 1))).map o3), [(I (w64 (x33 + 1)))].length = 1, 0 + [(I (w64 (x33 + 1)))].length ≤ [(I x33)].length, (List.length (a17.map o3)) = (List.length ((a17.set (Int.toNat x32.Thread) (w64 (x33 + 1))).map o3)), treeLL (a16.map o4) = true, treeLL ((a17.set (Int.toNat x32.Thread) (w64 (x33 + 1))).map o3) = true]) (by kernel_rfl) ⟨c29, (rd0 hx30), (rdL o4 hx30), (rdM o4 hx30), c31, (rd0 hx32), (rdM o81 hx32), (rd0 hx33), (rdL o3 hx33), (rdM o3 hx33), (rd0 hx33), (rdL o3 hx33), (rdM o3 hx33), (setM o3), rfl, (Nat.le_of_ble_eq_true rfl), (by first | exact lnSet _ | exact lnSet2 _ | simp only [List.length_map, List.length_set, List.length_cons, List.length_nil]), (treeM t4), (treeM t3), trivial⟩ (hK0 a16 (a17.set (Int.toNat x32.Thread) (w64 (x33 + 1))) (w64 (v14 - 1)) _ h)
      · exact go_to hΘ hm hx hP hn (hs := [⟨3, .br false, none⟩, ⟨7, .row [(B x30)], none⟩, ⟨8, .br false, none⟩]) (π := [(1, 1), (2, 2)]) (ts := [0, 1, 6, 7, 8]) (kp := []) (ps := [(decide (v18 ≤ p2)) = false, (0 : Int) ≤ v14, v14 < (((List.length (a16.map o4)) : Nat) : Int), (a16.map o4)[(Int.toNat v14)]? = some [(B x30)], x30 = false, treeLL (a16.map o4) = true, treeLL (a17.map o3) = true]) (by kernel_rfl) ⟨c29, (rd0 hx30), (rdL o4 hx30), (rdM o4 hx30), c34, (treeM t4), (treeM t3), trivial⟩ (hK0 a16 a17 (w64 (v14 - 1)) _ h)
noncomputable def spec_CutAround_l0  (p1 : (List GEvent)) (p2 : Int) : Nat → (List Bool) → (List Int) → Int → Option ((List Int) × Bool)
  | 0, _, _, _ => none
  | n + 1, a12, a13, v14 =>
  if (decide (v14 ≥ 0)) = true then
    spec_CutAround_l1 (spec_CutAround_l0 p1 p2 n) p1 p2 v14 FU a12 a13 (w64 (v14 + 1))
  else
    some (a13, true)
theorem spec_CutAround_l0_m {E : Env} (hP : E.P = Try.prog) (hn : E.n = 79) (hx : ∀ p, p ∈ E.fx → p.1 ∈ ([] : List Nat)) (p1 : (List GEvent)) (p2 : Int)  : ∀ (n : Nat) (a12 : (List Bool)) (a13 : (List Int)) (v14 : Int) (r : ((List Int) × Bool)), spec_CutAround_l0 p1 p2 n a12 a13 v14 = some r → WAt E body28 (FQ (RetE Θ Try.f28.results.toList [] [] (AV.tup [(AV.own 3 1 (r.1.map o3)), (B r.2)]) E)) [true, true, true, true, true, false, true, false] ⟨[(0, (AV.ro 5 (p1.map o81))), (1, (I p2)), (6, (AV.sl 1 0 (List.length (a12.map o4)))), (7, (AV.sl 2 0 (List.length (a13.map o3)))), (8, (I v14))], [(1, some ⟨4, 1, (a12.map o4)⟩), (2, some ⟨3, 1, (a13.map o3)⟩)], [1, 2, JJ]⟩ := by
  have hm : E.P.follows .mixedOrders = true := by rw [hP]; exact mixed
  have hΘ : TOK E.P Θ := by rw [hP]; exact Θ_ok
  intro n
  induction n with
  | zero => intro a12 a13 v14 r h; simp only [spec_CutAround_l0] at h; cases h
  | succ n ih =>
    intro a12 a13 v14 r h
    simp only [spec_CutAround_l0] at h
    rcases itS h with ⟨c15, h⟩ | ⟨c35, h⟩
    · exact go_to hΘ hm hx hP hn (hs := [⟨2, .br true, none⟩]) (π := [(1, 1), (2, 2)]) (ts := [0, 1, 6, 7, 8, 9]) (kp := []) (ps := [(decide (v14 ≥ 0)) = true, treeLL (a12.map o4) = true, treeLL (a13.map o3) = true]) (by kernel_rfl) ⟨c15, (treeM t4), (treeM t3), trivial⟩ (spec_CutAround_l1_m hP hn hx p1 p2 v14 ih FU a12 a13 (w64 (v14 + 1)) _ h)
    · have h := Option.some.inj h
      subst h
      exact go_ret hΘ hm hP hn (hs := [⟨2, .br false, none⟩]) (rh := []) (ph := .agg [.own, .raw]) (ps := [(decide (v14 ≥ 0)) = false, treeLL ((a13.map o3).take (List.length (a13.map o3))) = true, (a13.map o3).take (List.length (a13.map o3)) = (a13.map o3), noRoLL (a13.map o3) = true, (B true) = (B true), litA (B true) = true]) (by kernel_rfl) ⟨c35, (treeT t3), takeM, (noRoM n3), rfl, rfl, trivial⟩
noncomputable def spec_CutAround (p1 : (List GEvent)) (p2 : Int) : Option ((List Int) × Bool) :=
  Option.bind (spec_l6Trace p1) fun r3 =>
  if (!r3) = true then
    some ([], false)
  else
    Option.bind (spec_l1In p2 0 (w64 ((p1.length : Int) - 1))) fun r6 =>
    if (!r6) = true then
      some ([], false)
    else
      Option.bind (mk false (w64 (p2 + 1))) fun l9 =>
      Option.bind (rd l9 p2) fun x10 =>
      Option.bind (mk 0 5) fun l11 =>
      spec_CutAround_l0 p1 p2 FU (l9.set (Int.toNat p2) true) l11 p2
theorem spec_CutAround_m {p1 : (List GEvent)} {p2 : Int} {r : ((List Int) × Bool)} (h : spec_CutAround p1 p2 = some r) : Meets Try.prog 28 [(AV.ro 5 (p1.map o81)), (I p2)] (AV.tup [(AV.own 3 1 (r.1.map o3)), (B r.2)]) := by
  refine meets_ofC Θ_ok Try.func28 rfl (c := body28) (by kernel_rfl) (Nat.le_of_ble_eq_true rfl) ?_
  intro E hP hn hx
  replace hn : E.n = 79 := hn
  have hm : E.P.follows .mixedOrders = true := by rw [hP]; exact mixed
  have hΘ : TOK E.P Θ := by rw [hP]; exact Θ_ok
  unfold spec_CutAround at h
  show WAt E body28 (FQ (RetE Θ Try.f28.results.toList [] [] (AV.tup [(AV.own 3 1 (r.1.map o3)), (B r.2)]) E)) [] ⟨[(0, (AV.ro 5 (p1.map o81))), (1, (I p2))], [], [JJ]⟩
  obtain ⟨r3, hr3, h⟩ := bnS h
  rcases itS h with ⟨c4, h⟩ | ⟨c5, h⟩
  · have h := Option.some.inj h
    subst h
    exact go_ret hΘ hm hP hn (hs := [⟨3, .callV [] (B r3), none⟩, ⟨5, .no, some (B true)⟩]) (rh := []) (ph := .agg [.own, .raw]) (ps := [Meets Try.prog 49 [(AV.ro 5 (p1.map o81))] (B r3), litA (B r3) = true, (B (!r3)) = (B true), (B false) = (B false), litA (B false) = true]) (by kernel_rfl) ⟨(spec_l6Trace_m hr3), rfl, (litB c4), rfl, rfl, trivial⟩
  · obtain ⟨r6, hr6, h⟩ := bnS h
    rcases itS h with ⟨c7, h⟩ | ⟨c8, h⟩
    · have h := Option.some.inj h
      subst h
      exact go_ret hΘ hm hP hn (hs := [⟨3, .callV [] (B r3), none⟩, ⟨5, .no, some (B false)⟩, ⟨8, .no, some (I (p1.length : Int))⟩, ⟨10, .callV [] (B r6), none⟩, ⟨13, .br true, none⟩]) (rh := []) (ph := .agg [.own, .raw]) (ps := [Meets Try.prog 49 [(AV.ro 5 (p1.map o81))] (B r3), litA (B r3) = true, (B (!r3)) = (B false), AV.lit (.int .i64 (((p1.map o81).length : Nat) : Int)) = (I (p1.length : Int)), Meets Try.prog 50 [(I p2), (I 0), (I (w64 ((p1.length : Int) - 1)))] (B r6), litA (B r6) = true, (!r6) = true, (B false) = (B false), litA (B false) = true]) (by kernel_rfl) ⟨(spec_l6Trace_m hr3), rfl, (litB c5), (lenM o81), (spec_l1In_m hr6), rfl, c7, rfl, rfl, trivial⟩
    · obtain ⟨l9, hl9, h⟩ := bnS h
      obtain ⟨x10, hx10, h⟩ := bnS h
      obtain ⟨l11, hl11, h⟩ := bnS h
      exact go_to hΘ hm hx hP hn (hs := [⟨3, .callV [] (B r3), none⟩, ⟨5, .no, some (B false)⟩, ⟨8, .no, some (I (p1.length : Int))⟩, ⟨10, .callV [] (B r6), none⟩, ⟨13, .br false, none⟩, ⟨16, .nw 1001 (l9.map o4), some (AV.sl 1001 0 (List.length (l9.map o4)))⟩, ⟨21, .sto [(B x10)] ((l9.set (Int.toNat p2) true).map o4), none⟩, ⟨22, .nw 1002 (l11.map o3), some (AV.sl 1002 0 (List.length (l11.map o3)))⟩, ⟨26, .slen 6 (List.length ((l9.set (Int.toNat p2) true).map o4)), none⟩]) (π := [(1001, 1), (1002, 2)]) (ts := [0, 1, 6, 7, 8]) (kp := []) (ps := [Meets Try.prog 49 [(AV.ro 5 (p1.map o81))] (B r3), litA (B r3) = true, (B (!r3)) = (B false), AV.lit (.int .i64 (((p1.map o81).length : Nat) : Int)) = (I (p1.length : Int)), Meets Try.prog 50 [(I p2), (I 0), (I (w64 ((p1.length : Int) - 1)))] (B r6), litA (B r6) = true, (!r6) = false, List.replicate (Int.toNat (w64 (p2 + 1))) [.lit (.bool false)] = (l9.map o4), AV.sl 1001 0 (Int.toNat (w64 (p2 + 1))) = (AV.sl 1001 0 (List.length (l9.map o4))), (w64 (p2 + 1)) = (w64 (p2 + 1)), (0 : Int) ≤ (w64 (p2 + 1)), (w64 (p2 + 1)) * ((1 : Nat) : Int) ≤ 140737488355328, (w64 (p2 + 1)) ≤ 140737488355328, (0 : Int) ≤ p2, p2 < (((List.length (l9.map o4)) : Nat) : Int), (l9.map o4)[(Int.toNat p2)]? = some [(B x10)], (l9.map o4).set (Int.toNat p2) (wr [(B x10)] 0 [(B true)]) = ((l9.set (Int.toNat p2) true).map o4), [(B true)].length = 1, 0 + [(B true)].length ≤ [(B x10)].length, List.replicate (Int.toNat 5) [.lit (.int .i64 0)] = (l11.map o3), AV.sl 1002 0 (Int.toNat 5) = (AV.sl 1002 0 (List.length (l11.map o3))), (5 : Int) = (5 : Int), (0 : Int) ≤ (5 : Int), (5 : Int) * ((8 : Nat) : Int) ≤ 140737488355328, (5 : Int) ≤ 140737488355328, (List.length (l9.map o4)) = (List.length ((l9.set (Int.toNat p2) true).map o4)), treeLL ((l9.set (Int.toNat p2) true).map o4) = true, treeLL (l11.map o3) = true]) (by kernel_rfl) ⟨(spec_l6Trace_m hr3), rfl, (litB c5), (lenM o81), (spec_l1In_m hr6), rfl, c8, (mkM o4 hl9), (mkS o4 hl9), rfl, (mk0 hl9), (mkB hl9 (by decide)), (mkC hl9), (rd0 hx10), (rdL o4 hx10), (rdM o4 hx10), (setM o4), rfl, (Nat.le_of_ble_eq_true rfl), (mkM o3 hl11), (mkS o3 hl11), rfl, (mk0 hl11), (mkB hl11 (by decide)), (mkC hl11), (by first | exact lnSet _ | exact lnSet2 _ | simp only [List.length_map, List.length_set, List.length_cons, List.length_nil]), (treeM t4), (treeM t3), trivial⟩ (spec_CutAround_l0_m hP hn hx p1 p2 FU (l9.set (Int.toNat p2) true) l11 p2 _ h)
noncomputable def body6 : Code := match Try.f6.body with | some c => c | none => .skip
noncomputable def laws_FnExactCutAround_j2  (r28 : (Int × (List Int)))  : Option Bool :=
  Option.bind (laws_heldIntS r28.2 1) fun r42 =>
  if (decide (r42 < 0)) = true then
    some false
  else
    if (r42 != r28.1) = true then
      some false
    else
      some true
theorem laws_FnExactCutAround_j2_m {E : Env} (hP : E.P = Try.prog) (hn : E.n = 101) (hx : ∀ p, p ∈ E.fx → p.1 ∈ ([] : List Nat)) (r28 : (Int × (List Int)))   (r : Bool) (h : laws_FnExactCutAround_j2 r28  = some r) : WAt E body6 (FQ (RetE Θ Try.f6.results.toList [] [] (B r) E)) [true, true, true, true, true, true, true, true, true, true, true, true, true, true, true, true, true, true, true, false, true, true] ⟨[(9, (AV.sl 1 0 (List.length (r28.2.map o3)))), (12, (I r28.1))], [(1, some ⟨3, 1, (r28.2.map o3)⟩)], [1, JJ]⟩ := by
  have hm : E.P.follows .mixedOrders = true := by rw [hP]; exact mixed
  have hΘ : TOK E.P Θ := by rw [hP]; exact Θ_ok
  unfold laws_FnExactCutAround_j2 at h
  obtain ⟨r42, hr42, h⟩ := bnS h
  rcases itS h with ⟨c43, h⟩ | ⟨c44, h⟩
  · have h := Option.some.inj h
    subst h
    exact go_ret hΘ hm hP hn (hs := [⟨3, .callV [(r28.2.map o3)] (I r42), none⟩, ⟨7, .br true, none⟩]) (rh := []) (ph := .raw) (ps := [Meets Try.prog 24 [(AV.ro 1 (r28.2.map o3)), (I 1)] (I r42), litA (I r42) = true, Frz (((r28.2.map o3).drop 0).take (List.length (r28.2.map o3))) (r28.2.map o3), (decide (r42 < 0)) = true, (B false) = (B false), litA (B false) = true]) (by kernel_rfl) ⟨(laws_heldIntS_m hr42), rfl, (frzF t3 z3), c43, rfl, rfl, trivial⟩
  · rcases itS h with ⟨c45, h⟩ | ⟨c46, h⟩
    · have h := Option.some.inj h
      subst h
      exact go_ret hΘ hm hP hn (hs := [⟨3, .callV [(r28.2.map o3)] (I r42), none⟩, ⟨7, .br false, none⟩, ⟨11, .br true, none⟩]) (rh := []) (ph := .raw) (ps := [Meets Try.prog 24 [(AV.ro 1 (r28.2.map o3)), (I 1)] (I r42), litA (I r42) = true, Frz (((r28.2.map o3).drop 0).take (List.length (r28.2.map o3))) (r28.2.map o3), (decide (r42 < 0)) = false, (r42 != r28.1) = true, (B false) = (B false), litA (B false) = true]) (by kernel_rfl) ⟨(laws_heldIntS_m hr42), rfl, (frzF t3 z3), c44, c45, rfl, rfl, trivial⟩
    · have h := Option.some.inj h
      subst h
      exact go_ret hΘ hm hP hn (hs := [⟨3, .callV [(r28.2.map o3)] (I r42), none⟩, ⟨7, .br false, none⟩, ⟨11, .br false, none⟩]) (rh := []) (ph := .raw) (ps := [Meets Try.prog 24 [(AV.ro 1 (r28.2.map o3)), (I 1)] (I r42), litA (I r42) = true, Frz (((r28.2.map o3).drop 0).take (List.length (r28.2.map o3))) (r28.2.map o3), (decide (r42 < 0)) = false, (r42 != r28.1) = false, (B true) = (B true), litA (B true) = true]) (by kernel_rfl) ⟨(laws_heldIntS_m hr42), rfl, (frzF t3 z3), c44, c46, rfl, rfl, trivial⟩
noncomputable def laws_FnExactCutAround_j1  (p1 : (List GEvent)) (p2 : Int) (r7 : ((List Int) × Bool)) (r9 : ((List Int) × Bool))  : Option Bool :=
  Option.bind (laws_markIntS r9.1 1) fun r28 =>
  Option.bind (sameLen r9.1 r28.2) fun q29 =>
  Option.bind (laws_heldIntS r28.2 1) fun r30 =>
  if (decide (r30 < 0)) = true then
    some false
  else
    if (r30 != r28.1) = true then
      some false
    else
      Option.bind (laws_toEventS p1) fun r35 =>
      Option.bind (impl_CutAround r35 p2) fun r36 =>
      Option.bind (laws_eqIntS r36.1 r7.1) fun r37 =>
      if (!r37) = true then
        some false
      else
        if (!(r36.2 == r7.2)) = true then
          some false
        else
          laws_FnExactCutAround_j2 r28
theorem laws_FnExactCutAround_j1_m {E : Env} (hP : E.P = Try.prog) (hn : E.n = 101) (hx : ∀ p, p ∈ E.fx → p.1 ∈ ([] : List Nat)) (p1 : (List GEvent)) (p2 : Int) (r7 : ((List Int) × Bool)) (r9 : ((List Int) × Bool))   (r : Bool) (h : laws_FnExactCutAround_j1 p1 p2 r7 r9  = some r) : WAt E body6 (FQ (RetE Θ Try.f6.results.toList [] [] (B r) E)) [true, true, true, true, true, true, true, true, true, true, true, false, true, true] ⟨[(0, (AV.ro 5 (p1.map o83))), (1, (I p2)), (6, (AV.sl 1 0 (List.length (r7.1.map o3)))), (7, (B r7.2)), (9, (AV.sl 2 0 (List.length (r9.1.map o3))))], [(1, some ⟨3, 1, (r7.1.map o3)⟩), (2, some ⟨3, 1, (r9.1.map o3)⟩)], [1, 2, JJ]⟩ := by
  have hm : E.P.follows .mixedOrders = true := by rw [hP]; exact mixed
  have hΘ : TOK E.P Θ := by rw [hP]; exact Θ_ok
  unfold laws_FnExactCutAround_j1 at h
  obtain ⟨r28, hr28, h⟩ := bnS h
  obtain ⟨q29, hq29, h⟩ := bnS h
  obtain ⟨r30, hr30, h⟩ := bnS h
  rcases itS h with ⟨c31, h⟩ | ⟨c32, h⟩
  · have h := Option.some.inj h
    subst h
    exact go_ret hΘ hm hP hn (hs := [⟨3, .callX [2] [true] [⟨3, 1, (r9.1.map o3)⟩] [⟨3, 1, (r28.2.map o3)⟩] [] (I r28.1) [] (I r28.1) [], none⟩, ⟨6, .slen 9 (List.length (r28.2.map o3)), none⟩, ⟨8, .callV [(r28.2.map o3)] (I r30), none⟩, ⟨12, .br true, none⟩]) (rh := []) (ph := .raw) (ps := [MeetsR Try.prog 23 [⟨3, 1, (r9.1.map o3)⟩] [(AV.sl 0 0 (List.length (r9.1.map o3))), (I 1)] [true] [⟨3, 1, (r28.2.map o3)⟩] (I r28.1), (some (Root.mk 3 1 (r9.1.map o3)) = some (Root.mk 3 1 (r9.1.map o3))) ∧ True, (treeLL (r9.1.map o3) = true ∧ noRoLL (r9.1.map o3) = true) ∧ True, ((r28.2.map o3).length = (r9.1.map o3).length) ∧ True, (rtf (renA [(0, 2)] (I r28.1)) []).1 = (I r28.1), (rtf (renA [(0, 2)] (I r28.1)) []).2.1 = [], (List.length (r9.1.map o3)) = (List.length (r28.2.map o3)), Meets Try.prog 24 [(AV.ro 1 (r28.2.map o3)), (I 1)] (I r30), litA (I r30) = true, Frz (((r28.2.map o3).drop 0).take (List.length (r28.2.map o3))) (r28.2.map o3), (decide (r30 < 0)) = true, (B false) = (B false), litA (B false) = true]) (by kernel_rfl) ⟨(laws_markIntS_m hr28), ⟨rfl, trivial⟩, ⟨⟨treeM t3, noRoM n3⟩, trivial⟩, ⟨(sameLenE o3 hq29), trivial⟩, rfl, rfl, (sameLenE o3 hq29).symm, (laws_heldIntS_m hr30), rfl, (frzF t3 z3), c31, rfl, rfl, trivial⟩
  · rcases itS h with ⟨c33, h⟩ | ⟨c34, h⟩
    · have h := Option.some.inj h
      subst h
      exact go_ret hΘ hm hP hn (hs := [⟨3, .callX [2] [true] [⟨3, 1, (r9.1.map o3)⟩] [⟨3, 1, (r28.2.map o3)⟩] [] (I r28.1) [] (I r28.1) [], none⟩, ⟨6, .slen 9 (List.length (r28.2.map o3)), none⟩, ⟨8, .callV [(r28.2.map o3)] (I r30), none⟩, ⟨12, .br false, none⟩, ⟨16, .br true, none⟩]) (rh := []) (ph := .raw) (ps := [MeetsR Try.prog 23 [⟨3, 1, (r9.1.map o3)⟩] [(AV.sl 0 0 (List.length (r9.1.map o3))), (I 1)] [true] [⟨3, 1, (r28.2.map o3)⟩] (I r28.1), (some (Root.mk 3 1 (r9.1.map o3)) = some (Root.mk 3 1 (r9.1.map o3))) ∧ True, (treeLL (r9.1.map o3) = true ∧ noRoLL (r9.1.map o3) = true) ∧ True, ((r28.2.map o3).length = (r9.1.map o3).length) ∧ True, (rtf (renA [(0, 2)] (I r28.1)) []).1 = (I r28.1), (rtf (renA [(0, 2)] (I r28.1)) []).2.1 = [], (List.length (r9.1.map o3)) = (List.length (r28.2.map o3)), Meets Try.prog 24 [(AV.ro 1 (r28.2.map o3)), (I 1)] (I r30), litA (I r30) = true, Frz (((r28.2.map o3).drop 0).take (List.length (r28.2.map o3))) (r28.2.map o3), (decide (r30 < 0)) = false, (r30 != r28.1) = true, (B false) = (B false), litA (B false) = true]) (by kernel_rfl) ⟨(laws_markIntS_m hr28), ⟨rfl, trivial⟩, ⟨⟨treeM t3, noRoM n3⟩, trivial⟩, ⟨(sameLenE o3 hq29), trivial⟩, rfl, rfl, (sameLenE o3 hq29).symm, (laws_heldIntS_m hr30), rfl, (frzF t3 z3), c32, c33, rfl, rfl, trivial⟩
    · obtain ⟨r35, hr35, h⟩ := bnS h
      obtain ⟨r36, hr36, h⟩ := bnS h
      obtain ⟨r37, hr37, h⟩ := bnS h
      rcases itS h with ⟨c38, h⟩ | ⟨c39, h⟩
      · have h := Option.some.inj h
        subst h
        exact go_ret hΘ hm hP hn (hs := [⟨3, .callX [2] [true] [⟨3, 1, (r9.1.map o3)⟩] [⟨3, 1, (r28.2.map o3)⟩] [] (I r28.1) [] (I r28.1) [], none⟩, ⟨6, .slen 9 (List.length (r28.2.map o3)), none⟩, ⟨8, .callV [(r28.2.map o3)] (I r30), none⟩, ⟨12, .br false, none⟩, ⟨16, .br false, none⟩, ⟨18, .call [] (AV.own 81 5 (r35.map o81)) [1001], none⟩, ⟨20, .call [(r35.map o81)] (AV.tup [(AV.own 3 1 (r36.1.map o3)), (B r36.2)]) [1002], none⟩, ⟨28, .callV [(r36.1.map o3), (r7.1.map o3)] (B r37), none⟩, ⟨30, .no, some (B true)⟩]) (rh := []) (ph := .raw) (ps := [MeetsR Try.prog 23 [⟨3, 1, (r9.1.map o3)⟩] [(AV.sl 0 0 (List.length (r9.1.map o3))), (I 1)] [true] [⟨3, 1, (r28.2.map o3)⟩] (I r28.1), (some (Root.mk 3 1 (r9.1.map o3)) = some (Root.mk 3 1 (r9.1.map o3))) ∧ True, (treeLL (r9.1.map o3) = true ∧ noRoLL (r9.1.map o3) = true) ∧ True, ((r28.2.map o3).length = (r9.1.map o3).length) ∧ True, (rtf (renA [(0, 2)] (I r28.1)) []).1 = (I r28.1), (rtf (renA [(0, 2)] (I r28.1)) []).2.1 = [], (List.length (r9.1.map o3)) = (List.length (r28.2.map o3)), Meets Try.prog 24 [(AV.ro 1 (r28.2.map o3)), (I 1)] (I r30), litA (I r30) = true, Frz (((r28.2.map o3).drop 0).take (List.length (r28.2.map o3))) (r28.2.map o3), (decide (r30 < 0)) = false, (r30 != r28.1) = false, Meets Try.prog 18 [(AV.ro 5 (p1.map o83))] (AV.own 81 5 (r35.map o81)), noRo (AV.own 81 5 (r35.map o81)) = true, Meets Try.prog 29 [(AV.ro 5 (r35.map o81)), (I p2)] (AV.tup [(AV.own 3 1 (r36.1.map o3)), (B r36.2)]), noRo (AV.tup [(AV.own 3 1 (r36.1.map o3)), (B r36.2)]) = true, Frz (((r35.map o81).drop 0).take (List.length (r35.map o81))) (r35.map o81), Meets Try.prog 20 [(AV.ro 1 (r36.1.map o3)), (AV.ro 1 (r7.1.map o3))] (B r37), litA (B r37) = true, Frz (((r36.1.map o3).drop 0).take (List.length (r36.1.map o3))) (r36.1.map o3), Frz (((r7.1.map o3).drop 0).take (List.length (r7.1.map o3))) (r7.1.map o3), (B (!r37)) = (B true), (B false) = (B false), litA (B false) = true]) (by kernel_rfl) ⟨(laws_markIntS_m hr28), ⟨rfl, trivial⟩, ⟨⟨treeM t3, noRoM n3⟩, trivial⟩, ⟨(sameLenE o3 hq29), trivial⟩, rfl, rfl, (sameLenE o3 hq29).symm, (laws_heldIntS_m hr30), rfl, (frzF t3 z3), c32, c34, (laws_toEventS_m hr35), (by simp only [noRo, noRoL, noRoM n81, Bool.and_self]), (impl_CutAround_m hr36), (by simp only [noRo, noRoL, noRoM n3, Bool.and_self]), (frzF t81 z81), (laws_eqIntS_m hr37), rfl, (frzF t3 z3), (frzF t3 z3), (litB c38), rfl, rfl, trivial⟩
      · rcases itS h with ⟨c40, h⟩ | ⟨c41, h⟩
        · have h := Option.some.inj h
          subst h
          exact go_ret hΘ hm hP hn (hs := [⟨3, .callX [2] [true] [⟨3, 1, (r9.1.map o3)⟩] [⟨3, 1, (r28.2.map o3)⟩] [] (I r28.1) [] (I r28.1) [], none⟩, ⟨6, .slen 9 (List.length (r28.2.map o3)), none⟩, ⟨8, .callV [(r28.2.map o3)] (I r30), none⟩, ⟨12, .br false, none⟩, ⟨16, .br false, none⟩, ⟨18, .call [] (AV.own 81 5 (r35.map o81)) [1001], none⟩, ⟨20, .call [(r35.map o81)] (AV.tup [(AV.own 3 1 (r36.1.map o3)), (B r36.2)]) [1002], none⟩, ⟨28, .callV [(r36.1.map o3), (r7.1.map o3)] (B r37), none⟩, ⟨30, .no, some (B false)⟩, ⟨35, .br true, none⟩]) (rh := []) (ph := .raw) (ps := [MeetsR Try.prog 23 [⟨3, 1, (r9.1.map o3)⟩] [(AV.sl 0 0 (List.length (r9.1.map o3))), (I 1)] [true] [⟨3, 1, (r28.2.map o3)⟩] (I r28.1), (some (Root.mk 3 1 (r9.1.map o3)) = some (Root.mk 3 1 (r9.1.map o3))) ∧ True, (treeLL (r9.1.map o3) = true ∧ noRoLL (r9.1.map o3) = true) ∧ True, ((r28.2.map o3).length = (r9.1.map o3).length) ∧ True, (rtf (renA [(0, 2)] (I r28.1)) []).1 = (I r28.1), (rtf (renA [(0, 2)] (I r28.1)) []).2.1 = [], (List.length (r9.1.map o3)) = (List.length (r28.2.map o3)), Meets Try.prog 24 [(AV.ro 1 (r28.2.map o3)), (I 1)] (I r30), litA (I r30) = true, Frz (((r28.2.map o3).drop 0).take (List.length (r28.2.map o3))) (r28.2.map o3), (decide (r30 < 0)) = false, (r30 != r28.1) = false, Meets Try.prog 18 [(AV.ro 5 (p1.map o83))] (AV.own 81 5 (r35.map o81)), noRo (AV.own 81 5 (r35.map o81)) = true, Meets Try.prog 29 [(AV.ro 5 (r35.map o81)), (I p2)] (AV.tup [(AV.own 3 1 (r36.1.map o3)), (B r36.2)]), noRo (AV.tup [(AV.own 3 1 (r36.1.map o3)), (B r36.2)]) = true, Frz (((r35.map o81).drop 0).take (List.length (r35.map o81))) (r35.map o81), Meets Try.prog 20 [(AV.ro 1 (r36.1.map o3)), (AV.ro 1 (r7.1.map o3))] (B r37), litA (B r37) = true, Frz (((r36.1.map o3).drop 0).take (List.length (r36.1.map o3))) (r36.1.map o3), Frz (((r7.1.map o3).drop 0).take (List.length (r7.1.map o3))) (r7.1.map o3), (B (!r37)) = (B false), (!(r36.2 == r7.2)) = true, (B false) = (B false), litA (B false) = true]) (by kernel_rfl) ⟨(laws_markIntS_m hr28), ⟨rfl, trivial⟩, ⟨⟨treeM t3, noRoM n3⟩, trivial⟩, ⟨(sameLenE o3 hq29), trivial⟩, rfl, rfl, (sameLenE o3 hq29).symm, (laws_heldIntS_m hr30), rfl, (frzF t3 z3), c32, c34, (laws_toEventS_m hr35), (by simp only [noRo, noRoL, noRoM n81, Bool.and_self]), (impl_CutAround_m hr36), (by simp only [noRo, noRoL, noRoM n3, Bool.and_self]), (frzF t81 z81), (laws_eqIntS_m hr37), rfl, (frzF t3 z3), (frzF t3 z3), (litB c39), c40, rfl, rfl, trivial⟩
        · exact go_to hΘ hm hx hP hn (hs := [⟨3, .callX [2] [true] [⟨3, 1, (r9.1.map o3)⟩] [⟨3, 1, (r28.2.map o3)⟩] [] (I r28.1) [] (I r28.1) [], none⟩, ⟨6, .slen 9 (List.length (r28.2.map o3)), none⟩, ⟨8, .callV [(r28.2.map o3)] (I r30), none⟩, ⟨12, .br false, none⟩, ⟨16, .br false, none⟩, ⟨18, .call [] (AV.own 81 5 (r35.map o81)) [1001], none⟩, ⟨20, .call [(r35.map o81)] (AV.tup [(AV.own 3 1 (r36.1.map o3)), (B r36.2)]) [1002], none⟩, ⟨28, .callV [(r36.1.map o3), (r7.1.map o3)] (B r37), none⟩, ⟨30, .no, some (B false)⟩, ⟨35, .br false, none⟩]) (π := [(2, 1)]) (ts := [9, 12]) (kp := []) (ps := [MeetsR Try.prog 23 [⟨3, 1, (r9.1.map o3)⟩] [(AV.sl 0 0 (List.length (r9.1.map o3))), (I 1)] [true] [⟨3, 1, (r28.2.map o3)⟩] (I r28.1), (some (Root.mk 3 1 (r9.1.map o3)) = some (Root.mk 3 1 (r9.1.map o3))) ∧ True, (treeLL (r9.1.map o3) = true ∧ noRoLL (r9.1.map o3) = true) ∧ True, ((r28.2.map o3).length = (r9.1.map o3).length) ∧ True, (rtf (renA [(0, 2)] (I r28.1)) []).1 = (I r28.1), (rtf (renA [(0, 2)] (I r28.1)) []).2.1 = [], (List.length (r9.1.map o3)) = (List.length (r28.2.map o3)), Meets Try.prog 24 [(AV.ro 1 (r28.2.map o3)), (I 1)] (I r30), litA (I r30) = true, Frz (((r28.2.map o3).drop 0).take (List.length (r28.2.map o3))) (r28.2.map o3), (decide (r30 < 0)) = false, (r30 != r28.1) = false, Meets Try.prog 18 [(AV.ro 5 (p1.map o83))] (AV.own 81 5 (r35.map o81)), noRo (AV.own 81 5 (r35.map o81)) = true, Meets Try.prog 29 [(AV.ro 5 (r35.map o81)), (I p2)] (AV.tup [(AV.own 3 1 (r36.1.map o3)), (B r36.2)]), noRo (AV.tup [(AV.own 3 1 (r36.1.map o3)), (B r36.2)]) = true, Frz (((r35.map o81).drop 0).take (List.length (r35.map o81))) (r35.map o81), Meets Try.prog 20 [(AV.ro 1 (r36.1.map o3)), (AV.ro 1 (r7.1.map o3))] (B r37), litA (B r37) = true, Frz (((r36.1.map o3).drop 0).take (List.length (r36.1.map o3))) (r36.1.map o3), Frz (((r7.1.map o3).drop 0).take (List.length (r7.1.map o3))) (r7.1.map o3), (B (!r37)) = (B false), (!(r36.2 == r7.2)) = false, treeLL (r28.2.map o3) = true]) (by kernel_rfl) ⟨(laws_markIntS_m hr28), ⟨rfl, trivial⟩, ⟨⟨treeM t3, noRoM n3⟩, trivial⟩, ⟨(sameLenE o3 hq29), trivial⟩, rfl, rfl, (sameLenE o3 hq29).symm, (laws_heldIntS_m hr30), rfl, (frzF t3 z3), c32, c34, (laws_toEventS_m hr35), (by simp only [noRo, noRoL, noRoM n81, Bool.and_self]), (impl_CutAround_m hr36), (by simp only [noRo, noRoL, noRoM n3, Bool.and_self]), (frzF t81 z81), (laws_eqIntS_m hr37), rfl, (frzF t3 z3), (frzF t3 z3), (litB c39), c41, (treeM t3), trivial⟩ (laws_FnExactCutAround_j2_m hP hn hx r28  _ h)
noncomputable def laws_FnExactCutAround_j0  (p1 : (List GEvent)) (p2 : Int) (r7 : ((List Int) × Bool)) (r8 : (List GEvent)) (r9 : ((List Int) × Bool))  : Option Bool :=
  Option.bind (laws_toEventS p1) fun r15 =>
  Option.bind (laws_eqEventS r8 r15) fun r16 =>
  if (!r16) = true then
    some false
  else
    Option.bind (laws_markEventS r8 1) fun r19 =>
    Option.bind (sameLen r8 r19.2) fun q20 =>
    if (decide (r19.1 < 0)) = true then
      some false
    else
      Option.bind (laws_eqIntS r9.1 r7.1) fun r23 =>
      if (!r23) = true then
        some false
      else
        if (!(r9.2 == r7.2)) = true then
          some false
        else
          laws_FnExactCutAround_j1 p1 p2 r7 r9
theorem laws_FnExactCutAround_j0_m {E : Env} (hP : E.P = Try.prog) (hn : E.n = 101) (hx : ∀ p, p ∈ E.fx → p.1 ∈ ([] : List Nat)) (p1 : (List GEvent)) (p2 : Int) (r7 : ((List Int) × Bool)) (r8 : (List GEvent)) (r9 : ((List Int) × Bool))   (r : Bool) (h : laws_FnExactCutAround_j0 p1 p2 r7 r8 r9  = some r) : WAt E body6 (FQ (RetE Θ Try.f6.results.toList [] [] (B r) E)) [true, true, true, true, true, true, true, false, true, true] ⟨[(0, (AV.ro 5 (p1.map o83))), (1, (I p2)), (6, (AV.sl 1 0 (List.length (r7.1.map o3)))), (7, (B r7.2)), (8, (AV.sl 2 0 (List.length (r8.map o81)))), (9, (AV.sl 3 0 (List.length (r9.1.map o3)))), (10, (B r9.2))], [(1, some ⟨3, 1, (r7.1.map o3)⟩), (2, some ⟨81, 5, (r8.map o81)⟩), (3, some ⟨3, 1, (r9.1.map o3)⟩)], [1, 2, 3, JJ]⟩ := by
  have hm : E.P.follows .mixedOrders = true := by rw [hP]; exact mixed
  have hΘ : TOK E.P Θ := by rw [hP]; exact Θ_ok
  unfold laws_FnExactCutAround_j0 at h
  obtain ⟨r15, hr15, h⟩ := bnS h
  obtain ⟨r16, hr16, h⟩ := bnS h
  rcases itS h with ⟨c17, h⟩ | ⟨c18, h⟩
  · have h := Option.some.inj h
    subst h
    exact go_ret hΘ hm hP hn (hs := [⟨2, .call [] (AV.own 81 5 (r15.map o81)) [1001], none⟩, ⟨3, .callV [(r8.map o81), (r15.map o81)] (B r16), none⟩, ⟨5, .br true, none⟩]) (rh := []) (ph := .raw) (ps := [Meets Try.prog 18 [(AV.ro 5 (p1.map o83))] (AV.own 81 5 (r15.map o81)), noRo (AV.own 81 5 (r15.map o81)) = true, Meets Try.prog 21 [(AV.ro 5 (r8.map o81)), (AV.ro 5 (r15.map o81))] (B r16), litA (B r16) = true, Frz (((r8.map o81).drop 0).take (List.length (r8.map o81))) (r8.map o81), Frz (((r15.map o81).drop 0).take (List.length (r15.map o81))) (r15.map o81), (!r16) = true, (B false) = (B false), litA (B false) = true]) (by kernel_rfl) ⟨(laws_toEventS_m hr15), (by simp only [noRo, noRoL, noRoM n81, Bool.and_self]), (laws_eqEventS_m hr16), rfl, (frzF t81 z81), (frzF t81 z81), c17, rfl, rfl, trivial⟩
  · obtain ⟨r19, hr19, h⟩ := bnS h
    obtain ⟨q20, hq20, h⟩ := bnS h
    rcases itS h with ⟨c21, h⟩ | ⟨c22, h⟩
    · have h := Option.some.inj h
      subst h
      exact go_ret hΘ hm hP hn (hs := [⟨2, .call [] (AV.own 81 5 (r15.map o81)) [1001], none⟩, ⟨3, .callV [(r8.map o81), (r15.map o81)] (B r16), none⟩, ⟨5, .br false, none⟩, ⟨9, .callX [2] [true] [⟨81, 5, (r8.map o81)⟩] [⟨81, 5, (r19.2.map o81)⟩] [] (I r19.1) [] (I r19.1) [], none⟩, ⟨13, .no, some (B true)⟩]) (rh := []) (ph := .raw) (ps := [Meets Try.prog 18 [(AV.ro 5 (p1.map o83))] (AV.own 81 5 (r15.map o81)), noRo (AV.own 81 5 (r15.map o81)) = true, Meets Try.prog 21 [(AV.ro 5 (r8.map o81)), (AV.ro 5 (r15.map o81))] (B r16), litA (B r16) = true, Frz (((r8.map o81).drop 0).take (List.length (r8.map o81))) (r8.map o81), Frz (((r15.map o81).drop 0).take (List.length (r15.map o81))) (r15.map o81), (!r16) = false, MeetsR Try.prog 22 [⟨81, 5, (r8.map o81)⟩] [(AV.sl 0 0 (List.length (r8.map o81))), (I 1)] [true] [⟨81, 5, (r19.2.map o81)⟩] (I r19.1), (some (Root.mk 81 5 (r8.map o81)) = some (Root.mk 81 5 (r8.map o81))) ∧ True, (treeLL (r8.map o81) = true ∧ noRoLL (r8.map o81) = true) ∧ True, ((r19.2.map o81).length = (r8.map o81).length) ∧ True, (rtf (renA [(0, 2)] (I r19.1)) []).1 = (I r19.1), (rtf (renA [(0, 2)] (I r19.1)) []).2.1 = [], (B (decide (r19.1 < 0))) = (B true), (B false) = (B false), litA (B false) = true]) (by kernel_rfl) ⟨(laws_toEventS_m hr15), (by simp only [noRo, noRoL, noRoM n81, Bool.and_self]), (laws_eqEventS_m hr16), rfl, (frzF t81 z81), (frzF t81 z81), c18, (laws_markEventS_m hr19), ⟨rfl, trivial⟩, ⟨⟨treeM t81, noRoM n81⟩, trivial⟩, ⟨(sameLenE o81 hq20), trivial⟩, rfl, rfl, (litB c21), rfl, rfl, trivial⟩
    · obtain ⟨r23, hr23, h⟩ := bnS h
      rcases itS h with ⟨c24, h⟩ | ⟨c25, h⟩
      · have h := Option.some.inj h
        subst h
        exact go_ret hΘ hm hP hn (hs := [⟨2, .call [] (AV.own 81 5 (r15.map o81)) [1001], none⟩, ⟨3, .callV [(r8.map o81), (r15.map o81)] (B r16), none⟩, ⟨5, .br false, none⟩, ⟨9, .callX [2] [true] [⟨81, 5, (r8.map o81)⟩] [⟨81, 5, (r19.2.map o81)⟩] [] (I r19.1) [] (I r19.1) [], none⟩, ⟨13, .no, some (B false)⟩, ⟨16, .callV [(r9.1.map o3), (r7.1.map o3)] (B r23), none⟩, ⟨19, .no, some (B true)⟩]) (rh := []) (ph := .raw) (ps := [Meets Try.prog 18 [(AV.ro 5 (p1.map o83))] (AV.own 81 5 (r15.map o81)), noRo (AV.own 81 5 (r15.map o81)) = true, Meets Try.prog 21 [(AV.ro 5 (r8.map o81)), (AV.ro 5 (r15.map o81))] (B r16), litA (B r16) = true, Frz (((r8.map o81).drop 0).take (List.length (r8.map o81))) (r8.map o81), Frz (((r15.map o81).drop 0).take (List.length (r15.map o81))) (r15.map o81), (!r16) = false, MeetsR Try.prog 22 [⟨81, 5, (r8.map o81)⟩] [(AV.sl 0 0 (List.length (r8.map o81))), (I 1)] [true] [⟨81, 5, (r19.2.map o81)⟩] (I r19.1), (some (Root.mk 81 5 (r8.map o81)) = some (Root.mk 81 5 (r8.map o81))) ∧ True, (treeLL (r8.map o81) = true ∧ noRoLL (r8.map o81) = true) ∧ True, ((r19.2.map o81).length = (r8.map o81).length) ∧ True, (rtf (renA [(0, 2)] (I r19.1)) []).1 = (I r19.1), (rtf (renA [(0, 2)] (I r19.1)) []).2.1 = [], (B (decide (r19.1 < 0))) = (B false), Meets Try.prog 20 [(AV.ro 1 (r9.1.map o3)), (AV.ro 1 (r7.1.map o3))] (B r23), litA (B r23) = true, Frz (((r9.1.map o3).drop 0).take (List.length (r9.1.map o3))) (r9.1.map o3), Frz (((r7.1.map o3).drop 0).take (List.length (r7.1.map o3))) (r7.1.map o3), (B (!r23)) = (B true), (B false) = (B false), litA (B false) = true]) (by kernel_rfl) ⟨(laws_toEventS_m hr15), (by simp only [noRo, noRoL, noRoM n81, Bool.and_self]), (laws_eqEventS_m hr16), rfl, (frzF t81 z81), (frzF t81 z81), c18, (laws_markEventS_m hr19), ⟨rfl, trivial⟩, ⟨⟨treeM t81, noRoM n81⟩, trivial⟩, ⟨(sameLenE o81 hq20), trivial⟩, rfl, rfl, (litB c22), (laws_eqIntS_m hr23), rfl, (frzF t3 z3), (frzF t3 z3), (litB c24), rfl, rfl, trivial⟩
      · rcases itS h with ⟨c26, h⟩ | ⟨c27, h⟩
        · have h := Option.some.inj h
          subst h
          exact go_ret hΘ hm hP hn (hs := [⟨2, .call [] (AV.own 81 5 (r15.map o81)) [1001], none⟩, ⟨3, .callV [(r8.map o81), (r15.map o81)] (B r16), none⟩, ⟨5, .br false, none⟩, ⟨9, .callX [2] [true] [⟨81, 5, (r8.map o81)⟩] [⟨81, 5, (r19.2.map o81)⟩] [] (I r19.1) [] (I r19.1) [], none⟩, ⟨13, .no, some (B false)⟩, ⟨16, .callV [(r9.1.map o3), (r7.1.map o3)] (B r23), none⟩, ⟨19, .no, some (B false)⟩, ⟨24, .br true, none⟩]) (rh := []) (ph := .raw) (ps := [Meets Try.prog 18 [(AV.ro 5 (p1.map o83))] (AV.own 81 5 (r15.map o81)), noRo (AV.own 81 5 (r15.map o81)) = true, Meets Try.prog 21 [(AV.ro 5 (r8.map o81)), (AV.ro 5 (r15.map o81))] (B r16), litA (B r16) = true, Frz (((r8.map o81).drop 0).take (List.length (r8.map o81))) (r8.map o81), Frz (((r15.map o81).drop 0).take (List.length (r15.map o81))) (r15.map o81), (!r16) = false, MeetsR Try.prog 22 [⟨81, 5, (r8.map o81)⟩] [(AV.sl 0 0 (List.length (r8.map o81))), (I 1)] [true] [⟨81, 5, (r19.2.map o81)⟩] (I r19.1), (some (Root.mk 81 5 (r8.map o81)) = some (Root.mk 81 5 (r8.map o81))) ∧ True, (treeLL (r8.map o81) = true ∧ noRoLL (r8.map o81) = true) ∧ True, ((r19.2.map o81).length = (r8.map o81).length) ∧ True, (rtf (renA [(0, 2)] (I r19.1)) []).1 = (I r19.1), (rtf (renA [(0, 2)] (I r19.1)) []).2.1 = [], (B (decide (r19.1 < 0))) = (B false), Meets Try.prog 20 [(AV.ro 1 (r9.1.map o3)), (AV.ro 1 (r7.1.map o3))] (B r23), litA (B r23) = true, Frz (((r9.1.map o3).drop 0).take (List.length (r9.1.map o3))) (r9.1.map o3), Frz (((r7.1.map o3).drop 0).take (List.length (r7.1.map o3))) (r7.1.map o3), (B (!r23)) = (B false), (!(r9.2 == r7.2)) = true, (B false) = (B false), litA (B false) = true]) (by kernel_rfl) ⟨(laws_toEventS_m hr15), (by simp only [noRo, noRoL, noRoM n81, Bool.and_self]), (laws_eqEventS_m hr16), rfl, (frzF t81 z81), (frzF t81 z81), c18, (laws_markEventS_m hr19), ⟨rfl, trivial⟩, ⟨⟨treeM t81, noRoM n81⟩, trivial⟩, ⟨(sameLenE o81 hq20), trivial⟩, rfl, rfl, (litB c22), (laws_eqIntS_m hr23), rfl, (frzF t3 z3), (frzF t3 z3), (litB c25), c26, rfl, rfl, trivial⟩
        · exact go_to hΘ hm hx hP hn (hs := [⟨2, .call [] (AV.own 81 5 (r15.map o81)) [1001], none⟩, ⟨3, .callV [(r8.map o81), (r15.map o81)] (B r16), none⟩, ⟨5, .br false, none⟩, ⟨9, .callX [2] [true] [⟨81, 5, (r8.map o81)⟩] [⟨81, 5, (r19.2.map o81)⟩] [] (I r19.1) [] (I r19.1) [], none⟩, ⟨13, .no, some (B false)⟩, ⟨16, .callV [(r9.1.map o3), (r7.1.map o3)] (B r23), none⟩, ⟨19, .no, some (B false)⟩, ⟨24, .br false, none⟩]) (π := [(1, 1), (3, 2)]) (ts := [0, 1, 6, 7, 9]) (kp := []) (ps := [Meets Try.prog 18 [(AV.ro 5 (p1.map o83))] (AV.own 81 5 (r15.map o81)), noRo (AV.own 81 5 (r15.map o81)) = true, Meets Try.prog 21 [(AV.ro 5 (r8.map o81)), (AV.ro 5 (r15.map o81))] (B r16), litA (B r16) = true, Frz (((r8.map o81).drop 0).take (List.length (r8.map o81))) (r8.map o81), Frz (((r15.map o81).drop 0).take (List.length (r15.map o81))) (r15.map o81), (!r16) = false, MeetsR Try.prog 22 [⟨81, 5, (r8.map o81)⟩] [(AV.sl 0 0 (List.length (r8.map o81))), (I 1)] [true] [⟨81, 5, (r19.2.map o81)⟩] (I r19.1), (some (Root.mk 81 5 (r8.map o81)) = some (Root.mk 81 5 (r8.map o81))) ∧ True, (treeLL (r8.map o81) = true ∧ noRoLL (r8.map o81) = true) ∧ True, ((r19.2.map o81).length = (r8.map o81).length) ∧ True, (rtf (renA [(0, 2)] (I r19.1)) []).1 = (I r19.1), (rtf (renA [(0, 2)] (I r19.1)) []).2.1 = [], (B (decide (r19.1 < 0))) = (B false), Meets Try.prog 20 [(AV.ro 1 (r9.1.map o3)), (AV.ro 1 (r7.1.map o3))] (B r23), litA (B r23) = true, Frz (((r9.1.map o3).drop 0).take (List.length (r9.1.map o3))) (r9.1.map o3), Frz (((r7.1.map o3).drop 0).take (List.length (r7.1.map o3))) (r7.1.map o3), (B (!r23)) = (B false), (!(r9.2 == r7.2)) = false, treeLL (r7.1.map o3) = true, treeLL (r9.1.map o3) = true]) (by kernel_rfl) ⟨(laws_toEventS_m hr15), (by simp only [noRo, noRoL, noRoM n81, Bool.and_self]), (laws_eqEventS_m hr16), rfl, (frzF t81 z81), (frzF t81 z81), c18, (laws_markEventS_m hr19), ⟨rfl, trivial⟩, ⟨⟨treeM t81, noRoM n81⟩, trivial⟩, ⟨(sameLenE o81 hq20), trivial⟩, rfl, rfl, (litB c22), (laws_eqIntS_m hr23), rfl, (frzF t3 z3), (frzF t3 z3), (litB c25), c27, (treeM t3), (treeM t3), trivial⟩ (laws_FnExactCutAround_j1_m hP hn hx p1 p2 r7 r9  _ h)
noncomputable def laws_FnExactCutAround (p1 : (List GEvent)) (p2 : Int) : Option Bool :=
  Option.bind (laws_szEventS p1 1048576) fun r3 =>
  if (decide (r3 < 0)) = true then
    some true
  else
    Option.bind (laws_toEventS p1) fun r6 =>
    Option.bind (spec_CutAround r6 p2) fun r7 =>
    Option.bind (laws_toEventS p1) fun r8 =>
    Option.bind (impl_CutAround r8 p2) fun r9 =>
    Option.bind (laws_eqIntS r9.1 r7.1) fun r10 =>
    if (!r10) = true then
      some false
    else
      if (!(r9.2 == r7.2)) = true then
        some false
      else
        laws_FnExactCutAround_j0 p1 p2 r7 r8 r9
theorem laws_FnExactCutAround_m {p1 : (List GEvent)} {p2 : Int} {r : Bool} (h : laws_FnExactCutAround p1 p2 = some r) : Meets Try.prog 6 [(AV.ro 5 (p1.map o83)), (I p2)] (B r) := by
  refine meets_ofC Θ_ok Try.func6 rfl (c := body6) (by kernel_rfl) (Nat.le_of_ble_eq_true rfl) ?_
  intro E hP hn hx
  replace hn : E.n = 101 := hn
  have hm : E.P.follows .mixedOrders = true := by rw [hP]; exact mixed
  have hΘ : TOK E.P Θ := by rw [hP]; exact Θ_ok
  unfold laws_FnExactCutAround at h
  show WAt E body6 (FQ (RetE Θ Try.f6.results.toList [] [] (B r) E)) [] ⟨[(0, (AV.ro 5 (p1.map o83))), (1, (I p2))], [], [JJ]⟩
  obtain ⟨r3, hr3, h⟩ := bnS h
  rcases itS h with ⟨c4, h⟩ | ⟨c5, h⟩
  · have h := Option.some.inj h
    subst h
    exact go_ret hΘ hm hP hn (hs := [⟨4, .callV [] (I r3), none⟩, ⟨8, .br true, none⟩]) (rh := []) (ph := .raw) (ps := [Meets Try.prog 16 [(AV.ro 5 (p1.map o83)), (I 1048576)] (I r3), litA (I r3) = true, (decide (r3 < 0)) = true, (B true) = (B true), litA (B true) = true]) (by kernel_rfl) ⟨(laws_szEventS_m hr3), rfl, c4, rfl, rfl, trivial⟩
  · obtain ⟨r6, hr6, h⟩ := bnS h
    obtain ⟨r7, hr7, h⟩ := bnS h
    obtain ⟨r8, hr8, h⟩ := bnS h
    obtain ⟨r9, hr9, h⟩ := bnS h
    obtain ⟨r10, hr10, h⟩ := bnS h
    rcases itS h with ⟨c11, h⟩ | ⟨c12, h⟩
    · have h := Option.some.inj h
      subst h
      exact go_ret hΘ hm hP hn (hs := [⟨4, .callV [] (I r3), none⟩, ⟨8, .br false, none⟩, ⟨10, .call [] (AV.own 81 5 (r6.map o81)) [1001], none⟩, ⟨12, .call [(r6.map o81)] (AV.tup [(AV.own 3 1 (r7.1.map o3)), (B r7.2)]) [1002], none⟩, ⟨19, .call [] (AV.own 81 5 (r8.map o81)) [1003], none⟩, ⟨23, .call [(r8.map o81)] (AV.tup [(AV.own 3 1 (r9.1.map o3)), (B r9.2)]) [1004], none⟩, ⟨31, .callV [(r9.1.map o3), (r7.1.map o3)] (B r10), none⟩, ⟨33, .no, some (B true)⟩]) (rh := []) (ph := .raw) (ps := [Meets Try.prog 16 [(AV.ro 5 (p1.map o83)), (I 1048576)] (I r3), litA (I r3) = true, (decide (r3 < 0)) = false, Meets Try.prog 18 [(AV.ro 5 (p1.map o83))] (AV.own 81 5 (r6.map o81)), noRo (AV.own 81 5 (r6.map o81)) = true, Meets Try.prog 28 [(AV.ro 5 (r6.map o81)), (I p2)] (AV.tup [(AV.own 3 1 (r7.1.map o3)), (B r7.2)]), noRo (AV.tup [(AV.own 3 1 (r7.1.map o3)), (B r7.2)]) = true, Frz (((r6.map o81).drop 0).take (List.length (r6.map o81))) (r6.map o81), Meets Try.prog 18 [(AV.ro 5 (p1.map o83))] (AV.own 81 5 (r8.map o81)), noRo (AV.own 81 5 (r8.map o81)) = true, Meets Try.prog 29 [(AV.ro 5 (r8.map o81)), (I p2)] (AV.tup [(AV.own 3 1 (r9.1.map o3)), (B r9.2)]), noRo (AV.tup [(AV.own 3 1 (r9.1.map o3)), (B r9.2)]) = true, Frz (((r8.map o81).drop 0).take (List.length (r8.map o81))) (r8.map o81), Meets Try.prog 20 [(AV.ro 1 (r9.1.map o3)), (AV.ro 1 (r7.1.map o3))] (B r10), litA (B r10) = true, Frz (((r9.1.map o3).drop 0).take (List.length (r9.1.map o3))) (r9.1.map o3), Frz (((r7.1.map o3).drop 0).take (List.length (r7.1.map o3))) (r7.1.map o3), (B (!r10)) = (B true), (B false) = (B false), litA (B false) = true]) (by kernel_rfl) ⟨(laws_szEventS_m hr3), rfl, c5, (laws_toEventS_m hr6), (by simp only [noRo, noRoL, noRoM n81, Bool.and_self]), (spec_CutAround_m hr7), (by simp only [noRo, noRoL, noRoM n3, Bool.and_self]), (frzF t81 z81), (laws_toEventS_m hr8), (by simp only [noRo, noRoL, noRoM n81, Bool.and_self]), (impl_CutAround_m hr9), (by simp only [noRo, noRoL, noRoM n3, Bool.and_self]), (frzF t81 z81), (laws_eqIntS_m hr10), rfl, (frzF t3 z3), (frzF t3 z3), (litB c11), rfl, rfl, trivial⟩
    · rcases itS h with ⟨c13, h⟩ | ⟨c14, h⟩
      · have h := Option.some.inj h
        subst h
        exact go_ret hΘ hm hP hn (hs := [⟨4, .callV [] (I r3), none⟩, ⟨8, .br false, none⟩, ⟨10, .call [] (AV.own 81 5 (r6.map o81)) [1001], none⟩, ⟨12, .call [(r6.map o81)] (AV.tup [(AV.own 3 1 (r7.1.map o3)), (B r7.2)]) [1002], none⟩, ⟨19, .call [] (AV.own 81 5 (r8.map o81)) [1003], none⟩, ⟨23, .call [(r8.map o81)] (AV.tup [(AV.own 3 1 (r9.1.map o3)), (B r9.2)]) [1004], none⟩, ⟨31, .callV [(r9.1.map o3), (r7.1.map o3)] (B r10), none⟩, ⟨33, .no, some (B false)⟩, ⟨38, .br true, none⟩]) (rh := []) (ph := .raw) (ps := [Meets Try.prog 16 [(AV.ro 5 (p1.map o83)), (I 1048576)] (I r3), litA (I r3) = true, (decide (r3 < 0)) = false, Meets Try.prog 18 [(AV.ro 5 (p1.map o83))] (AV.own 81 5 (r6.map o81)), noRo (AV.own 81 5 (r6.map o81)) = true, Meets Try.prog 28 [(AV.ro 5 (r6.map o81)), (I p2)] (AV.tup [(AV.own 3 1 (r7.1.map o3)), (B r7.2)]), noRo (AV.tup [(AV.own 3 1 (r7.1.map o3)), (B r7.2)]) = true, Frz (((r6.map o81).drop 0).take (List.length (r6.map o81))) (r6.map o81), Meets Try.prog 18 [(AV.ro 5 (p1.map o83))] (AV.own 81 5 (r8.map o81)), noRo (AV.own 81 5 (r8.map o81)) = true, Meets Try.prog 29 [(AV.ro 5 (r8.map o81)), (I p2)] (AV.tup [(AV.own 3 1 (r9.1.map o3)), (B r9.2)]), noRo (AV.tup [(AV.own 3 1 (r9.1.map o3)), (B r9.2)]) = true, Frz (((r8.map o81).drop 0).take (List.length (r8.map o81))) (r8.map o81), Meets Try.prog 20 [(AV.ro 1 (r9.1.map o3)), (AV.ro 1 (r7.1.map o3))] (B r10), litA (B r10) = true, Frz (((r9.1.map o3).drop 0).take (List.length (r9.1.map o3))) (r9.1.map o3), Frz (((r7.1.map o3).drop 0).take (List.length (r7.1.map o3))) (r7.1.map o3), (B (!r10)) = (B false), (!(r9.2 == r7.2)) = true, (B false) = (B false), litA (B false) = true]) (by kernel_rfl) ⟨(laws_szEventS_m hr3), rfl, c5, (laws_toEventS_m hr6), (by simp only [noRo, noRoL, noRoM n81, Bool.and_self]), (spec_CutAround_m hr7), (by simp only [noRo, noRoL, noRoM n3, Bool.and_self]), (frzF t81 z81), (laws_toEventS_m hr8), (by simp only [noRo, noRoL, noRoM n81, Bool.and_self]), (impl_CutAround_m hr9), (by simp only [noRo, noRoL, noRoM n3, Bool.and_self]), (frzF t81 z81), (laws_eqIntS_m hr10), rfl, (frzF t3 z3), (frzF t3 z3), (litB c12), c13, rfl, rfl, trivial⟩
      · exact go_to hΘ hm hx hP hn (hs := [⟨4, .callV [] (I r3), none⟩, ⟨8, .br false, none⟩, ⟨10, .call [] (AV.own 81 5 (r6.map o81)) [1001], none⟩, ⟨12, .call [(r6.map o81)] (AV.tup [(AV.own 3 1 (r7.1.map o3)), (B r7.2)]) [1002], none⟩, ⟨19, .call [] (AV.own 81 5 (r8.map o81)) [1003], none⟩, ⟨23, .call [(r8.map o81)] (AV.tup [(AV.own 3 1 (r9.1.map o3)), (B r9.2)]) [1004], none⟩, ⟨31, .callV [(r9.1.map o3), (r7.1.map o3)] (B r10), none⟩, ⟨33, .no, some (B false)⟩, ⟨38, .br false, none⟩]) (π := [(1002, 1), (1003, 2), (1004, 3)]) (ts := [0, 1, 6, 7, 8, 9, 10]) (kp := []) (ps := [Meets Try.prog 16 [(AV.ro 5 (p1.map o83)), (I 1048576)] (I r3), litA (I r3) = true, (decide (r3 < 0)) = false, Meets Try.prog 18 [(AV.ro 5 (p1.map o83))] (AV.own 81 5 (r6.map o81)), noRo (AV.own 81 5 (r6.map o81)) = true, Meets Try.prog 28 [(AV.ro 5 (r6.map o81)), (I p2)] (AV.tup [(AV.own 3 1 (r7.1.map o3)), (B r7.2)]), noRo (AV.tup [(AV.own 3 1 (r7.1.map o3)), (B r7.2)]) = true, Frz (((r6.map o81).drop 0).take (List.length (r6.map o81))) (r6.map o81), Meets Try.prog 18 [(AV.ro 5 (p1.map o83))] (AV.own 81 5 (r8.map o81)), noRo (AV.own 81 5 (r8.map o81)) = true, Meets Try.prog 29 [(AV.ro 5 (r8.map o81)), (I p2)] (AV.tup [(AV.own 3 1 (r9.1.map o3)), (B r9.2)]), noRo (AV.tup [(AV.own 3 1 (r9.1.map o3)), (B r9.2)]) = true, Frz (((r8.map o81).drop 0).take (List.length (r8.map o81))) (r8.map o81), Meets Try.prog 20 [(AV.ro 1 (r9.1.map o3)), (AV.ro 1 (r7.1.map o3))] (B r10), litA (B r10) = true, Frz (((r9.1.map o3).drop 0).take (List.length (r9.1.map o3))) (r9.1.map o3), Frz (((r7.1.map o3).drop 0).take (List.length (r7.1.map o3))) (r7.1.map o3), (B (!r10)) = (B false), (!(r9.2 == r7.2)) = false, treeLL (r7.1.map o3) = true, treeLL (r8.map o81) = true, treeLL (r9.1.map o3) = true]) (by kernel_rfl) ⟨(laws_szEventS_m hr3), rfl, c5, (laws_toEventS_m hr6), (by simp only [noRo, noRoL, noRoM n81, Bool.and_self]), (spec_CutAround_m hr7), (by simp only [noRo, noRoL, noRoM n3, Bool.and_self]), (frzF t81 z81), (laws_toEventS_m hr8), (by simp only [noRo, noRoL, noRoM n81, Bool.and_self]), (impl_CutAround_m hr9), (by simp only [noRo, noRoL, noRoM n3, Bool.and_self]), (frzF t81 z81), (laws_eqIntS_m hr10), rfl, (frzF t3 z3), (frzF t3 z3), (litB c12), c14, (treeM t3), (treeM t81), (treeM t3), trivial⟩ (laws_FnExactCutAround_j0_m hP hn hx p1 p2 r7 r8 r9  _ h)
end Go.Proofs.Ytefcdjocfjpjgaa
