/- Functions as plain data, and that the code comes to them; no condition. -/

import Derived.Test.YthhcnmideecfpaaGT
set_option linter.unusedVariables false
set_option maxRecDepth 100000
namespace Go.Proofs.Ythhcnmideecfpaa
open Go Go.T
noncomputable def body23 : Code := match Try.f23.body with | some c => c | none => .skip
noncomputable def impl_Event_touches (p1 : GEvent) : Option Bool :=
  if (p1.Kind == 2) = true then
    some true
  else
    some (p1.Kind == 3)
theorem impl_Event_touches_m {p1 : GEvent} {r : Bool} (h : impl_Event_touches p1 = some r) : Meets Try.prog 23 [(AV.agg ((o40 p1)))] (B r) := by
  refine meets_ofC Θ_ok Try.func23 rfl (c := body23) (by kernel_rfl) (Nat.le_of_ble_eq_true rfl) ?_
  intro E hP hn hx
  replace hn : E.n = 11 := hn
  have hm : E.P.follows .mixedOrders = true := by rw [hP]; exact mixed
  have hΘ : TOK E.P Θ := by rw [hP]; exact Θ_ok
  unfold impl_Event_touches at h
  show WAt E body23 (FQ (RetE Θ Try.f23.results.toList [] [] (B r) E)) [] ⟨[(0, (AV.agg ((o40 p1))))], [], [JJ]⟩
  rcases itS h with ⟨c2, h⟩ | ⟨c3, h⟩
  · have h := Option.some.inj h
    subst h
    exact go_ret hΘ hm hP hn (hs := [⟨0, .new 1001, none⟩, ⟨5, .no, some (B true)⟩]) (rh := []) (ph := .raw) (ps := [(B (p1.Kind == 2)) = (B true), (B true) = (B true), litA (B true) = true]) (by kernel_rfl) ⟨(litB c2), rfl, rfl, trivial⟩
  · have h := Option.some.inj h
    subst h
    exact go_ret hΘ hm hP hn (hs := [⟨0, .new 1001, none⟩, ⟨5, .no, some (B false)⟩]) (rh := []) (ph := .raw) (ps := [(B (p1.Kind == 2)) = (B false), (B (p1.Kind == 3)) = (B (p1.Kind == 3)), litA (B (p1.Kind == 3)) = true]) (by kernel_rfl) ⟨(litB c3), rfl, rfl, trivial⟩
noncomputable def body49 : Code := match Try.f49.body with | some c => c | none => .skip
noncomputable def impl_in (p1 : Int) (p2 : Int) (p3 : Int) : Option Bool :=
  if (decide (p2 ≤ p1)) = true then
    some (decide (p1 ≤ p3))
  else
    some false
theorem impl_in_m {p1 : Int} {p2 : Int} {p3 : Int} {r : Bool} (h : impl_in p1 p2 p3 = some r) : Meets Try.prog 49 [(I p1), (I p2), (I p3)] (B r) := by
  refine meets_ofC Θ_ok Try.func49 rfl (c := body49) (by kernel_rfl) (Nat.le_of_ble_eq_true rfl) ?_
  intro E hP hn hx
  replace hn : E.n = 15 := hn
  have hm : E.P.follows .mixedOrders = true := by rw [hP]; exact mixed
  have hΘ : TOK E.P Θ := by rw [hP]; exact Θ_ok
  unfold impl_in at h
  show WAt E body49 (FQ (RetE Θ Try.f49.results.toList [] [] (B r) E)) [] ⟨[(0, (I p1)), (1, (I p2)), (2, (I p3))], [], [JJ]⟩
  rcases itS h with ⟨c4, h⟩ | ⟨c5, h⟩
  · have h := Option.some.inj h
    subst h
    exact go_ret hΘ hm hP hn (hs := [⟨4, .no, some (B true)⟩]) (rh := []) (ph := .raw) (ps := [(B (decide (p2 ≤ p1))) = (B true), (B (decide (p1 ≤ p3))) = (B (decide (p1 ≤ p3))), litA (B (decide (p1 ≤ p3))) = true]) (by kernel_rfl) ⟨(litB c4), rfl, rfl, trivial⟩
  · have h := Option.some.inj h
    subst h
    exact go_ret hΘ hm hP hn (hs := [⟨4, .no, some (B false)⟩]) (rh := []) (ph := .raw) (ps := [(B (decide (p2 ≤ p1))) = (B false), (B false) = (B false), litA (B false) = true]) (by kernel_rfl) ⟨(litB c5), rfl, rfl, trivial⟩
noncomputable def body37 : Code := match Try.f37.body with | some c => c | none => .skip
noncomputable def impl_Event_isGood_j0  (p1 : GEvent)  : Option Bool :=
  if (decide (p1.Obj ≥ 0)) = true then
    if (decide (p1.Lock ≥ 0)) = true then
      some true
    else
      if (p1.Kind != 8) = true then
        some (p1.Kind != 9)
      else
        some false
  else
    Option.bind (impl_in p1.Kind 2 10) fun r23 =>
    if (!r23) = true then
      if (decide (p1.Lock ≥ 0)) = true then
        some true
      else
        if (p1.Kind != 8) = true then
          some (p1.Kind != 9)
        else
          some false
    else
      some false
theorem impl_Event_isGood_j0_m {E : Env} (hP : E.P = Try.prog) (hn : E.n = 55) (hx : ∀ p, p ∈ E.fx → p.1 ∈ ([] : List Nat)) (p1 : GEvent)   (r : Bool) (h : impl_Event_isGood_j0 p1  = some r) : WAt E body37 (FQ (RetE Θ Try.f37.results.toList [] [] (B r) E)) [true, false, true, true] ⟨[(1, (AV.ptr 1 0 0))], [(1, some ⟨40, 5, [((o40 p1))]⟩)], [1, JJ]⟩ := by
  have hm : E.P.follows .mixedOrders = true := by rw [hP]; exact mixed
  have hΘ : TOK E.P Θ := by rw [hP]; exact Θ_ok
  unfold impl_Event_isGood_j0 at h
  rcases itS h with ⟨c17, h⟩ | ⟨c22, h⟩
  · rcases itS h with ⟨c18, h⟩ | ⟨c19, h⟩
    · have h := Option.some.inj h
      subst h
      exact go_ret hΘ hm hP hn (hs := [⟨3, .no, some (B true)⟩, ⟨13, .no, some (B true)⟩]) (rh := []) (ph := .raw) (ps := [(B (decide (p1.Obj ≥ 0))) = (B true), (B (decide (p1.Lock ≥ 0))) = (B true), (B true) = (B true), litA (B true) = true]) (by kernel_rfl) ⟨(litB c17), (litB c18), rfl, rfl, trivial⟩
    · rcases itS h with ⟨c20, h⟩ | ⟨c21, h⟩
      · have h := Option.some.inj h
        subst h
        exact go_ret hΘ hm hP hn (hs := [⟨3, .no, some (B true)⟩, ⟨13, .no, some (B false)⟩, ⟨17, .no, some (B true)⟩]) (rh := []) (ph := .raw) (ps := [(B (decide (p1.Obj ≥ 0))) = (B true), (B (decide (p1.Lock ≥ 0))) = (B false), (B (p1.Kind != 8)) = (B true), (B (p1.Kind != 9)) = (B (p1.Kind != 9)), litA (B (p1.Kind != 9)) = true]) (by kernel_rfl) ⟨(litB c17), (litB c19), (litB c20), rfl, rfl, trivial⟩
      · have h := Option.some.inj h
        subst h
        exact go_ret hΘ hm hP hn (hs := [⟨3, .no, some (B true)⟩, ⟨13, .no, some (B false)⟩, ⟨17, .no, some (B false)⟩]) (rh := []) (ph := .raw) (ps := [(B (decide (p1.Obj ≥ 0))) = (B true), (B (decide (p1.Lock ≥ 0))) = (B false), (B (p1.Kind != 8)) = (B false), (B false) = (B false), litA (B false) = true]) (by kernel_rfl) ⟨(litB c17), (litB c19), (litB c21), rfl, rfl, trivial⟩
  · obtain ⟨r23, hr23, h⟩ := bnS h
    rcases itS h with ⟨c24, h⟩ | ⟨c29, h⟩
    · rcases itS h with ⟨c25, h⟩ | ⟨c26, h⟩
      · have h := Option.some.inj h
        subst h
        exact go_ret hΘ hm hP hn (hs := [⟨3, .no, some (B false)⟩, ⟨6, .callV [] (B r23), none⟩, ⟨9, .no, some (B true)⟩, ⟨13, .no, some (B true)⟩]) (rh := []) (ph := .raw) (ps := [(B (decide (p1.Obj ≥ 0))) = (B false), Meets Try.prog 49 [(I p1.Kind), (I 2), (I 10)] (B r23), litA (B r23) = true, (B (!r23)) = (B true), (B (decide (p1.Lock ≥ 0))) = (B true), (B true) = (B true), litA (B true) = true]) (by kernel_rfl) ⟨(litB c22), (impl_in_m hr23), rfl, (litB c24), (litB c25), rfl, rfl, trivial⟩
      · rcases itS h with ⟨c27, h⟩ | ⟨c28, h⟩
        · have h := Option.some.inj h
          subst h
          exact go_ret hΘ hm hP hn (hs := [⟨3, .no, some (B false)⟩, ⟨6, .callV [] (B r23), none⟩, ⟨9, .no, some (B true)⟩, ⟨13, .no, some (B false)⟩, ⟨17, .no, some (B true)⟩]) (rh := []) (ph := .raw) (ps := [(B (decide (p1.Obj ≥ 0))) = (B false), Meets Try.prog 49 [(I p1.Kind), (I 2), (I 10)] (B r23), litA (B r23) = true, (B (!r23)) = (B true), (B (decide (p1.Lock ≥ 0))) = (B false), (B (p1.Kind != 8)) = (B true), (B (p1.Kind != 9)) = (B (p1.Kind != 9)), litA (B (p1.Kind != 9)) = true]) (by kernel_rfl) ⟨(litB c22), (impl_in_m hr23), rfl, (litB c24), (litB c26), (litB c27), rfl, rfl, trivial⟩
        · have h := Option.some.inj h
          subst h
          exact go_ret hΘ hm hP hn (hs := [⟨3, .no, some (B false)⟩, ⟨6, .callV [] (B r23), none⟩, ⟨9, .no, some (B true)⟩, ⟨13, .no, some (B false)⟩, ⟨17, .no, some (B false)⟩]) (rh := []) (ph := .raw) (ps := [(B (decide (p1.Obj ≥ 0))) = (B false), Meets Try.prog 49 [(I p1.Kind), (I 2), (I 10)] (B r23), litA (B r23) = true, (B (!r23)) = (B true), (B (decide (p1.Lock ≥ 0))) = (B false), (B (p1.Kind != 8)) = (B false), (B false) = (B false), litA (B false) = true]) (by kernel_rfl) ⟨(litB c22), (impl_in_m hr23), rfl, (litB c24), (litB c26), (litB c28), rfl, rfl, trivial⟩
    · have h := Option.some.inj h
      subst h
      exact go_ret hΘ hm hP hn (hs := [⟨3, .no, some (B false)⟩, ⟨6, .callV [] (B r23), none⟩, ⟨9, .no, some (B false)⟩]) (rh := []) (ph := .raw) (ps := [(B (decide (p1.Obj ≥ 0))) = (B false), Meets Try.prog 49 [(I p1.Kind), (I 2), (I 10)] (B r23), litA (B r23) = true, (B (!r23)) = (B false), (B false) = (B false), litA (B false) = true]) (by kernel_rfl) ⟨(litB c22), (impl_in_m hr23), rfl, (litB c29), rfl, rfl, trivial⟩
noncomputable def impl_Event_isGood (p1 : GEvent) : Option Bool :=
  Option.bind (impl_in p1.Thread 0 4) fun r2 =>
  if (!r2) = true then
    some false
  else
    Option.bind (impl_in p1.Kind 1 12) fun r5 =>
    if (!r5) = true then
      some false
    else
      Option.bind (impl_in p1.Obj (-1) 99) fun r8 =>
      if (!r8) = true then
        some false
      else
        Option.bind (impl_in p1.Lock (-1) 99) fun r11 =>
        if (!r11) = true then
          some false
        else
          Option.bind (impl_in p1.Pc 0 99) fun r14 =>
          if (!r14) = true then
            some false
          else
            impl_Event_isGood_j0 p1
theorem impl_Event_isGood_m {p1 : GEvent} {r : Bool} (h : impl_Event_isGood p1 = some r) : Meets Try.prog 37 [(AV.agg ((o40 p1)))] (B r) := by
  refine meets_ofC Θ_ok Try.func37 rfl (c := body37) (by kernel_rfl) (Nat.le_of_ble_eq_true rfl) ?_
  intro E hP hn hx
  replace hn : E.n = 55 := hn
  have hm : E.P.follows .mixedOrders = true := by rw [hP]; exact mixed
  have hΘ : TOK E.P Θ := by rw [hP]; exact Θ_ok
  unfold impl_Event_isGood at h
  show WAt E body37 (FQ (RetE Θ Try.f37.results.toList [] [] (B r) E)) [] ⟨[(0, (AV.agg ((o40 p1))))], [], [JJ]⟩
  obtain ⟨r2, hr2, h⟩ := bnS h
  rcases itS h with ⟨c3, h⟩ | ⟨c4, h⟩
  · have h := Option.some.inj h
    subst h
    exact go_ret hΘ hm hP hn (hs := [⟨0, .new 1001, none⟩, ⟨4, .callV [] (B r2), none⟩, ⟨6, .no, some (B true)⟩]) (rh := []) (ph := .raw) (ps := [Meets Try.prog 49 [(I p1.Thread), (I 0), (I 4)] (B r2), litA (B r2) = true, (B (!r2)) = (B true), (B false) = (B false), litA (B false) = true]) (by kernel_rfl) ⟨(impl_in_m hr2), rfl, (litB c3), rfl, rfl, trivial⟩
  · obtain ⟨r5, hr5, h⟩ := bnS h
    rcases itS h with ⟨c6, h⟩ | ⟨c7, h⟩
    · have h := Option.some.inj h
      subst h
      exact go_ret hΘ hm hP hn (hs := [⟨0, .new 1001, none⟩, ⟨4, .callV [] (B r2), none⟩, ⟨6, .no, some (B false)⟩, ⟨9, .callV [] (B r5), none⟩, ⟨12, .no, some (B true)⟩]) (rh := []) (ph := .raw) (ps := [Meets Try.prog 49 [(I p1.Thread), (I 0), (I 4)] (B r2), litA (B r2) = true, (B (!r2)) = (B false), Meets Try.prog 49 [(I p1.Kind), (I 1), (I 12)] (B r5), litA (B r5) = true, (B (!r5)) = (B true), (B false) = (B false), litA (B false) = true]) (by kernel_rfl) ⟨(impl_in_m hr2), rfl, (litB c4), (impl_in_m hr5), rfl, (litB c6), rfl, rfl, trivial⟩
    · obtain ⟨r8, hr8, h⟩ := bnS h
      rcases itS h with ⟨c9, h⟩ | ⟨c10, h⟩
      · have h := Option.some.inj h
        subst h
        exact go_ret hΘ hm hP hn (hs := [⟨0, .new 1001, none⟩, ⟨4, .callV [] (B r2), none⟩, ⟨6, .no, some (B false)⟩, ⟨9, .callV [] (B r5), none⟩, ⟨12, .no, some (B false)⟩, ⟨15, .callV [] (B r8), none⟩, ⟨18, .no, some (B true)⟩]) (rh := []) (ph := .raw) (ps := [Meets Try.prog 49 [(I p1.Thread), (I 0), (I 4)] (B r2), litA (B r2) = true, (B (!r2)) = (B false), Meets Try.prog 49 [(I p1.Kind), (I 1), (I 12)] (B r5), litA (B r5) = true, (B (!r5)) = (B false), Meets Try.prog 49 [(I p1.Obj), (I (-1)), (I 99)] (B r8), litA (B r8) = true, (B (!r8)) = (B true), (B false) = (B false), litA (B false) = true]) (by kernel_rfl) ⟨(impl_in_m hr2), rfl, (litB c4), (impl_in_m hr5), rfl, (litB c7), (impl_in_m hr8), rfl, (litB c9), rfl, rfl, trivial⟩
      · obtain ⟨r11, hr11, h⟩ := bnS h
        rcases itS h with ⟨c12, h⟩ | ⟨c13, h⟩
        · have h := Option.some.inj h
          subst h
          exact go_ret hΘ hm hP hn (hs := [⟨0, .new 1001, none⟩, ⟨4, .callV [] (B r2), none⟩, ⟨6, .no, some (B false)⟩, ⟨9, .callV [] (B r5), none⟩, ⟨12, .no, some (B false)⟩, ⟨15, .callV [] (B r8), none⟩, ⟨18, .no, some (B false)⟩, ⟨21, .callV [] (B r11), none⟩, ⟨24, .no, some (B true)⟩]) (rh := []) (ph := .raw) (ps := [Meets Try.prog 49 [(I p1.Thread), (I 0), (I 4)] (B r2), litA (B r2) = true, (B (!r2)) = (B false), Meets Try.prog 49 [(I p1.Kind), (I 1), (I 12)] (B r5), litA (B r5) = true, (B (!r5)) = (B false), Meets Try.prog 49 [(I p1.Obj), (I (-1)), (I 99)] (B r8), litA (B r8) = true, (B (!r8)) = (B false), Meets Try.prog 49 [(I p1.Lock), (I (-1)), (I 99)] (B r11), litA (B r11) = true, (B (!r11)) = (B true), (B false) = (B false), litA (B false) = true]) (by kernel_rfl) ⟨(impl_in_m hr2), rfl, (litB c4), (impl_in_m hr5), rfl, (litB c7), (impl_in_m hr8), rfl, (litB c10), (impl_in_m hr11), rfl, (litB c12), rfl, rfl, trivial⟩
        · obtain ⟨r14, hr14, h⟩ := bnS h
          rcases itS h with ⟨c15, h⟩ | ⟨c16, h⟩
          · have h := Option.some.inj h
            subst h
            exact go_ret hΘ hm hP hn (hs := [⟨0, .new 1001, none⟩, ⟨4, .callV [] (B r2), none⟩, ⟨6, .no, some (B false)⟩, ⟨9, .callV [] (B r5), none⟩, ⟨12, .no, some (B false)⟩, ⟨15, .callV [] (B r8), none⟩, ⟨18, .no, some (B false)⟩, ⟨21, .callV [] (B r11), none⟩, ⟨24, .no, some (B false)⟩, ⟨27, .callV [] (B r14), none⟩, ⟨30, .br true, none⟩]) (rh := []) (ph := .raw) (ps := [Meets Try.prog 49 [(I p1.Thread), (I 0), (I 4)] (B r2), litA (B r2) = true, (B (!r2)) = (B false), Meets Try.prog 49 [(I p1.Kind), (I 1), (I 12)] (B r5), litA (B r5) = true, (B (!r5)) = (B false), Meets Try.prog 49 [(I p1.Obj), (I (-1)), (I 99)] (B r8), litA (B r8) = true, (B (!r8)) = (B false), Meets Try.prog 49 [(I p1.Lock), (I (-1)), (I 99)] (B r11), litA (B r11) = true, (B (!r11)) = (B false), Meets Try.prog 49 [(I p1.Pc), (I 0), (I 99)] (B r14), litA (B r14) = true, (!r14) = true, (B false) = (B false), litA (B false) = true]) (by kernel_rfl) ⟨(impl_in_m hr2), rfl, (litB c4), (impl_in_m hr5), rfl, (litB c7), (impl_in_m hr8), rfl, (litB c10), (impl_in_m hr11), rfl, (litB c13), (impl_in_m hr14), rfl, c15, rfl, rfl, trivial⟩
          · exact go_to hΘ hm hx hP hn (hs := [⟨0, .new 1001, none⟩, ⟨4, .callV [] (B r2), none⟩, ⟨6, .no, some (B false)⟩, ⟨9, .callV [] (B r5), none⟩, ⟨12, .no, some (B false)⟩, ⟨15, .callV [] (B r8), none⟩, ⟨18, .no, some (B false)⟩, ⟨21, .callV [] (B r11), none⟩, ⟨24, .no, some (B false)⟩, ⟨27, .callV [] (B r14), none⟩, ⟨30, .br false, none⟩]) (π := [(1001, 1)]) (ts := [1]) (kp := []) (ps := [Meets Try.prog 49 [(I p1.Thread), (I 0), (I 4)] (B r2), litA (B r2) = true, (B (!r2)) = (B false), Meets Try.prog 49 [(I p1.Kind), (I 1), (I 12)] (B r5), litA (B r5) = true, (B (!r5)) = (B false), Meets Try.prog 49 [(I p1.Obj), (I (-1)), (I 99)] (B r8), litA (B r8) = true, (B (!r8)) = (B false), Meets Try.prog 49 [(I p1.Lock), (I (-1)), (I 99)] (B r11), litA (B r11) = true, (B (!r11)) = (B false), Meets Try.prog 49 [(I p1.Pc), (I 0), (I 99)] (B r14), litA (B r14) = true, (!r14) = false, RenOK [(1001, 1)] [((o40 p1))]]) (by kernel_rfl) ⟨(impl_in_m hr2), rfl, (litB c4), (impl_in_m hr5), rfl, (litB c7), (impl_in_m hr8), rfl, (litB c10), (impl_in_m hr11), rfl, (litB c13), (impl_in_m hr14), rfl, c16, (rok rfl), trivial⟩ (impl_Event_isGood_j0_m hP hn hx p1  _ h)
noncomputable def body36 : Code := match Try.f36.body with | some c => c | none => .skip
noncomputable def impl_GoodTrace_1 (p1 : GEvent) : Option Bool :=
  Option.bind (impl_Event_isGood p1) fun r2 =>
  some (!r2)
theorem impl_GoodTrace_1_m {p1 : GEvent} {r : Bool} (h : impl_GoodTrace_1 p1 = some r) : Meets Try.prog 36 [(AV.agg ((o40 p1)))] (B r) := by
  refine meets_ofC Θ_ok Try.func36 rfl (c := body36) (by kernel_rfl) (Nat.le_of_ble_eq_true rfl) ?_
  intro E hP hn hx
  replace hn : E.n = 6 := hn
  have hm : E.P.follows .mixedOrders = true := by rw [hP]; exact mixed
  have hΘ : TOK E.P Θ := by rw [hP]; exact Θ_ok
  unfold impl_GoodTrace_1 at h
  show WAt E body36 (FQ (RetE Θ Try.f36.results.toList [] [] (B r) E)) [] ⟨[(0, (AV.agg ((o40 p1))))], [], [JJ]⟩
  obtain ⟨r2, hr2, h⟩ := bnS h
  have h := Option.some.inj h
  subst h
  exact go_ret hΘ hm hP hn (hs := [⟨0, .new 1001, none⟩, ⟨3, .callV [[]] (B r2), none⟩]) (rh := []) (ph := .raw) (ps := [Meets Try.prog 37 [(AV.agg ((o40 p1)))] (B r2), litA (B r2) = true, (B (!r2)) = (B (!r2)), litA (B (!r2)) = true]) (by kernel_rfl) ⟨(impl_Event_isGood_m hr2), rfl, rfl, rfl, trivial⟩
noncomputable def body48 : Code := match Try.f48.body with | some c => c | none => .skip
noncomputable def slices_IndexFunc_Event_Event__impl_GoodTrace_1_l0  (p1 : (List GEvent)) : Nat → Int → Option Int
  | 0, _ => none
  | n + 1, v2 =>
  if (decide (v2 < (p1.length : Int))) = true then
    Option.bind (rd p1 v2) fun x4 =>
    Option.bind (impl_GoodTrace_1 x4) fun r5 =>
    if r5 = true then
      some v2
    else
      slices_IndexFunc_Event_Event__impl_GoodTrace_1_l0 p1 n (w64 (v2 + 1))
  else
    some (-1)
theorem slices_IndexFunc_Event_Event__impl_GoodTrace_1_l0_m {E : Env} (hP : E.P = Try.prog) (hn : E.n = 19) (hx : ∀ p, p ∈ E.fx → p.1 ∈ ([] : List Nat)) (p1 : (List GEvent))  : ∀ (n : Nat) (v2 : Int) (r : Int), slices_IndexFunc_Event_Event__impl_GoodTrace_1_l0 p1 n v2 = some r → WAt E body48 (FQ (RetE Θ Try.f48.results.toList [] [] (I r) E)) [true, false, true, false] ⟨[(0, (AV.ro 5 (p1.map o40))), (1, (AV.fn 36 [])), (7, (I (p1.length : Int))), (8, (I v2))], [], [JJ]⟩ := by
  have hm : E.P.follows .mixedOrders = true := by rw [hP]; exact mixed
  have hΘ : TOK E.P Θ := by rw [hP]; exact Θ_ok
  intro n
  induction n with
  | zero => intro v2 r h; simp only [slices_IndexFunc_Event_Event__impl_GoodTrace_1_l0] at h; cases h
  | succ n ih =>
    intro v2 r h
    simp only [slices_IndexFunc_Event_Event__impl_GoodTrace_1_l0] at h
    rcases itS h with ⟨c3, h⟩ | ⟨c8, h⟩
    · obtain ⟨x4, hx4, h⟩ := bnS h
      obtain ⟨r5, hr5, h⟩ := bnS h
      rcases itS h with ⟨c6, h⟩ | ⟨c7, h⟩
      · have h := Option.some.inj h
        subst h
        exact go_ret hΘ hm hP hn (hs := [⟨1, .br true, none⟩, ⟨7, .row (o40 x4), none⟩, ⟨9, .callV [[]] (B r5), none⟩, ⟨10, .br true, none⟩]) (rh := []) (ph := .raw) (ps := [(decide (v2 < (p1.length : Int))) = true, (0 : Int) ≤ v2, (p1.map o40)[(Int.toNat v2)]? = some (o40 x4), Meets Try.prog 36 [(AV.agg ((o40 x4)))] (B r5), litA (B r5) = true, r5 = true, (I v2) = (I v2), litA (I v2) = true]) (by kernel_rfl) ⟨c3, (rd0 hx4), (rdM o40 hx4), (impl_GoodTrace_1_m hr5), rfl, c6, rfl, rfl, trivial⟩
      · exact go_to hΘ hm hx hP hn (hs := [⟨1, .br true, none⟩, ⟨7, .row (o40 x4), none⟩, ⟨9, .callV [[]] (B r5), none⟩, ⟨10, .br false, none⟩]) (π := []) (ts := [0, 1, 7, 8]) (kp := []) (ps := [(decide (v2 < (p1.length : Int))) = true, (0 : Int) ≤ v2, (p1.map o40)[(Int.toNat v2)]? = some (o40 x4), Meets Try.prog 36 [(AV.agg ((o40 x4)))] (B r5), litA (B r5) = true, r5 = false]) (by kernel_rfl) ⟨c3, (rd0 hx4), (rdM o40 hx4), (impl_GoodTrace_1_m hr5), rfl, c7, trivial⟩ (ih (w64 (v2 + 1)) _ h)
    · have h := Option.some.inj h
      subst h
      exact go_ret hΘ hm hP hn (hs := [⟨1, .br false, none⟩]) (rh := []) (ph := .raw) (ps := [(decide (v2 < (p1.length : Int))) = false, (I (-1)) = (I (-1)), litA (I (-1)) = true]) (by kernel_rfl) ⟨c8, rfl, rfl, trivial⟩
noncomputable def slices_IndexFunc_Event_Event__impl_GoodTrace_1 (p1 : (List GEvent)) : Option Int :=
  slices_IndexFunc_Event_Event__impl_GoodTrace_1_l0 p1 FU 0
theorem slices_IndexFunc_Event_Event__impl_GoodTrace_1_m {p1 : (List GEvent)} {r : Int} (h : slices_IndexFunc_Event_Event__impl_GoodTrace_1 p1 = some r) : Meets Try.prog 48 [(AV.ro 5 (p1.map o40)), (AV.fn 36 [])] (I r) := by
  refine meets_ofC Θ_ok Try.func48 rfl (c := body48) (by kernel_rfl) (Nat.le_of_ble_eq_true rfl) ?_
  intro E hP hn hx
  replace hn : E.n = 19 := hn
  have hm : E.P.follows .mixedOrders = true := by rw [hP]; exact mixed
  have hΘ : TOK E.P Θ := by rw [hP]; exact Θ_ok
  unfold slices_IndexFunc_Event_Event__impl_GoodTrace_1 at h
  show WAt E body48 (FQ (RetE Θ Try.f48.results.toList [] [] (I r) E)) [] ⟨[(0, (AV.ro 5 (p1.map o40))), (1, (AV.fn 36 []))], [], [JJ]⟩
  exact go_to hΘ hm hx hP hn (hs := [⟨2, .no, some (I (p1.length : Int))⟩]) (π := []) (ts := [0, 1, 7, 8]) (kp := []) (ps := [AV.lit (.int .i64 (((p1.map o40).length : Nat) : Int)) = (I (p1.length : Int))]) (by kernel_rfl) ⟨(lenM o40), trivial⟩ (slices_IndexFunc_Event_Event__impl_GoodTrace_1_l0_m hP hn hx p1 FU 0 _ h)
noncomputable def body35 : Code := match Try.f35.body with | some c => c | none => .skip
noncomputable def slices_ContainsFunc_Event_Event__impl_GoodTrace_1 (p1 : (List GEvent)) : Option Bool :=
  Option.bind (slices_IndexFunc_Event_Event__impl_GoodTrace_1 p1) fun r2 =>
  some (decide (r2 ≥ 0))
theorem slices_ContainsFunc_Event_Event__impl_GoodTrace_1_m {p1 : (List GEvent)} {r : Bool} (h : slices_ContainsFunc_Event_Event__impl_GoodTrace_1 p1 = some r) : Meets Try.prog 35 [(AV.ro 5 (p1.map o40)), (AV.fn 36 [])] (B r) := by
  refine meets_ofC Θ_ok Try.func35 rfl (c := body35) (by kernel_rfl) (Nat.le_of_ble_eq_true rfl) ?_
  intro E hP hn hx
  replace hn : E.n = 9 := hn
  have hm : E.P.follows .mixedOrders = true := by rw [hP]; exact mixed
  have hΘ : TOK E.P Θ := by rw [hP]; exact Θ_ok
  unfold slices_ContainsFunc_Event_Event__impl_GoodTrace_1 at h
  show WAt E body35 (FQ (RetE Θ Try.f35.results.toList [] [] (B r) E)) [] ⟨[(0, (AV.ro 5 (p1.map o40))), (1, (AV.fn 36 []))], [], [JJ]⟩
  obtain ⟨r2, hr2, h⟩ := bnS h
  have h := Option.some.inj h
  subst h
  exact go_ret hΘ hm hP hn (hs := [⟨3, .callV [] (I r2), none⟩]) (rh := []) (ph := .raw) (ps := [Meets Try.prog 48 [(AV.ro 5 (p1.map o40)), (AV.fn 36 [])] (I r2), litA (I r2) = true, (B (decide (r2 ≥ 0))) = (B (decide (r2 ≥ 0))), litA (B (decide (r2 ≥ 0))) = true]) (by kernel_rfl) ⟨(slices_IndexFunc_Event_Event__impl_GoodTrace_1_m hr2), rfl, rfl, rfl, trivial⟩
noncomputable def body21 : Code := match Try.f21.body with | some c => c | none => .skip
noncomputable def impl_GoodTrace (p1 : (List GEvent)) : Option Bool :=
  if (decide ((p1.length : Int) ≤ 200)) = true then
    Option.bind (slices_ContainsFunc_Event_Event__impl_GoodTrace_1 p1) fun r3 =>
    some (!r3)
  else
    some false
theorem impl_GoodTrace_m {p1 : (List GEvent)} {r : Bool} (h : impl_GoodTrace p1 = some r) : Meets Try.prog 21 [(AV.ro 5 (p1.map o40))] (B r) := by
  refine meets_ofC Θ_ok Try.func21 rfl (c := body21) (by kernel_rfl) (Nat.le_of_ble_eq_true rfl) ?_
  intro E hP hn hx
  replace hn : E.n = 11 := hn
  have hm : E.P.follows .mixedOrders = true := by rw [hP]; exact mixed
  have hΘ : TOK E.P Θ := by rw [hP]; exact Θ_ok
  unfold impl_GoodTrace at h
  show WAt E body21 (FQ (RetE Θ Try.f21.results.toList [] [] (B r) E)) [] ⟨[(0, (AV.ro 5 (p1.map o40)))], [], [JJ]⟩
  rcases itS h with ⟨c2, h⟩ | ⟨c4, h⟩
  · obtain ⟨r3, hr3, h⟩ := bnS h
    have h := Option.some.inj h
    subst h
    exact go_ret hΘ hm hP hn (hs := [⟨2, .no, some (I (p1.length : Int))⟩, ⟨4, .no, some (B true)⟩, ⟨6, .callV [] (B r3), none⟩]) (rh := []) (ph := .raw) (ps := [AV.lit (.int .i64 (((p1.map o40).length : Nat) : Int)) = (I (p1.length : Int)), (B (decide ((p1.length : Int) ≤ 200))) = (B true), Meets Try.prog 35 [(AV.ro 5 (p1.map o40)), (AV.fn 36 [])] (B r3), litA (B r3) = true, (B (!r3)) = (B (!r3)), litA (B (!r3)) = true]) (by kernel_rfl) ⟨(lenM o40), (litB c2), (slices_ContainsFunc_Event_Event__impl_GoodTrace_1_m hr3), rfl, rfl, rfl, trivial⟩
  · have h := Option.some.inj h
    subst h
    exact go_ret hΘ hm hP hn (hs := [⟨2, .no, some (I (p1.length : Int))⟩, ⟨4, .no, some (B false)⟩]) (rh := []) (ph := .raw) (ps := [AV.lit (.int .i64 (((p1.map o40).length : Nat) : Int)) = (I (p1.length : Int)), (B (decide ((p1.length : Int) ≤ 200))) = (B false), (B false) = (B false), litA (B false) = true]) (by kernel_rfl) ⟨(lenM o40), (litB c4), rfl, rfl, trivial⟩
noncomputable def body44 : Code := match Try.f44.body with | some c => c | none => .skip
noncomputable def impl_Event_gives (p1 : GEvent) : Option Int :=
  if (p1.Kind == 5) = true then
    some p1.Obj
  else
    if (p1.Kind == 8) = true then
      some p1.Lock
    else
      some (-1)
theorem impl_Event_gives_m {p1 : GEvent} {r : Int} (h : impl_Event_gives p1 = some r) : Meets Try.prog 44 [(AV.agg ((o40 p1)))] (I r) := by
  refine meets_ofC Θ_ok Try.func44 rfl (c := body44) (by kernel_rfl) (Nat.le_of_ble_eq_true rfl) ?_
  intro E hP hn hx
  replace hn : E.n = 13 := hn
  have hm : E.P.follows .mixedOrders = true := by rw [hP]; exact mixed
  have hΘ : TOK E.P Θ := by rw [hP]; exact Θ_ok
  unfold impl_Event_gives at h
  show WAt E body44 (FQ (RetE Θ Try.f44.results.toList [] [] (I r) E)) [] ⟨[(0, (AV.agg ((o40 p1))))], [], [JJ]⟩
  rcases itS h with ⟨c2, h⟩ | ⟨c3, h⟩
  · have h := Option.some.inj h
    subst h
    exact go_ret hΘ hm hP hn (hs := [⟨0, .new 1001, none⟩, ⟨6, .br true, none⟩]) (rh := []) (ph := .raw) (ps := [(p1.Kind == 5) = true, (I p1.Obj) = (I p1.Obj), litA (I p1.Obj) = true]) (by kernel_rfl) ⟨c2, rfl, rfl, trivial⟩
  · rcases itS h with ⟨c4, h⟩ | ⟨c5, h⟩
    · have h := Option.some.inj h
      subst h
      exact go_ret hΘ hm hP hn (hs := [⟨0, .new 1001, none⟩, ⟨6, .br false, none⟩, ⟨9, .br true, none⟩]) (rh := []) (ph := .raw) (ps := [(p1.Kind == 5) = false, (p1.Kind == 8) = true, (I p1.Lock) = (I p1.Lock), litA (I p1.Lock) = true]) (by kernel_rfl) ⟨c3, c4, rfl, rfl, trivial⟩
    · have h := Option.some.inj h
      subst h
      exact go_ret hΘ hm hP hn (hs := [⟨0, .new 1001, none⟩, ⟨6, .br false, none⟩, ⟨9, .br false, none⟩]) (rh := []) (ph := .raw) (ps := [(p1.Kind == 5) = false, (p1.Kind == 8) = false, (I (-1)) = (I (-1)), litA (I (-1)) = true]) (by kernel_rfl) ⟨c3, c5, rfl, rfl, trivial⟩
noncomputable def body43 : Code := match Try.f43.body with | some c => c | none => .skip
noncomputable def impl_Event_takes (p1 : GEvent) : Option Int :=
  if (p1.Kind == 4) = true then
    some p1.Obj
  else
    if (p1.Kind == 9) = true then
      some p1.Lock
    else
      some (-1)
theorem impl_Event_takes_m {p1 : GEvent} {r : Int} (h : impl_Event_takes p1 = some r) : Meets Try.prog 43 [(AV.agg ((o40 p1)))] (I r) := by
  refine meets_ofC Θ_ok Try.func43 rfl (c := body43) (by kernel_rfl) (Nat.le_of_ble_eq_true rfl) ?_
  intro E hP hn hx
  replace hn : E.n = 13 := hn
  have hm : E.P.follows .mixedOrders = true := by rw [hP]; exact mixed
  have hΘ : TOK E.P Θ := by rw [hP]; exact Θ_ok
  unfold impl_Event_takes at h
  show WAt E body43 (FQ (RetE Θ Try.f43.results.toList [] [] (I r) E)) [] ⟨[(0, (AV.agg ((o40 p1))))], [], [JJ]⟩
  rcases itS h with ⟨c2, h⟩ | ⟨c3, h⟩
  · have h := Option.some.inj h
    subst h
    exact go_ret hΘ hm hP hn (hs := [⟨0, .new 1001, none⟩, ⟨6, .br true, none⟩]) (rh := []) (ph := .raw) (ps := [(p1.Kind == 4) = true, (I p1.Obj) = (I p1.Obj), litA (I p1.Obj) = true]) (by kernel_rfl) ⟨c2, rfl, rfl, trivial⟩
  · rcases itS h with ⟨c4, h⟩ | ⟨c5, h⟩
    · have h := Option.some.inj h
      subst h
      exact go_ret hΘ hm hP hn (hs := [⟨0, .new 1001, none⟩, ⟨6, .br false, none⟩, ⟨9, .br true, none⟩]) (rh := []) (ph := .raw) (ps := [(p1.Kind == 4) = false, (p1.Kind == 9) = true, (I p1.Lock) = (I p1.Lock), litA (I p1.Lock) = true]) (by kernel_rfl) ⟨c3, c4, rfl, rfl, trivial⟩
    · have h := Option.some.inj h
      subst h
      exact go_ret hΘ hm hP hn (hs := [⟨0, .new 1001, none⟩, ⟨6, .br false, none⟩, ⟨9, .br false, none⟩]) (rh := []) (ph := .raw) (ps := [(p1.Kind == 4) = false, (p1.Kind == 9) = false, (I (-1)) = (I (-1)), litA (I (-1)) = true]) (by kernel_rfl) ⟨c3, c5, rfl, rfl, trivial⟩
noncomputable def body50 : Code := match Try.f50.body with | some c => c | none => .skip
noncomputable def impl_leads_j0  (p1 : GEvent) (p2 : GEvent)  : Option Bool :=
  if (p1.Kind == 6) = true then
    some (p1.Obj == p2.Thread)
  else
    if (p1.Kind == 11) = true then
      if (p2.Kind == 7) = true then
        some (p2.Obj == p1.Thread)
      else
        some false
    else
      if (p1.Kind == 10) = true then
        if (p2.Kind == 9) = true then
          some (p1.Lock == p2.Thread)
        else
          some false
      else
        some false
theorem impl_leads_j0_m {E : Env} (hP : E.P = Try.prog) (hn : E.n = 60) (hx : ∀ p, p ∈ E.fx → p.1 ∈ ([] : List Nat)) (p1 : GEvent) (p2 : GEvent)   (r : Bool) (h : impl_leads_j0 p1 p2  = some r) : WAt E body50 (FQ (RetE Θ Try.f50.results.toList [] [] (B r) E)) [true, false, false, true, true] ⟨[(2, (AV.ptr 1 0 0)), (3, (AV.ptr 2 0 0))], [(1, some ⟨40, 5, [((o40 p1))]⟩), (2, some ⟨40, 5, [((o40 p2))]⟩)], [1, 2, JJ]⟩ := by
  have hm : E.P.follows .mixedOrders = true := by rw [hP]; exact mixed
  have hΘ : TOK E.P Θ := by rw [hP]; exact Θ_ok
  unfold impl_leads_j0 at h
  rcases itS h with ⟨c11, h⟩ | ⟨c12, h⟩
  · have h := Option.some.inj h
    subst h
    exact go_ret hΘ hm hP hn (hs := [⟨4, .br true, none⟩]) (rh := []) (ph := .raw) (ps := [(p1.Kind == 6) = true, (B (p1.Obj == p2.Thread)) = (B (p1.Obj == p2.Thread)), litA (B (p1.Obj == p2.Thread)) = true]) (by kernel_rfl) ⟨c11, rfl, rfl, trivial⟩
  · rcases itS h with ⟨c13, h⟩ | ⟨c16, h⟩
    · rcases itS h with ⟨c14, h⟩ | ⟨c15, h⟩
      · have h := Option.some.inj h
        subst h
        exact go_ret hΘ hm hP hn (hs := [⟨4, .br false, none⟩, ⟨9, .br true, none⟩, ⟨13, .no, some (B true)⟩]) (rh := []) (ph := .raw) (ps := [(p1.Kind == 6) = false, (p1.Kind == 11) = true, (B (p2.Kind == 7)) = (B true), (B (p2.Obj == p1.Thread)) = (B (p2.Obj == p1.Thread)), litA (B (p2.Obj == p1.Thread)) = true]) (by kernel_rfl) ⟨c12, c13, (litB c14), rfl, rfl, trivial⟩
      · have h := Option.some.inj h
        subst h
        exact go_ret hΘ hm hP hn (hs := [⟨4, .br false, none⟩, ⟨9, .br true, none⟩, ⟨13, .no, some (B false)⟩]) (rh := []) (ph := .raw) (ps := [(p1.Kind == 6) = false, (p1.Kind == 11) = true, (B (p2.Kind == 7)) = (B false), (B false) = (B false), litA (B false) = true]) (by kernel_rfl) ⟨c12, c13, (litB c15), rfl, rfl, trivial⟩
    · rcases itS h with ⟨c17, h⟩ | ⟨c20, h⟩
      · rcases itS h with ⟨c18, h⟩ | ⟨c19, h⟩
        · have h := Option.some.inj h
          subst h
          exact go_ret hΘ hm hP hn (hs := [⟨4, .br false, none⟩, ⟨9, .br false, none⟩, ⟨14, .br true, none⟩, ⟨18, .no, some (B true)⟩]) (rh := []) (ph := .raw) (ps := [(p1.Kind == 6) = false, (p1.Kind == 11) = false, (p1.Kind == 10) = true, (B (p2.Kind == 9)) = (B true), (B (p1.Lock == p2.Thread)) = (B (p1.Lock == p2.Thread)), litA (B (p1.Lock == p2.Thread)) = true]) (by kernel_rfl) ⟨c12, c16, c17, (litB c18), rfl, rfl, trivial⟩
        · have h := Option.some.inj h
          subst h
          exact go_ret hΘ hm hP hn (hs := [⟨4, .br false, none⟩, ⟨9, .br false, none⟩, ⟨14, .br true, none⟩, ⟨18, .no, some (B false)⟩]) (rh := []) (ph := .raw) (ps := [(p1.Kind == 6) = false, (p1.Kind == 11) = false, (p1.Kind == 10) = true, (B (p2.Kind == 9)) = (B false), (B false) = (B false), litA (B false) = true]) (by kernel_rfl) ⟨c12, c16, c17, (litB c19), rfl, rfl, trivial⟩
      · have h := Option.some.inj h
        subst h
        exact go_ret hΘ hm hP hn (hs := [⟨4, .br false, none⟩, ⟨9, .br false, none⟩, ⟨14, .br false, none⟩]) (rh := []) (ph := .raw) (ps := [(p1.Kind == 6) = false, (p1.Kind == 11) = false, (p1.Kind == 10) = false, (B false) = (B false), litA (B false) = true]) (by kernel_rfl) ⟨c12, c16, c20, rfl, rfl, trivial⟩
noncomputable def impl_leads (p1 : GEvent) (p2 : GEvent) : Option Bool :=
  if (p1.Thread == p2.Thread) = true then
    some true
  else
    Option.bind (impl_Event_gives p1) fun r5 =>
    if (decide (r5 ≥ 0)) = true then
      Option.bind (impl_Event_gives p1) fun r7 =>
      Option.bind (impl_Event_takes p2) fun r8 =>
      if (r7 == r8) = true then
        some true
      else
        impl_leads_j0 p1 p2
    else
      impl_leads_j0 p1 p2
theorem impl_leads_m {p1 : GEvent} {p2 : GEvent} {r : Bool} (h : impl_leads p1 p2 = some r) : Meets Try.prog 50 [(AV.agg ((o40 p1))), (AV.agg ((o40 p2)))] (B r) := by
  refine meets_ofC Θ_ok Try.func50 rfl (c := body50) (by kernel_rfl) (Nat.le_of_ble_eq_true rfl) ?_
  intro E hP hn hx
  replace hn : E.n = 60 := hn
  have hm : E.P.follows .mixedOrders = true := by rw [hP]; exact mixed
  have hΘ : TOK E.P Θ := by rw [hP]; exact Θ_ok
  unfold impl_leads at h
  show WAt E body50 (FQ (RetE Θ Try.f50.results.toList [] [] (B r) E)) [] ⟨[(0, (AV.agg ((o40 p1)))), (1, (AV.agg ((o40 p2))))], [], [JJ]⟩
  rcases itS h with ⟨c3, h⟩ | ⟨c4, h⟩
  · have h := Option.some.inj h
    subst h
    exact go_ret hΘ hm hP hn (hs := [⟨0, .new 1001, none⟩, ⟨1, .new 1002, none⟩, ⟨8, .no, some (B true)⟩]) (rh := []) (ph := .raw) (ps := [(B (p1.Thread == p2.Thread)) = (B true), (B true) = (B true), litA (B true) = true]) (by kernel_rfl) ⟨(litB c3), rfl, rfl, trivial⟩
  · obtain ⟨r5, hr5, h⟩ := bnS h
    rcases itS h with ⟨c6, h⟩ | ⟨c21, h⟩
    · obtain ⟨r7, hr7, h⟩ := bnS h
      obtain ⟨r8, hr8, h⟩ := bnS h
      rcases itS h with ⟨c9, h⟩ | ⟨c10, h⟩
      · have h := Option.some.inj h
        subst h
        exact go_ret hΘ hm hP hn (hs := [⟨0, .new 1001, none⟩, ⟨1, .new 1002, none⟩, ⟨8, .no, some (B false)⟩, ⟨10, .callV [[]] (I r5), none⟩, ⟨12, .no, some (B true)⟩, ⟨14, .callV [[]] (I r7), none⟩, ⟨16, .callV [[]] (I r8), none⟩, ⟨21, .br true, none⟩]) (rh := []) (ph := .raw) (ps := [(B (p1.Thread == p2.Thread)) = (B false), Meets Try.prog 44 [(AV.agg ((o40 p1)))] (I r5), litA (I r5) = true, (B (decide (r5 ≥ 0))) = (B true), Meets Try.prog 44 [(AV.agg ((o40 p1)))] (I r7), litA (I r7) = true, Meets Try.prog 43 [(AV.agg ((o40 p2)))] (I r8), litA (I r8) = true, (r7 == r8) = true, (B true) = (B true), litA (B true) = true]) (by kernel_rfl) ⟨(litB c4), (impl_Event_gives_m hr5), rfl, (litB c6), (impl_Event_gives_m hr7), rfl, (impl_Event_takes_m hr8), rfl, c9, rfl, rfl, trivial⟩
      · exact go_to hΘ hm hx hP hn (hs := [⟨0, .new 1001, none⟩, ⟨1, .new 1002, none⟩, ⟨8, .no, some (B false)⟩, ⟨10, .callV [[]] (I r5), none⟩, ⟨12, .no, some (B true)⟩, ⟨14, .callV [[]] (I r7), none⟩, ⟨16, .callV [[]] (I r8), none⟩, ⟨21, .br false, none⟩]) (π := [(1001, 1), (1002, 2)]) (ts := [2, 3]) (kp := []) (ps := [(B (p1.Thread == p2.Thread)) = (B false), Meets Try.prog 44 [(AV.agg ((o40 p1)))] (I r5), litA (I r5) = true, (B (decide (r5 ≥ 0))) = (B true), Meets Try.prog 44 [(AV.agg ((o40 p1)))] (I r7), litA (I r7) = true, Meets Try.prog 43 [(AV.agg ((o40 p2)))] (I r8), litA (I r8) = true, (r7 == r8) = false, RenOK [(1001, 1), (1002, 2)] [((o40 p1))], RenOK [(1001, 1), (1002, 2)] [((o40 p2))]]) (by kernel_rfl) ⟨(litB c4), (impl_Event_gives_m hr5), rfl, (litB c6), (impl_Event_gives_m hr7), rfl, (impl_Event_takes_m hr8), rfl, c10, (rok rfl), (rok rfl), trivial⟩ (impl_leads_j0_m hP hn hx p1 p2  _ h)
    · exact go_to hΘ hm hx hP hn (hs := [⟨0, .new 1001, none⟩, ⟨1, .new 1002, none⟩, ⟨8, .no, some (B false)⟩, ⟨10, .callV [[]] (I r5), none⟩, ⟨12, .no, some (B false)⟩]) (π := [(1001, 1), (1002, 2)]) (ts := [2, 3]) (kp := []) (ps := [(B (p1.Thread == p2.Thread)) = (B false), Meets Try.prog 44 [(AV.agg ((o40 p1)))] (I r5), litA (I r5) = true, (B (decide (r5 ≥ 0))) = (B false), RenOK [(1001, 1), (1002, 2)] [((o40 p1))], RenOK [(1001, 1), (1002, 2)] [((o40 p2))]]) (by kernel_rfl) ⟨(litB c4), (impl_Event_gives_m hr5), rfl, (litB c21), (rok rfl), (rok rfl), trivial⟩ (impl_leads_j0_m hP hn hx p1 p2  _ h)
noncomputable def body52 : Code := match Try.f52.body with | some c => c | none => .skip
noncomputable def impl_places_joined_l0   : Nat → (Vector Int 4) → (Vector Int 4) → (Vector Int 4) → Int → Option (Vector Int 4)
  | 0, _, _, _, _ => none
  | n + 1, a3, a4, a5, v6 =>
  if (decide (v6 < 4)) = true then
    Option.bind (rdv a3 v6) fun x8 =>
    Option.bind (rdv a4 v6) fun x9 =>
    Option.bind (rdv a3 v6) fun x10 =>
    impl_places_joined_l0 n (a3.setIfInBounds (Int.toNat v6) (ior .u64 x8 x9)) a4 a5 (w64 (v6 + 1))
  else
    some a3
theorem impl_places_joined_l0_m {E : Env} (hP : E.P = Try.prog) (hn : E.n = 19) (hx : ∀ p, p ∈ E.fx → p.1 ∈ ([] : List Nat))   : ∀ (n : Nat) (a3 : (Vector Int 4)) (a4 : (Vector Int 4)) (a5 : (Vector Int 4)) (v6 : Int) (r : (Vector Int 4)), impl_places_joined_l0  n a3 a4 a5 v6 = some r → WAt E body52 (FQ (RetE Θ Try.f52.results.toList [] [] (AV.agg (o72 r)) E)) [true, false, true, false] ⟨[(2, (AV.ptr 1 0 0)), (3, (AV.ptr 2 0 0)), (4, (AV.ptr 3 0 0)), (6, (I v6))], [(1, some ⟨72, 4, [((o72 a3))]⟩), (2, some ⟨72, 4, [((o72 a4))]⟩), (3, some ⟨72, 4, [((o72 a5))]⟩)], [1, 2, 3, JJ]⟩ := by
  have hm : E.P.follows .mixedOrders = true := by rw [hP]; exact mixed
  have hΘ : TOK E.P Θ := by rw [hP]; exact Θ_ok
  intro n
  induction n with
  | zero => intro a3 a4 a5 v6 r h; simp only [impl_places_joined_l0] at h; cases h
  | succ n ih =>
    intro a3 a4 a5 v6 r h
    simp only [impl_places_joined_l0] at h
    rcases itS h with ⟨c7, h⟩ | ⟨c11, h⟩
    · obtain ⟨x8, hx8, h⟩ := bnS h
      obtain ⟨x9, hx9, h⟩ := bnS h
      obtain ⟨x10, hx10, h⟩ := bnS h
      exact go_to hΘ hm hx hP hn (hs := [⟨1, .br true, none⟩, ⟨6, .cel ((o72 a3)) (IK .u64 x8), none⟩, ⟨9, .cel ((o72 a4)) (IK .u64 x9), none⟩, ⟨12, .sto ((o72 a3)) [((o72 (a3.setIfInBounds (Int.toNat v6) (ior .u64 x8 x9))))], none⟩]) (π := [(1, 1), (2, 2), (3, 3)]) (ts := [2, 3, 4, 6]) (kp := []) (ps := [(decide (v6 < 4)) = true, (0 : Int) ≤ v6, v6 < ((4 : Nat) : Int), ((o72 a3))[(Int.toNat v6)]? = some (IK .u64 x8), [((o72 a3))][0]? = some ((o72 a3)), (0 : Int) ≤ v6, v6 < ((4 : Nat) : Int), ((o72 a4))[(Int.toNat v6)]? = some (IK .u64 x9), [((o72 a4))][0]? = some ((o72 a4)), (0 : Int) ≤ v6, v6 < ((4 : Nat) : Int), [((o72 a3))][0]? = some ((o72 a3)), [((o72 a3))].set 0 (wr ((o72 a3)) (Int.toNat v6) [(IK .u64 (ior .u64 x8 x9))]) = [((o72 (a3.setIfInBounds (Int.toNat v6) (ior .u64 x8 x9))))], [(IK .u64 (ior .u64 x8 x9))].length = 1, (Int.toNat v6) + [(IK .u64 (ior .u64 x8 x9))].length ≤ ((o72 a3)).length, RenOK [(1, 1), (2, 2), (3, 3)] [((o72 (a3.setIfInBounds (Int.toNat v6) (ior .u64 x8 x9))))], RenOK [(1, 1), (2, 2), (3, 3)] [((o72 a4))], RenOK [(1, 1), (2, 2), (3, 3)] [((o72 a5))]]) (by kernel_rfl) ⟨c7, (rv0 hx8), (rvL hx8), (rvM k70 hx8), rfl, (rv0 hx9), (rvL hx9), (rvM k70 hx9), rfl, (rv0 hx10), (rvL hx10), rfl, (vecWr k70 _ (rvLt hx10)), rfl, (vecLe k70 hx10), (rok (treeB t72 (a3.setIfInBounds (Int.toNat v6) (ior .u64 x8 x9)))), (rok (treeB t72 a4)), (rok (treeB t72 a5)), trivial⟩ (ih (a3.setIfInBounds (Int.toNat v6) (ior .u64 x8 x9)) a4 a5 (w64 (v6 + 1)) _ h)
    · have h := Option.some.inj h
      subst h
      exact go_ret hΘ hm hP hn (hs := [⟨1, .br false, none⟩, ⟨2, .agg ((o72 a3)) ((o72 a3)), none⟩, ⟨3, .stoS ((o72 a5)) [((o72 a3))], none⟩]) (rh := [.agg ((o72 a3)) ((o72 a3))]) (ph := .raw) (ps := [(decide (v6 < 4)) = false, 0 + 4 ≤ ((o72 a3)).length, (((o72 a3)).drop 0).take 4 = ((o72 a3)), ((o72 a3)).all AV.plain = true, [((o72 a3))][0]? = some ((o72 a3)), [((o72 a5))][0]? = some ((o72 a5)), [((o72 a5))].set 0 (wr ((o72 a5)) 0 ((o72 a3))) = [((o72 a3))], ((o72 a3)).length = 4, 0 + ((o72 a3)).length ≤ ((o72 a5)).length, ((o72 a3)).all okLit = true, 0 + 4 ≤ ((o72 a3)).length, (((o72 a3)).drop 0).take 4 = ((o72 a3)), ((o72 a3)).all AV.plain = true, [((o72 a3))][0]? = some ((o72 a3)), (AV.agg ((o72 a3))) = (AV.agg ((o72 a3))), litA (AV.agg ((o72 a3))) = true]) (by kernel_rfl) ⟨c11, (vecLe0 k70), (vecAgg k70), (pa72 _), rfl, rfl, (vecSt k70 k70), (vecLen k70), (vecLL k70 k70), (vecAll k70 (fun _ => rfl)), (vecLe0 k70), (vecAgg k70), (pa72 _), rfl, rfl, (vecLit k70 (fun _ => rfl)), trivial⟩
noncomputable def impl_places_joined (p1 : (Vector Int 4)) (p2 : (Vector Int 4)) : Option (Vector Int 4) :=
  impl_places_joined_l0 FU p1 p2 (Vector.replicate 4 0) 0
theorem impl_places_joined_m {p1 : (Vector Int 4)} {p2 : (Vector Int 4)} {r : (Vector Int 4)} (h : impl_places_joined p1 p2 = some r) : Meets Try.prog 52 [(AV.agg ((o72 p1))), (AV.agg ((o72 p2)))] (AV.agg (o72 r)) := by
  refine meets_ofC Θ_ok Try.func52 rfl (c := body52) (by kernel_rfl) (Nat.le_of_ble_eq_true rfl) ?_
  intro E hP hn hx
  replace hn : E.n = 19 := hn
  have hm : E.P.follows .mixedOrders = true := by rw [hP]; exact mixed
  have hΘ : TOK E.P Θ := by rw [hP]; exact Θ_ok
  unfold impl_places_joined at h
  show WAt E body52 (FQ (RetE Θ Try.f52.results.toList [] [] (AV.agg (o72 r)) E)) [] ⟨[(0, (AV.agg ((o72 p1)))), (1, (AV.agg ((o72 p2))))], [], [JJ]⟩
  exact go_to hΘ hm hx hP hn (hs := [⟨0, .nw 1001 [((o72 p1))], none⟩, ⟨1, .nw 1002 [((o72 p2))], none⟩, ⟨2, .nw 1003 [((o72 (Vector.replicate 4 0)))], none⟩]) (π := [(1001, 1), (1002, 2), (1003, 3)]) (ts := [2, 3, 4, 6]) (kp := []) (ps := [[((o72 p1))] = [((o72 p1))], ((o72 p1)).length = 4, ((o72 p1)).all okLit = true, 0 < ((o72 p1)).length, [((o72 p2))] = [((o72 p2))], ((o72 p2)).length = 4, ((o72 p2)).all okLit = true, 0 < ((o72 p2)).length, [litL [.int .u64 0, .int .u64 0, .int .u64 0, .int .u64 0]] = [((o72 (Vector.replicate 4 0)))], RenOK [(1001, 1), (1002, 2), (1003, 3)] [((o72 p1))], RenOK [(1001, 1), (1002, 2), (1003, 3)] [((o72 p2))], RenOK [(1001, 1), (1002, 2), (1003, 3)] [((o72 (Vector.replicate 4 0)))]]) (by kernel_rfl) ⟨rfl, (vecLen k70), (vecAll k70 (fun _ => rfl)), (vecPos k70 (by decide)), rfl, (vecLen k70), (vecAll k70 (fun _ => rfl)), (vecPos k70 (by decide)), rfl, (rok (treeB t72 p1)), (rok (treeB t72 p2)), (rok (treeB t72 (Vector.replicate 4 0))), trivial⟩ (impl_places_joined_l0_m hP hn hx FU p1 p2 (Vector.replicate 4 0) 0 _ h)
noncomputable def body51 : Code := match Try.f51.body with | some c => c | none => .skip
noncomputable def impl_places_with (p1 : (Vector Int 4)) (p2 : Int) : Option (Vector Int 4) :=
  Option.bind (rdv p1 (w64 (Int.tdiv p2 64))) fun x3 =>
  Option.bind (ge0 (Int.tmod p2 64)) fun q4 =>
  Option.bind (rdv p1 (w64 (Int.tdiv p2 64))) fun x5 =>
  some (p1.setIfInBounds (Int.toNat (w64 (Int.tdiv p2 64))) (ior .u64 x3 (IntKind.wrap .u64 (1 * 2 ^ (min (Int.toNat (Int.tmod p2 64)) 64)))))
theorem impl_places_with_m {p1 : (Vector Int 4)} {p2 : Int} {r : (Vector Int 4)} (h : impl_places_with p1 p2 = some r) : Meets Try.prog 51 [(AV.agg ((o72 p1))), (I p2)] (AV.agg (o72 r)) := by
  refine meets_ofC Θ_ok Try.func51 rfl (c := body51) (by kernel_rfl) (Nat.le_of_ble_eq_true rfl) ?_
  intro E hP hn hx
  replace hn : E.n = 15 := hn
  have hm : E.P.follows .mixedOrders = true := by rw [hP]; exact mixed
  have hΘ : TOK E.P Θ := by rw [hP]; exact Θ_ok
  unfold impl_places_with at h
  show WAt E body51 (FQ (RetE Θ Try.f51.results.toList [] [] (AV.agg (o72 r)) E)) [] ⟨[(0, (AV.agg ((o72 p1)))), (1, (I p2))], [], [JJ]⟩
  obtain ⟨x3, hx3, h⟩ := bnS h
  obtain ⟨q4, hq4, h⟩ := bnS h
  obtain ⟨x5, hx5, h⟩ := bnS h
  have h := Option.some.inj h
  subst h
  exact go_ret hΘ hm hP hn (hs := [⟨0, .nw 1001 [((o72 p1))], none⟩, ⟨1, .nw 1002 [((o72 (Vector.replicate 4 0)))], none⟩, ⟨5, .cel ((o72 p1)) (IK .u64 x3), none⟩, ⟨11, .sto ((o72 p1)) [((o72 (p1.setIfInBounds (Int.toNat (w64 (Int.tdiv p2 64))) (ior .u64 x3 (IntKind.wrap .u64 (1 * 2 ^ (min (Int.toNat (Int.tmod p2 64)) 64)))))))], none⟩, ⟨12, .agg ((o72 (p1.setIfInBounds (Int.toNat (w64 (Int.tdiv p2 64))) (ior .u64 x3 (IntKind.wrap .u64 (1 * 2 ^ (min (Int.toNat (Int.tmod p2 64)) 64))))))) ((o72 (p1.setIfInBounds (Int.toNat (w64 (Int.tdiv p2 64))) (ior .u64 x3 (IntKind.wrap .u64 (1 * 2 ^ (min (Int.toNat (Int.tmod p2 64)) 64))))))), none⟩, ⟨13, .stoS ((o72 (Vector.replicate 4 0))) [((o72 (p1.setIfInBounds (Int.toNat (w64 (Int.tdiv p2 64))) (ior .u64 x3 (IntKind.wrap .u64 (1 * 2 ^ (min (Int.toNat (Int.tmod p2 64)) 64)))))))], none⟩]) (rh := [.agg ((o72 (p1.setIfInBounds (Int.toNat (w64 (Int.tdiv p2 64))) (ior .u64 x3 (IntKind.wrap .u64 (1 * 2 ^ (min (Int.toNat (Int.tmod p2 64)) 64))))))) ((o72 (p1.setIfInBounds (Int.toNat (w64 (Int.tdiv p2 64))) (ior .u64 x3 (IntKind.wrap .u64 (1 * 2 ^ (min (Int.toNat (Int.tmod p2 64)) 64)))))))]) (ph := .raw) (ps := [[((o72 p1))] = [((o72 p1))], ((o72 p1)).length = 4, ((o72 p1)).all okLit = true, 0 < ((o72 p1)).length, [litL [.int .u64 0, .int .u64 0, .int .u64 0, .int .u64 0]] = [((o72 (Vector.replicate 4 0)))], 64 ≠ (0 : Int), (0 : Int) ≤ (w64 (Int.tdiv p2 64)), (w64 (Int.tdiv p2 64)) < ((4 : Nat) : Int), ((o72 p1))[(Int.toNat (w64 (Int.tdiv p2 64)))]? = some (IK .u64 x3), [((o72 p1))][0]? = some ((o72 p1)), 64 ≠ (0 : Int), ¬ (Int.tmod p2 64) < (0 : Int), (0 : Int) ≤ (w64 (Int.tdiv p2 64)), (w64 (Int.tdiv p2 64)) < ((4 : Nat) : Int), [((o72 p1))][0]? = some ((o72 p1)), [((o72 p1))].set 0 (wr ((o72 p1)) (Int.toNat (w64 (Int.tdiv p2 64))) [(IK .u64 (ior .u64 x3 (IntKind.wrap .u64 (1 * 2 ^ (min (Int.toNat (Int.tmod p2 64)) 64)))))]) = [((o72 (p1.setIfInBounds (Int.toNat (w64 (Int.tdiv p2 64))) (ior .u64 x3 (IntKind.wrap .u64 (1 * 2 ^ (min (Int.toNat (Int.tmod p2 64)) 64)))))))], [(IK .u64 (ior .u64 x3 (IntKind.wrap .u64 (1 * 2 ^ (min (Int.toNat (Int.tmod p2 64)) 64)))))].length = 1, (Int.toNat (w64 (Int.tdiv p2 64))) + [(IK .u64 (ior .u64 x3 (IntKind.wrap .u64 (1 * 2 ^ (min (Int.toNat (Int.tmod p2 64)) 64)))))].length ≤ ((o72 p1)).length, 0 + 4 ≤ ((o72 (p1.setIfInBounds (Int.toNat (w64 (Int.tdiv p2 64))) (ior .u64 x3 (IntKind.wrap .u64 (1 * 2 ^ (min (Int.toNat (Int.tmod p2 64)) 64))))))).length, (((o72 (p1.setIfInBounds (Int.toNat (w64 (Int.tdiv p2 64))) (ior .u64 x3 (IntKind.wrap .u64 (1 * 2 ^ (min (Int.toNat (Int.tmod p2 64)) 64))))))).drop 0).take 4 = ((o72 (p1.setIfInBounds (Int.toNat (w64 (Int.tdiv p2 64))) (ior .u64 x3 (IntKind.wrap .u64 (1 * 2 ^ (min (Int.toNat (Int.tmod p2 64)) 64))))))), ((o72 (p1.setIfInBounds (Int.toNat (w64 (Int.tdiv p2 64))) (ior .u64 x3 (IntKind.wrap .u64 (1 * 2 ^ (min (Int.toNat (Int.tmod p2 64)) 64))))))).all AV.plain = true, [((o72 (p1.setIfInBounds (Int.toNat (w64 (Int.tdiv p2 64))) (ior .u64 x3 (IntKind.wrap .u64 (1 * 2 ^ (min (Int.toNat (Int.tmod p2 64)) 64)))))))][0]? = some ((o72 (p1.setIfInBounds (Int.toNat (w64 (Int.tdiv p2 64))) (ior .u64 x3 (IntKind.wrap .u64 (1 * 2 ^ (min (Int.toNat (Int.tmod p2 64)) 64))))))), [((o72 (Vector.replicate 4 0)))][0]? = some ((o72 (Vector.replicate 4 0))), [((o72 (Vector.replicate 4 0)))].set 0 (wr ((o72 (Vector.replicate 4 0))) 0 ((o72 (p1.setIfInBounds (Int.toNat (w64 (Int.tdiv p2 64))) (ior .u64 x3 (IntKind.wrap .u64 (1 * 2 ^ (min (Int.toNat (Int.tmod p2 64)) 64)))))))) = [((o72 (p1.setIfInBounds (Int.toNat (w64 (Int.tdiv p2 64))) (ior .u64 x3 (IntKind.wrap .u64 (1 * 2 ^ (min (Int.toNat (Int.tmod p2 64)) 64)))))))], ((o72 (p1.setIfInBounds (Int.toNat (w64 (Int.tdiv p2 64))) (ior .u64 x3 (IntKind.wrap .u64 (1 * 2 ^ (min (Int.toNat (Int.tmod p2 64)) 64))))))).length = 4, 0 + ((o72 (p1.setIfInBounds (Int.toNat (w64 (Int.tdiv p2 64))) (ior .u64 x3 (IntKind.wrap .u64 (1 * 2 ^ (min (Int.toNat (Int.tmod p2 64)) 64))))))).length ≤ ((o72 (Vector.replicate 4 0))).length, ((o72 (p1.setIfInBounds (Int.toNat (w64 (Int.tdiv p2 64))) (ior .u64 x3 (IntKind.wrap .u64 (1 * 2 ^ (min (Int.toNat (Int.tmod p2 64)) 64))))))).all okLit = true, 0 + 4 ≤ ((o72 (p1.setIfInBounds (Int.toNat (w64 (Int.tdiv p2 64))) (ior .u64 x3 (IntKind.wrap .u64 (1 * 2 ^ (min (Int.toNat (Int.tmod p2 64)) 64))))))).length, (((o72 (p1.setIfInBounds (Int.toNat (w64 (Int.tdiv p2 64))) (ior .u64 x3 (IntKind.wrap .u64 (1 * 2 ^ (min (Int.toNat (Int.tmod p2 64)) 64))))))).drop 0).take 4 = ((o72 (p1.setIfInBounds (Int.toNat (w64 (Int.tdiv p2 64))) (ior .u64 x3 (IntKind.wrap .u64 (1 * 2 ^ (min (Int.toNat (Int.tmod p2 64)) 64))))))), ((o72 (p1.setIfInBounds (Int.toNat (w64 (Int.tdiv p2 64))) (ior .u64 x3 (IntKind.wrap .u64 (1 * 2 ^ (min (Int.toNat (Int.tmod p2 64)) 64))))))).all AV.plain = true, [((o72 (p1.setIfInBounds (Int.toNat (w64 (Int.tdiv p2 64))) (ior .u64 x3 (IntKind.wrap .u64 (1 * 2 ^ (min (Int.toNat (Int.tmod p2 64)) 64)))))))][0]? = some ((o72 (p1.setIfInBounds (Int.toNat (w64 (Int.tdiv p2 64))) (ior .u64 x3 (IntKind.wrap .u64 (1 * 2 ^ (min (Int.toNat (Int.tmod p2 64)) 64))))))), (AV.agg ((o72 (p1.setIfInBounds (Int.toNat (w64 (Int.tdiv p2 64))) (ior .u64 x3 (IntKind.wrap .u64 (1 * 2 ^ (min (Int.toNat (Int.tmod p2 64)) 64)))))))) = (AV.agg ((o72 (p1.setIfInBounds (Int.toNat (w64 (Int.tdiv p2 64))) (ior .u64 x3 (IntKind.wrap .u64 (1 * 2 ^ (min (Int.toNat (Int.tmod p2 64)) 64)))))))), litA (AV.agg ((o72 (p1.setIfInBounds (Int.toNat (w64 (Int.tdiv p2 64))) (ior .u64 x3 (IntKind.wrap .u64 (1 * 2 ^ (min (Int.toNat (Int.tmod p2 64)) 64)))))))) = true]) (by kernel_rfl) ⟨rfl, (vecLen k70), (vecAll k70 (fun _ => rfl)), (vecPos k70 (by decide)), rfl, (by decide), (rv0 hx3), (rvL hx3), (rvM k70 hx3), rfl, (by decide), (ge0E hq4), (rv0 hx5), (rvL hx5), rfl, (vecWr k70 _ (rvLt hx5)), rfl, (vecLe k70 hx5), (vecLe0 k70), (vecAgg k70), (pa72 _), rfl, rfl, (vecSt k70 k70), (vecLen k70), (vecLL k70 k70), (vecAll k70 (fun _ => rfl)), (vecLe0 k70), (vecAgg k70), (pa72 _), rfl, rfl, (vecLit k70 (fun _ => rfl)), trivial⟩
noncomputable def body38 : Code := match Try.f38.body with | some c => c | none => .skip
noncomputable def impl_aheadOf_l1 (K0 : (List (Vector Int 4)) → Int → Option (List (Vector Int 4))) (p1 : (List GEvent)) (v4 : Int) : Nat → (List (Vector Int 4)) → Int → Option (List (Vector Int 4))
  | 0, _, _ => none
  | n + 1, a6, v7 =>
  if (decide (v7 < v4)) = true then
    Option.bind (rd p1 v7) fun x9 =>
    Option.bind (rd p1 v4) fun x10 =>
    Option.bind (impl_leads x9 x10) fun r11 =>
    if r11 = true then
      Option.bind (rd a6 v4) fun x13 =>
      Option.bind (impl_places_with x13 v7) fun r14 =>
      Option.bind (rd a6 v7) fun x15 =>
      Option.bind (impl_places_joined r14 x15) fun r16 =>
      impl_aheadOf_l1 K0 p1 v4 n (a6.set (Int.toNat v4) r16) (w64 (v7 + 1))
    else
      impl_aheadOf_l1 K0 p1 v4 n a6 (w64 (v7 + 1))
  else
    K0 a6 (w64 (v4 + 1))
theorem impl_aheadOf_l1_m {E : Env} (hP : E.P = Try.prog) (hn : E.n = 44) (hx : ∀ p, p ∈ E.fx → p.1 ∈ ([] : List Nat)) (p1 : (List GEvent)) (v4 : Int) {K0 : (List (Vector Int 4)) → Int → Option (List (Vector Int 4))} (hK0 : ∀ (a3 : (List (Vector Int 4))) (v4 : Int) (r : (List (Vector Int 4))), K0 a3 v4 = some r → WAt E body38 (FQ (RetE Θ Try.f38.results.toList [] [] (AV.own 72 4 (r.map o72)) E)) [true, true, false, true, false] ⟨[(0, (AV.ro 5 (p1.map o40))), (3, (AV.sl 1 0 (List.length (a3.map o72)))), (10, (I (p1.length : Int))), (11, (I v4))], [(1, some ⟨72, 4, (a3.map o72)⟩)], [1, JJ]⟩) : ∀ (n : Nat) (a6 : (List (Vector Int 4))) (v7 : Int) (r : (List (Vector Int 4))), impl_aheadOf_l1 K0 p1 v4 n a6 v7 = some r → WAt E body38 (FQ (RetE Θ Try.f38.results.toList [] [] (AV.own 72 4 (r.map o72)) E)) [true, true, false, true, false, false, true, true, false, false, true, true, false] ⟨[(0, (AV.ro 5 (p1.map o40))), (3, (AV.sl 1 0 (List.length (a6.map o72)))), (4, (I v4)), (10, (I (p1.length : Int))), (11, (I v4)), (14, (I v4)), (15, (I v7))], [(1, some ⟨72, 4, (a6.map o72)⟩)], [1, JJ]⟩ := by
  have hm : E.P.follows .mixedOrders = true := by rw [hP]; exact mixed
  have hΘ : TOK E.P Θ := by rw [hP]; exact Θ_ok
  intro n
  induction n with
  | zero => intro a6 v7 r h; simp only [impl_aheadOf_l1] at h; cases h
  | succ n ih =>
    intro a6 v7 r h
    simp only [impl_aheadOf_l1] at h
    rcases itS h with ⟨c8, h⟩ | ⟨c18, h⟩
    · obtain ⟨x9, hx9, h⟩ := bnS h
      obtain ⟨x10, hx10, h⟩ := bnS h
      obtain ⟨r11, hr11, h⟩ := bnS h
      rcases itS h with ⟨c12, h⟩ | ⟨c17, h⟩
      · obtain ⟨x13, hx13, h⟩ := bnS h
        obtain ⟨r14, hr14, h⟩ := bnS h
        obtain ⟨x15, hx15, h⟩ := bnS h
        obtain ⟨r16, hr16, h⟩ := bnS h
        exact go_to hΘ hm hx hP hn (hs := [⟨1, .br true, none⟩, ⟨6, .row (o40 x9), none⟩, ⟨10, .row (o40 x10), none⟩, ⟨12, .callV [[], []] (B r11), none⟩, ⟨13, .br true, none⟩, ⟨19, .agg ((o72 x13)) ((o72 x13)), none⟩, ⟨21, .callV [[[AV.dead]]] (AV.agg (o72 r14)), none⟩, ⟨25, .agg ((o72 x15)) ((o72 x15)), none⟩, ⟨26, .callV [[[AV.dead]], [[AV.dead]]] (AV.agg (o72 r16)), none⟩, ⟨28, .stoS ((o72 x13)) ((a6.set (Int.toNat v4) r16).map o72), none⟩, ⟨31, .slen 3 (List.length ((a6.set (Int.toNat v4) r16).map o72)), none⟩]) (π := [(1, 1)]) (ts := [0, 3, 4, 10, 11, 14, 15]) (kp := []) (ps := [(decide (v7 < v4)) = true, (0 : Int) ≤ v7, (p1.map o40)[(Int.toNat v7)]? = some (o40 x9), (0 : Int) ≤ v4, (p1.map o40)[(Int.toNat v4)]? = some (o40 x10), Meets Try.prog 50 [(AV.agg ((o40 x9))), (AV.agg ((o40 x10)))] (B r11), litA (B r11) = true, r11 = true, (0 : Int) ≤ v4, v4 < (((List.length (a6.map o72)) : Nat) : Int), 0 + 4 ≤ ((o72 x13)).length, (((o72 x13)).drop 0).take 4 = ((o72 x13)), ((o72 x13)).all AV.plain = true, (a6.map o72)[(Int.toNat v4)]? = some ((o72 x13)), Meets Try.prog 51 [(AV.agg ((o72 x13))), (I v7)] (AV.agg (o72 r14)), litA (AV.agg (o72 r14)) = true, ((o72 x13)).all okLit = true, (0 : Int) ≤ v7, v7 < (((List.length (a6.map o72)) : Nat) : Int), 0 + 4 ≤ ((o72 x15)).length, (((o72 x15)).drop 0).take 4 = ((o72 x15)), ((o72 x15)).all AV.plain = true, (a6.map o72)[(Int.toNat v7)]? = some ((o72 x15)), Meets Try.prog 52 [(AV.agg ((o72 r14))), (AV.agg ((o72 x15)))] (AV.agg (o72 r16)), litA (AV.agg (o72 r16)) = true, ((o72 r14)).all okLit = true, ((o72 x15)).all okLit = true, (0 : Int) ≤ v4, v4 < (((List.length (a6.map o72)) : Nat) : Int), (a6.map o72)[(Int.toNat v4)]? = some ((o72 x13)), (a6.map o72).set (Int.toNat v4) (wr ((o72 x13)) 0 ((o72 r16))) = ((a6.set (Int.toNat v4) r16).map o72), ((o72 r16)).length = 4, 0 + ((o72 r16)).length ≤ ((o72 x13)).length, ((o72 r16)).all okLit = true, (List.length (a6.map o72)) = (List.length ((a6.set (Int.toNat v4) r16).map o72)), RenOK [(1, 1)] ((a6.set (Int.toNat v4) r16).map o72)]) (by kernel_rfl) ⟨c8, (rd0 hx9), (rdM o40 hx9), (rd0 hx10), (rdM o40 hx10), (impl_leads_m hr11), rfl, c12, (rd0 hx13), (rdL o72 hx13), (vecLe0 k70), (vecAgg k70), (pa72 _), (rdM o72 hx13), (impl_places_with_m hr14), (vecLit k70 (fun _ => rfl)), (vecAll k70 (fun _ => rfl)), (rd0 hx15), (rdL o72 hx15), (vecLe0 k70), (vecAgg k70), (pa72 _), (rdM o72 hx15), (impl_places_joined_m hr16), (vecLit k70 (fun _ => rfl)), (vecAll k70 (fun _ => rfl)), (vecAll k70 (fun _ => rfl)), (rd0 hx13), (rdL o72 hx13), (rdM o72 hx13), (setV k70 (fun _ => rfl)), (vecLen k70), (vecLL k70 k70), (vecAll k70 (fun _ => rfl)), (by first | exact lnSet _ | exact lnSet2 _ | exact apLn _ (by assumption) | simp only [List.length_map, List.length_set, List.length_cons, List.length_nil]), (rok (treeM t72)), trivial⟩ (ih (a6.set (Int.toNat v4) r16) (w64 (v7 + 1)) _ h)
      · exact go_to hΘ hm hx hP hn (hs := [⟨1, .br true, none⟩, ⟨6, .row (o40 x9), none⟩, ⟨10, .row (o40 x10), none⟩, ⟨12, .callV [[], []] (B r11), none⟩, ⟨13, .br false, none⟩]) (π := [(1, 1)]) (ts := [0, 3, 4, 10, 11, 14, 15]) (kp := []) (ps := [(decide (v7 < v4)) = true, (0 : Int) ≤ v7, (p1.map o40)[(Int.toNat v7)]? = some (o40 x9), (0 : Int) ≤ v4, (p1.map o40)[(Int.toNat v4)]? = some (o40 x10), Meets Try.prog 50 [(AV.agg ((o40 x9))), (AV.agg ((o40 x10)))] (B r11), litA (B r11) = true, r11 = false, RenOK [(1, 1)] (a6.map o72)]) (by kernel_rfl) ⟨c8, (rd0 hx9), (rdM o40 hx9), (rd0 hx10), (rdM o40 hx10), (impl_leads_m hr11), rfl, c17, (rok (treeM t72)), trivial⟩ (ih a6 (w64 (v7 + 1)) _ h)
    · exact go_to hΘ hm hx hP hn (hs := [⟨1, .br false, none⟩]) (π := [(1, 1)]) (ts := [0, 3, 10, 11]) (kp := []) (ps := [(decide (v7 < v4)) = false, RenOK [(1, 1)] (a6.map o72)]) (by kernel_rfl) ⟨c18, (rok (treeM t72)), trivial⟩ (hK0 a6 (w64 (v4 + 1)) _ h)
noncomputable def impl_aheadOf_l0  (p1 : (List GEvent)) : Nat → (List (Vector Int 4)) → Int → Option (List (Vector Int 4))
  | 0, _, _ => none
  | n + 1, a3, v4 =>
  if (decide (v4 < (p1.length : Int))) = true then
    impl_aheadOf_l1 (impl_aheadOf_l0 p1 n) p1 v4 FU a3 0
  else
    some a3
theorem impl_aheadOf_l0_m {E : Env} (hP : E.P = Try.prog) (hn : E.n = 44) (hx : ∀ p, p ∈ E.fx → p.1 ∈ ([] : List Nat)) (p1 : (List GEvent))  : ∀ (n : Nat) (a3 : (List (Vector Int 4))) (v4 : Int) (r : (List (Vector Int 4))), impl_aheadOf_l0 p1 n a3 v4 = some r → WAt E body38 (FQ (RetE Θ Try.f38.results.toList [] [] (AV.own 72 4 (r.map o72)) E)) [true, true, false, true, false] ⟨[(0, (AV.ro 5 (p1.map o40))), (3, (AV.sl 1 0 (List.length (a3.map o72)))), (10, (I (p1.length : Int))), (11, (I v4))], [(1, some ⟨72, 4, (a3.map o72)⟩)], [1, JJ]⟩ := by
  have hm : E.P.follows .mixedOrders = true := by rw [hP]; exact mixed
  have hΘ : TOK E.P Θ := by rw [hP]; exact Θ_ok
  intro n
  induction n with
  | zero => intro a3 v4 r h; simp only [impl_aheadOf_l0] at h; cases h
  | succ n ih =>
    intro a3 v4 r h
    simp only [impl_aheadOf_l0] at h
    rcases itS h with ⟨c5, h⟩ | ⟨c19, h⟩
    · exact go_to hΘ hm hx hP hn (hs := [⟨1, .br true, none⟩]) (π := [(1, 1)]) (ts := [0, 3, 4, 10, 11, 14, 15]) (kp := []) (ps := [(decide (v4 < (p1.length : Int))) = true, RenOK [(1, 1)] (a3.map o72)]) (by kernel_rfl) ⟨c5, (rok (treeM t72)), trivial⟩ (impl_aheadOf_l1_m hP hn hx p1 v4 ih FU a3 0 _ h)
    · have h := Option.some.inj h
      subst h
      exact go_ret hΘ hm hP hn (hs := [⟨1, .br false, none⟩]) (rh := []) (ph := .own) (ps := [(decide (v4 < (p1.length : Int))) = false, treeLL ((a3.map o72).take (List.length (a3.map o72))) = true, (a3.map o72).take (List.length (a3.map o72)) = (a3.map o72), noRoLL (a3.map o72) = true]) (by kernel_rfl) ⟨c19, (treeT t72), takeM, (noRoM n72), trivial⟩
noncomputable def impl_aheadOf (p1 : (List GEvent)) : Option (List (Vector Int 4)) :=
  Option.bind (mk (Vector.replicate 4 0) (p1.length : Int)) fun l2 =>
  impl_aheadOf_l0 p1 FU l2 0
theorem impl_aheadOf_m {p1 : (List GEvent)} {r : (List (Vector Int 4))} (h : impl_aheadOf p1 = some r) : Meets Try.prog 38 [(AV.ro 5 (p1.map o40))] (AV.own 72 4 (r.map o72)) := by
  refine meets_ofC Θ_ok Try.func38 rfl (c := body38) (by kernel_rfl) (Nat.le_of_ble_eq_true rfl) ?_
  intro E hP hn hx
  replace hn : E.n = 44 := hn
  have hm : E.P.follows .mixedOrders = true := by rw [hP]; exact mixed
  have hΘ : TOK E.P Θ := by rw [hP]; exact Θ_ok
  unfold impl_aheadOf at h
  show WAt E body38 (FQ (RetE Θ Try.f38.results.toList [] [] (AV.own 72 4 (r.map o72)) E)) [] ⟨[(0, (AV.ro 5 (p1.map o40)))], [], [JJ]⟩
  obtain ⟨l2, hl2, h⟩ := bnS h
  exact go_to hΘ hm hx hP hn (hs := [⟨2, .no, some (I (p1.length : Int))⟩, ⟨3, .nw 1001 (l2.map o72), some (AV.sl 1001 0 (List.length (l2.map o72)))⟩, ⟨6, .no, some (I (p1.length : Int))⟩]) (π := [(1001, 1)]) (ts := [0, 3, 10, 11]) (kp := []) (ps := [AV.lit (.int .i64 (((p1.map o40).length : Nat) : Int)) = (I (p1.length : Int)), List.replicate (Int.toNat (p1.length : Int)) [.lit (.int .u64 0), .lit (.int .u64 0), .lit (.int .u64 0), .lit (.int .u64 0)] = (l2.map o72), AV.sl 1001 0 (Int.toNat (p1.length : Int)) = (AV.sl 1001 0 (List.length (l2.map o72))), (p1.length : Int) = (p1.length : Int), (0 : Int) ≤ (p1.length : Int), (p1.length : Int) * ((32 : Nat) : Int) ≤ 140737488355328, (p1.length : Int) ≤ 140737488355328, AV.lit (.int .i64 (((p1.map o40).length : Nat) : Int)) = (I (p1.length : Int)), RenOK [(1001, 1)] (l2.map o72)]) (by kernel_rfl) ⟨(lenM o40), (mkM o72 hl2), (mkS o72 hl2), rfl, (mk0 hl2), (mkB hl2 (by decide)), (mkC hl2), (lenM o40), (rok (treeM t72)), trivial⟩ (impl_aheadOf_l0_m hP hn hx p1 FU l2 0 _ h)
noncomputable def body39 : Code := match Try.f39.body with | some c => c | none => .skip
noncomputable def impl_places_has (p1 : (Vector Int 4)) (p2 : Int) : Option Bool :=
  Option.bind (rdv p1 (w64 (Int.tdiv p2 64))) fun x3 =>
  Option.bind (ge0 (Int.tmod p2 64)) fun q4 =>
  some ((iand .u64 (Int.fdiv x3 (2 ^ (min (Int.toNat (Int.tmod p2 64)) 64))) 1) == 1)
theorem impl_places_has_m {p1 : (Vector Int 4)} {p2 : Int} {r : Bool} (h : impl_places_has p1 p2 = some r) : Meets Try.prog 39 [(AV.agg ((o72 p1))), (I p2)] (B r) := by
  refine meets_ofC Θ_ok Try.func39 rfl (c := body39) (by kernel_rfl) (Nat.le_of_ble_eq_true rfl) ?_
  intro E hP hn hx
  replace hn : E.n = 14 := hn
  have hm : E.P.follows .mixedOrders = true := by rw [hP]; exact mixed
  have hΘ : TOK E.P Θ := by rw [hP]; exact Θ_ok
  unfold impl_places_has at h
  show WAt E body39 (FQ (RetE Θ Try.f39.results.toList [] [] (B r) E)) [] ⟨[(0, (AV.agg ((o72 p1)))), (1, (I p2))], [], [JJ]⟩
  obtain ⟨x3, hx3, h⟩ := bnS h
  obtain ⟨q4, hq4, h⟩ := bnS h
  have h := Option.some.inj h
  subst h
  exact go_ret hΘ hm hP hn (hs := [⟨0, .nw 1001 [((o72 p1))], none⟩, ⟨5, .cel ((o72 p1)) (IK .u64 x3), none⟩]) (rh := []) (ph := .raw) (ps := [[((o72 p1))] = [((o72 p1))], ((o72 p1)).length = 4, ((o72 p1)).all okLit = true, 0 < ((o72 p1)).length, 64 ≠ (0 : Int), (0 : Int) ≤ (w64 (Int.tdiv p2 64)), (w64 (Int.tdiv p2 64)) < ((4 : Nat) : Int), ((o72 p1))[(Int.toNat (w64 (Int.tdiv p2 64)))]? = some (IK .u64 x3), [((o72 p1))][0]? = some ((o72 p1)), 64 ≠ (0 : Int), ¬ (Int.tmod p2 64) < (0 : Int), (B ((iand .u64 (Int.fdiv x3 (2 ^ (min (Int.toNat (Int.tmod p2 64)) 64))) 1) == 1)) = (B ((iand .u64 (Int.fdiv x3 (2 ^ (min (Int.toNat (Int.tmod p2 64)) 64))) 1) == 1)), litA (B ((iand .u64 (Int.fdiv x3 (2 ^ (min (Int.toNat (Int.tmod p2 64)) 64))) 1) == 1)) = true]) (by kernel_rfl) ⟨rfl, (vecLen k70), (vecAll k70 (fun _ => rfl)), (vecPos k70 (by decide)), (by decide), (rv0 hx3), (rvL hx3), (rvM k70 hx3), rfl, (by decide), (ge0E hq4), rfl, rfl, trivial⟩
noncomputable def body22 : Code := match Try.f22.body with | some c => c | none => .skip
noncomputable def impl_clocks_j2 (K0 : (List (List Int)) → (List (Vector Int 4)) → Int → Option (List (List Int))) (K1 : (List (List Int)) → (Vector Int 4) → (List Int) → (List (Vector Int 4)) → Int → Option (List (List Int))) (p1 : (List GEvent)) (r2 : (List (Vector Int 4))) (v5 : Int) (a9 : (List (List Int))) (a10 : (Vector Int 4)) (a11 : (List Int)) (a12 : (List (Vector Int 4))) (v13 : Int)  : Option (List (List Int)) :=
  Option.bind (rd p1 v13) fun x16 =>
  Option.bind (rd a11 x16.Thread) fun x17 =>
  K1 a9 a10 (a11.set (Int.toNat x16.Thread) (w64 (x17 + 1))) a12 (w64 (v13 + 1))
theorem impl_clocks_j2_m {E : Env} (hP : E.P = Try.prog) (hn : E.n = 48) (hx : ∀ p, p ∈ E.fx → p.1 ∈ ([] : List Nat)) (p1 : (List GEvent)) (r2 : (List (Vector Int 4))) (v5 : Int) (a9 : (List (List Int))) (a10 : (Vector Int 4)) (a11 : (List Int)) (a12 : (List (Vector Int 4))) (v13 : Int) {K0 : (List (List Int)) → (List (Vector Int 4)) → Int → Option (List (List Int))} (hK0 : ∀ (a3 : (List (List Int))) (a4 : (List (Vector Int 4))) (v5 : Int) (r : (List (List Int))), K0 a3 a4 v5 = some r → WAt E body22 (FQ (RetE Θ Try.f22.results.toList [] [] (AV.own 43 1 (r.map o43)) E)) [true, true, false, true, false] ⟨[(0, (AV.ro 5 (p1.map o40))), (3, (AV.sl 1 0 (List.length (a3.map o43)))), (10, (AV.sl 2 0 (List.length (a4.map o72)))), (11, (I (r2.length : Int))), (12, (I v5))], [(1, some ⟨43, 1, (a3.map o43)⟩), (2, some ⟨72, 4, (a4.map o72)⟩)], [1, 2, JJ]⟩) {K1 : (List (List Int)) → (Vector Int 4) → (List Int) → (List (Vector Int 4)) → Int → Option (List (List Int))} (hK1 : ∀ (a9 : (List (List Int))) (a10 : (Vector Int 4)) (a11 : (List Int)) (a12 : (List (Vector Int 4))) (v13 : Int) (r : (List (List Int))), K1 a9 a10 a11 a12 v13 = some r → WAt E body22 (FQ (RetE Θ Try.f22.results.toList [] [] (AV.own 43 1 (r.map o43)) E)) [true, true, false, true, false, false, true, true, false, false, true, true, false, true, false] ⟨[(0, (AV.ro 5 (p1.map o40))), (3, (AV.sl 1 0 (List.length (a9.map o43)))), (4, (I v5)), (5, (AV.ptr 2 0 0)), (6, (AV.sl 3 0 (List.length (a11.map o3)))), (10, (AV.sl 4 0 (List.length (a12.map o72)))), (11, (I (r2.length : Int))), (12, (I v5)), (19, (I (w64 (v5 + 1)))), (20, (I v13))], [(1, some ⟨43, 1, (a9.map o43)⟩), (2, some ⟨72, 4, [((o72 a10))]⟩), (3, some ⟨3, 1, (a11.map o3)⟩), (4, some ⟨72, 4, (a12.map o72)⟩)], [1, 2, 3, 4, JJ]⟩)  (r : (List (List Int))) (h : impl_clocks_j2 K0 K1 p1 r2 v5 a9 a10 a11 a12 v13  = some r) : WAt E body22 (FQ (RetE Θ Try.f22.results.toList [] [] (AV.own 43 1 (r.map o43)) E)) [true, true, false, true, false, false, true, true, false, false, true, true, false, true, false, false, true, true, false, false, true, true, false] ⟨[(0, (AV.ro 5 (p1.map o40))), (3, (AV.sl 1 0 (List.length (a9.map o43)))), (4, (I v5)), (5, (AV.ptr 2 0 0)), (6, (AV.sl 3 0 (List.length (a11.map o3)))), (7, (I v13)), (10, (AV.sl 4 0 (List.length (a12.map o72)))), (11, (I (r2.length : Int))), (12, (I v5)), (19, (I (w64 (v5 + 1)))), (20, (I v13))], [(1, some ⟨43, 1, (a9.map o43)⟩), (2, some ⟨72, 4, [((o72 a10))]⟩), (3, some ⟨3, 1, (a11.map o3)⟩), (4, some ⟨72, 4, (a12.map o72)⟩)], [1, 2, 3, 4, JJ]⟩ := by
  have hm : E.P.follows .mixedOrders = true := by rw [hP]; exact mixed
  have hΘ : TOK E.P Θ := by rw [hP]; exact Θ_ok
  unfold impl_clocks_j2 at h
  obtain ⟨x16, hx16, h⟩ := bnS h
  obtain ⟨x17, hx17, h⟩ := bnS h
  exact go_to hΘ hm hx hP hn (hs := [⟨3, .row (o40 x16), none⟩, ⟨7, .row [(I x17)], none⟩, ⟨10, .sto [(I x17)] ((a11.set (Int.toNat x16.Thread) (w64 (x17 + 1))).map o3), none⟩, ⟨13, .slen 6 (List.length ((a11.set (Int.toNat x16.Thread) (w64 (x17 + 1))).map o3)), none⟩]) (π := [(1, 1), (2, 2), (3, 3), (4, 4)]) (ts := [0, 3, 4, 5, 6, 10, 11, 12, 19, 20]) (kp := []) (ps := [(0 : Int) ≤ v13, (p1.map o40)[(Int.toNat v13)]? = some (o40 x16), (0 : Int) ≤ x16.Thread, x16.Thread < (((List.length (a11.map o3)) : Nat) : Int), (a11.map o3)[(Int.toNat x16.Thread)]? = some [(I x17)], (0 : Int) ≤ x16.Thread, x16.Thread < (((List.length (a11.map o3)) : Nat) : Int), (a11.map o3)[(Int.toNat x16.Thread)]? = some [(I x17)], (a11.map o3).set (Int.toNat x16.Thread) (wr [(I x17)] 0 [(I (w64 (x17 + 1)))]) = ((a11.set (Int.toNat x16.Thread) (w64 (x17 + 1))).map o3), [(I (w64 (x17 + 1)))].length = 1, 0 + [(I (w64 (x17 + 1)))].length ≤ [(I x17)].length, (List.length (a11.map o3)) = (List.length ((a11.set (Int.toNat x16.Thread) (w64 (x17 + 1))).map o3)), RenOK [(1, 1), (2, 2), (3, 3), (4, 4)] (a9.map o43), RenOK [(1, 1), (2, 2), (3, 3), (4, 4)] [((o72 a10))], RenOK [(1, 1), (2, 2), (3, 3), (4, 4)] ((a11.set (Int.toNat x16.Thread) (w64 (x17 + 1))).map o3), RenOK [(1, 1), (2, 2), (3, 3), (4, 4)] (a12.map o72)]) (by kernel_rfl) ⟨(rd0 hx16), (rdM o40 hx16), (rd0 hx17), (rdL o3 hx17), (rdM o3 hx17), (rd0 hx17), (rdL o3 hx17), (rdM o3 hx17), (setM o3), rfl, (Nat.le_of_ble_eq_true rfl), (by first | exact lnSet _ | exact lnSet2 _ | exact apLn _ (by assumption) | simp only [List.length_map, List.length_set, List.length_cons, List.length_nil]), (rok (treeM t43)), (rok (treeB t72 a10)), (rok (treeM t3)), (rok (treeM t72)), trivial⟩ (hK1 a9 a10 (a11.set (Int.toNat x16.Thread) (w64 (x17 + 1))) a12 (w64 (v13 + 1)) _ h)
noncomputable def impl_clocks_l1 (K0 : (List (List Int)) → (List (Vector Int 4)) → Int → Option (List (List Int))) (p1 : (List GEvent)) (r2 : (List (Vector Int 4))) (v5 : Int) : Nat → (List (List Int)) → (Vector Int 4) → (List Int) → (List (Vector Int 4)) → Int → Option (List (List Int))
  | 0, _, _, _, _, _ => none
  | n + 1, a9, a10, a11, a12, v13 =>
  if (decide (v13 < (w64 (v5 + 1)))) = true then
    if (v13 == v5) = true then
      impl_clocks_j2 K0 (impl_clocks_l1 K0 p1 r2 v5 n) p1 r2 v5 a9 a10 a11 a12 v13
    else
      Option.bind (impl_places_has a10 v13) fun r19 =>
      if r19 = true then
        impl_clocks_j2 K0 (impl_clocks_l1 K0 p1 r2 v5 n) p1 r2 v5 a9 a10 a11 a12 v13
      else
        impl_clocks_l1 K0 p1 r2 v5 n a9 a10 a11 a12 (w64 (v13 + 1))
  else
    Option.bind (app a9 [a11]) fun l23 =>
    K0 l23 a12 (w64 (v5 + 1))
theorem impl_clocks_l1_m {E : Env} (hP : E.P = Try.prog) (hn : E.n = 48) (hx : ∀ p, p ∈ E.fx → p.1 ∈ ([] : List Nat)) (p1 : (List GEvent)) (r2 : (List (Vector Int 4))) (v5 : Int) {K0 : (List (List Int)) → (List (Vector Int 4)) → Int → Option (List (List Int))} (hK0 : ∀ (a3 : (List (List Int))) (a4 : (List (Vector Int 4))) (v5 : Int) (r : (List (List Int))), K0 a3 a4 v5 = some r → WAt E body22 (FQ (RetE Θ Try.f22.results.toList [] [] (AV.own 43 1 (r.map o43)) E)) [true, true, false, true, false] ⟨[(0, (AV.ro 5 (p1.map o40))), (3, (AV.sl 1 0 (List.length (a3.map o43)))), (10, (AV.sl 2 0 (List.length (a4.map o72)))), (11, (I (r2.length : Int))), (12, (I v5))], [(1, some ⟨43, 1, (a3.map o43)⟩), (2, some ⟨72, 4, (a4.map o72)⟩)], [1, 2, JJ]⟩) : ∀ (n : Nat) (a9 : (List (List Int))) (a10 : (Vector Int 4)) (a11 : (List Int)) (a12 : (List (Vector Int 4))) (v13 : Int) (r : (List (List Int))), impl_clocks_l1 K0 p1 r2 v5 n a9 a10 a11 a12 v13 = some r → WAt E body22 (FQ (RetE Θ Try.f22.results.toList [] [] (AV.own 43 1 (r.map o43)) E)) [true, true, false, true, false, false, true, true, false, false, true, true, false, true, false] ⟨[(0, (AV.ro 5 (p1.map o40))), (3, (AV.sl 1 0 (List.length (a9.map o43)))), (4, (I v5)), (5, (AV.ptr 2 0 0)), (6, (AV.sl 3 0 (List.length (a11.map o3)))), (10, (AV.sl 4 0 (List.length (a12.map o72)))), (11, (I (r2.length : Int))), (12, (I v5)), (19, (I (w64 (v5 + 1)))), (20, (I v13))], [(1, some ⟨43, 1, (a9.map o43)⟩), (2, some ⟨72, 4, [((o72 a10))]⟩), (3, some ⟨3, 1, (a11.map o3)⟩), (4, some ⟨72, 4, (a12.map o72)⟩)], [1, 2, 3, 4, JJ]⟩ := by
  have hm : E.P.follows .mixedOrders = true := by rw [hP]; exact mixed
  have hΘ : TOK E.P Θ := by rw [hP]; exact Θ_ok
  intro n
  induction n with
  | zero => intro a9 a10 a11 a12 v13 r h; simp only [impl_clocks_l1] at h; cases h
  | succ n ih =>
    intro a9 a10 a11 a12 v13 r h
    simp only [impl_clocks_l1] at h
    rcases itS h with ⟨c14, h⟩ | ⟨c22, h⟩
    · rcases itS h with ⟨c15, h⟩ | ⟨c18, h⟩
      · exact go_to hΘ hm hx hP hn (hs := [⟨1, .br true, none⟩, ⟨7, .no, some (B true)⟩]) (π := [(1, 1), (2, 2), (3, 3), (4, 4)]) (ts := [0, 3, 4, 5, 6, 7, 10, 11, 12, 19, 20]) (kp := []) (ps := [(decide (v13 < (w64 (v5 + 1)))) = true, (B (v13 == v5)) = (B true), RenOK [(1, 1), (2, 2), (3, 3), (4, 4)] (a9.map o43), RenOK [(1, 1), (2, 2), (3, 3), (4, 4)] [((o72 a10))], RenOK [(1, 1), (2, 2), (3, 3), (4, 4)] (a11.map o3), RenOK [(1, 1), (2, 2), (3, 3), (4, 4)] (a12.map o72)]) (by kernel_rfl) ⟨c14, (litB c15), (rok (treeM t43)), (rok (treeB t72 a10)), (rok (treeM t3)), (rok (treeM t72)), trivial⟩ (impl_clocks_j2_m hP hn hx p1 r2 v5 a9 a10 a11 a12 v13 hK0 ih  _ h)
      · obtain ⟨r19, hr19, h⟩ := bnS h
        rcases itS h with ⟨c20, h⟩ | ⟨c21, h⟩
        · exact go_to hΘ hm hx hP hn (hs := [⟨1, .br true, none⟩, ⟨7, .no, some (B false)⟩, ⟨8, .agg ((o72 a10)) ((o72 a10)), none⟩, ⟨10, .callV [[[AV.dead]]] (B r19), none⟩, ⟨12, .br true, none⟩]) (π := [(1, 1), (2, 2), (3, 3), (4, 4)]) (ts := [0, 3, 4, 5, 6, 7, 10, 11, 12, 19, 20]) (kp := []) (ps := [(decide (v13 < (w64 (v5 + 1)))) = true, (B (v13 == v5)) = (B false), 0 + 4 ≤ ((o72 a10)).length, (((o72 a10)).drop 0).take 4 = ((o72 a10)), ((o72 a10)).all AV.plain = true, [((o72 a10))][0]? = some ((o72 a10)), Meets Try.prog 39 [(AV.agg ((o72 a10))), (I v13)] (B r19), litA (B r19) = true, ((o72 a10)).all okLit = true, r19 = true, RenOK [(1, 1), (2, 2), (3, 3), (4, 4)] (a9.map o43), RenOK [(1, 1), (2, 2), (3, 3), (4, 4)] [((o72 a10))], RenOK [(1, 1), (2, 2), (3, 3), (4, 4)] (a11.map o3), RenOK [(1, 1), (2, 2), (3, 3), (4, 4)] (a12.map o72)]) (by kernel_rfl) ⟨c14, (litB c18), (vecLe0 k70), (vecAgg k70), (pa72 _), rfl, (impl_places_has_m hr19), rfl, (vecAll k70 (fun _ => rfl)), c20, (rok (treeM t43)), (rok (treeB t72 a10)), (rok (treeM t3)), (rok (treeM t72)), trivial⟩ (impl_clocks_j2_m hP hn hx p1 r2 v5 a9 a10 a11 a12 v13 hK0 ih  _ h)
        · exact go_to hΘ hm hx hP hn (hs := [⟨1, .br true, none⟩, ⟨7, .no, some (B false)⟩, ⟨8, .agg ((o72 a10)) ((o72 a10)), none⟩, ⟨10, .callV [[[AV.dead]]] (B r19), none⟩, ⟨12, .br false, none⟩]) (π := [(1, 1), (2, 2), (3, 3), (4, 4)]) (ts := [0, 3, 4, 5, 6, 10, 11, 12, 19, 20]) (kp := []) (ps := [(decide (v13 < (w64 (v5 + 1)))) = true, (B (v13 == v5)) = (B false), 0 + 4 ≤ ((o72 a10)).length, (((o72 a10)).drop 0).take 4 = ((o72 a10)), ((o72 a10)).all AV.plain = true, [((o72 a10))][0]? = some ((o72 a10)), Meets Try.prog 39 [(AV.agg ((o72 a10))), (I v13)] (B r19), litA (B r19) = true, ((o72 a10)).all okLit = true, r19 = false, RenOK [(1, 1), (2, 2), (3, 3), (4, 4)] (a9.map o43), RenOK [(1, 1), (2, 2), (3, 3), (4, 4)] [((o72 a10))], RenOK [(1, 1), (2, 2), (3, 3), (4, 4)] (a11.map o3), RenOK [(1, 1), (2, 2), (3, 3), (4, 4)] (a12.map o72)]) (by kernel_rfl) ⟨c14, (litB c18), (vecLe0 k70), (vecAgg k70), (pa72 _), rfl, (impl_places_has_m hr19), rfl, (vecAll k70 (fun _ => rfl)), c21, (rok (treeM t43)), (rok (treeB t72 a10)), (rok (treeM t3)), (rok (treeM t72)), trivial⟩ (ih a9 a10 a11 a12 (w64 (v13 + 1)) _ h)
    · obtain ⟨l23, hl23, h⟩ := bnS h
      exact go_to hΘ hm hx hP hn (hs := [⟨1, .br false, none⟩, ⟨4, .new 1001, none⟩, ⟨5, .app 1002 ((a9.map o43) ++ [[(AV.sl 3 0 (List.length (a11.map o3)))]]), none⟩, ⟨6, .pack 1002 3 (List.length a9) 0 [(AV.sl 3 0 (List.length (a11.map o3)))] (l23.map o43), none⟩, ⟨9, .slen 3 (List.length (l23.map o43)), none⟩]) (π := [(1002, 1), (4, 2)]) (ts := [0, 3, 10, 11, 12]) (kp := []) (ps := [(decide (v13 < (w64 (v5 + 1)))) = false, (a9.map o43).take (List.length (a9.map o43)) ++ [[(AV.sl 3 0 (List.length (a11.map o3)))]] = ((a9.map o43) ++ [[(AV.sl 3 0 (List.length (a11.map o3)))]]), [[(AV.sl 3 0 (List.length (a11.map o3)))]].all (fun r => r.all AV.plain) = true, (List.length ((a9.map o43) ++ [[(AV.sl 3 0 (List.length (a11.map o3)))]])) * 24 ≤ 140737488355328, (List.length ((a9.map o43) ++ [[(AV.sl 3 0 (List.length (a11.map o3)))]])) ≤ 140737488355328, ((a9.map o43) ++ [[(AV.sl 3 0 (List.length (a11.map o3)))]])[(List.length a9)]? = some [(AV.sl 3 0 (List.length (a11.map o3)))], [(AV.sl 3 0 (List.length (a11.map o3)))][0]? = some (AV.sl 3 0 (List.length (a11.map o3))), treeLL (a11.map o3) = true, ((a9.map o43) ++ [[(AV.sl 3 0 (List.length (a11.map o3)))]]).set (List.length a9) ([(AV.sl 3 0 (List.length (a11.map o3)))].set 0 (AV.own 3 1 (a11.map o3))) = (l23.map o43), (List.length ((a9.map o43) ++ [[(AV.sl 3 0 (List.length (a11.map o3)))]])) = (List.length (l23.map o43)), RenOK [(1002, 1), (4, 2)] (l23.map o43), RenOK [(1002, 1), (4, 2)] (a12.map o72)]) (by kernel_rfl) ⟨c22, (apT o43), rfl, (apB o43 hl23 (by decide)), (apC o43 hl23), (apG o43), rfl, (treeM t3), (apS o43 hl23), (apLn o43 hl23), (rok (treeM t43)), (rok (treeM t72)), trivial⟩ (hK0 l23 a12 (w64 (v5 + 1)) _ h)
noncomputable def impl_clocks_l0  (p1 : (List GEvent)) (r2 : (List (Vector Int 4))) : Nat → (List (List Int)) → (List (Vector Int 4)) → Int → Option (List (List Int))
  | 0, _, _, _ => none
  | n + 1, a3, a4, v5 =>
  if (decide (v5 < (r2.length : Int))) = true then
    Option.bind (rd a4 v5) fun x7 =>
    Option.bind (mk 0 5) fun l8 =>
    impl_clocks_l1 (impl_clocks_l0 p1 r2 n) p1 r2 v5 FU a3 x7 l8 a4 0
  else
    some a3
theorem impl_clocks_l0_m {E : Env} (hP : E.P = Try.prog) (hn : E.n = 48) (hx : ∀ p, p ∈ E.fx → p.1 ∈ ([] : List Nat)) (p1 : (List GEvent)) (r2 : (List (Vector Int 4)))  : ∀ (n : Nat) (a3 : (List (List Int))) (a4 : (List (Vector Int 4))) (v5 : Int) (r : (List (List Int))), impl_clocks_l0 p1 r2 n a3 a4 v5 = some r → WAt E body22 (FQ (RetE Θ Try.f22.results.toList [] [] (AV.own 43 1 (r.map o43)) E)) [true, true, false, true, false] ⟨[(0, (AV.ro 5 (p1.map o40))), (3, (AV.sl 1 0 (List.length (a3.map o43)))), (10, (AV.sl 2 0 (List.length (a4.map o72)))), (11, (I (r2.length : Int))), (12, (I v5))], [(1, some ⟨43, 1, (a3.map o43)⟩), (2, some ⟨72, 4, (a4.map o72)⟩)], [1, 2, JJ]⟩ := by
  have hm : E.P.follows .mixedOrders = true := by rw [hP]; exact mixed
  have hΘ : TOK E.P Θ := by rw [hP]; exact Θ_ok
  intro n
  induction n with
  | zero => intro a3 a4 v5 r h; simp only [impl_clocks_l0] at h; cases h
  | succ n ih =>
    intro a3 a4 v5 r h
    simp only [impl_clocks_l0] at h
    rcases itS h with ⟨c6, h⟩ | ⟨c24, h⟩
    · obtain ⟨x7, hx7, h⟩ := bnS h
      obtain ⟨l8, hl8, h⟩ := bnS h
      exact go_to hΘ hm hx hP hn (hs := [⟨1, .br true, none⟩, ⟨4, .agg ((o72 x7)) ((o72 x7)), none⟩, ⟨5, .nw 1001 [((o72 (Vector.replicate 4 0)))], none⟩, ⟨7, .stoS ((o72 (Vector.replicate 4 0))) [((o72 x7))], none⟩, ⟨8, .nw 1002 (l8.map o3), some (AV.sl 1002 0 (List.length (l8.map o3)))⟩]) (π := [(1, 1), (1001, 2), (1002, 3), (2, 4)]) (ts := [0, 3, 4, 5, 6, 10, 11, 12, 19, 20]) (kp := []) (ps := [(decide (v5 < (r2.length : Int))) = true, (0 : Int) ≤ v5, v5 < (((List.length (a4.map o72)) : Nat) : Int), 0 + 4 ≤ ((o72 x7)).length, (((o72 x7)).drop 0).take 4 = ((o72 x7)), ((o72 x7)).all AV.plain = true, (a4.map o72)[(Int.toNat v5)]? = some ((o72 x7)), [litL [.int .u64 0, .int .u64 0, .int .u64 0, .int .u64 0]] = [((o72 (Vector.replicate 4 0)))], [((o72 (Vector.replicate 4 0)))][0]? = some ((o72 (Vector.replicate 4 0))), [((o72 (Vector.replicate 4 0)))].set 0 (wr ((o72 (Vector.replicate 4 0))) 0 ((o72 x7))) = [((o72 x7))], ((o72 x7)).length = 4, 0 + ((o72 x7)).length ≤ ((o72 (Vector.replicate 4 0))).length, ((o72 x7)).all okLit = true, List.replicate (Int.toNat 5) [.lit (.int .i64 0)] = (l8.map o3), AV.sl 1002 0 (Int.toNat 5) = (AV.sl 1002 0 (List.length (l8.map o3))), (5 : Int) = (5 : Int), (0 : Int) ≤ (5 : Int), (5 : Int) * ((8 : Nat) : Int) ≤ 140737488355328, (5 : Int) ≤ 140737488355328, RenOK [(1, 1), (1001, 2), (1002, 3), (2, 4)] (a3.map o43), RenOK [(1, 1), (1001, 2), (1002, 3), (2, 4)] [((o72 x7))], RenOK [(1, 1), (1001, 2), (1002, 3), (2, 4)] (l8.map o3), RenOK [(1, 1), (1001, 2), (1002, 3), (2, 4)] (a4.map o72)]) (by kernel_rfl) ⟨c6, (rd0 hx7), (rdL o72 hx7), (vecLe0 k70), (vecAgg k70), (pa72 _), (rdM o72 hx7), rfl, rfl, (vecSt k70 k70), (vecLen k70), (vecLL k70 k70), (vecAll k70 (fun _ => rfl)), (mkM o3 hl8), (mkS o3 hl8), rfl, (mk0 hl8), (mkB hl8 (by decide)), (mkC hl8), (rok (treeM t43)), (rok (treeB t72 x7)), (rok (treeM t3)), (rok (treeM t72)), trivial⟩ (impl_clocks_l1_m hP hn hx p1 r2 v5 ih FU a3 x7 l8 a4 0 _ h)
    · have h := Option.some.inj h
      subst h
      exact go_ret hΘ hm hP hn (hs := [⟨1, .br false, none⟩]) (rh := []) (ph := .own) (ps := [(decide (v5 < (r2.length : Int))) = false, treeLL ((a3.map o43).take (List.length (a3.map o43))) = true, (a3.map o43).take (List.length (a3.map o43)) = (a3.map o43), noRoLL (a3.map o43) = true]) (by kernel_rfl) ⟨c24, (treeT t43), takeM, (noRoM n43), trivial⟩
noncomputable def impl_clocks (p1 : (List GEvent)) : Option (List (List Int)) :=
  Option.bind (impl_aheadOf p1) fun r2 =>
  impl_clocks_l0 p1 r2 FU [] r2 0
theorem impl_clocks_m {p1 : (List GEvent)} {r : (List (List Int))} (h : impl_clocks p1 = some r) : Meets Try.prog 22 [(AV.ro 5 (p1.map o40))] (AV.own 43 1 (r.map o43)) := by
  refine meets_ofC Θ_ok Try.func22 rfl (c := body22) (by kernel_rfl) (Nat.le_of_ble_eq_true rfl) ?_
  intro E hP hn hx
  replace hn : E.n = 48 := hn
  have hm : E.P.follows .mixedOrders = true := by rw [hP]; exact mixed
  have hΘ : TOK E.P Θ := by rw [hP]; exact Θ_ok
  unfold impl_clocks at h
  show WAt E body22 (FQ (RetE Θ Try.f22.results.toList [] [] (AV.own 43 1 (r.map o43)) E)) [] ⟨[(0, (AV.ro 5 (p1.map o40)))], [], [JJ]⟩
  obtain ⟨r2, hr2, h⟩ := bnS h
  exact go_to hΘ hm hx hP hn (hs := [⟨1, .new 1001, none⟩, ⟨4, .call [] (AV.own 72 4 (r2.map o72)) [1002], none⟩, ⟨5, .no, some (I (r2.length : Int))⟩]) (π := [(1001, 1), (1002, 2)]) (ts := [0, 3, 10, 11, 12]) (kp := []) (ps := [Meets Try.prog 38 [(AV.ro 5 (p1.map o40))] (AV.own 72 4 (r2.map o72)), noRo (AV.own 72 4 (r2.map o72)) = true, AV.lit (.int .i64 (((List.length (r2.map o72)) : Nat) : Int)) = (I (r2.length : Int)), RenOK [(1001, 1), (1002, 2)] ([].map o43), RenOK [(1001, 1), (1002, 2)] (r2.map o72)]) (by kernel_rfl) ⟨(impl_aheadOf_m hr2), (by simp only [noRo, noRoL, noRoM n72, Bool.and_self]), (lenM o72), (rok (treeM t43)), (rok (treeM t72)), trivial⟩ (impl_clocks_l0_m hP hn hx p1 r2 FU [] r2 0 _ h)
noncomputable def body8 : Code := match Try.f8.body with | some c => c | none => .skip
noncomputable def impl_FastRace_l1 (K0 : (Vector Gtouched 100) → (List (List Int)) → Int → Option (Int × Int × Bool)) (p1 : (List GEvent)) (r5 : (List (List Int))) (a6 : (Vector Gtouched 100)) (a7 : (List (List Int))) (v8 : Int) (x10 : (List Int)) (x11 : GEvent) (x15 : Gtouched) : Nat → Bool → Int → Option (Int × Int × Bool)
  | 0, _, _ => none
  | n + 1, v17, v18 =>
  if (decide (v18 < 5)) = true then
    Option.bind (rdv x15.loads v18) fun x20 =>
    if v17 = true then
      impl_FastRace_l1 K0 p1 r5 a6 a7 v8 x10 x11 x15 n true (w64 (v18 + 1))
    else
      if (x11.Kind == 3) = true then
        Option.bind (rd x10 v18) fun x24 =>
        impl_FastRace_l1 K0 p1 r5 a6 a7 v8 x10 x11 x15 n (decide (x20 > x24)) (w64 (v18 + 1))
      else
        impl_FastRace_l1 K0 p1 r5 a6 a7 v8 x10 x11 x15 n false (w64 (v18 + 1))
  else
    if v17 = true then
      Option.bind (rd a7 v8) fun x28 =>
      some (x11.Obj, v8, true)
    else
      if (x11.Kind == 3) = true then
        Option.bind (rd x10 x11.Thread) fun x31 =>
        Option.bind (rdv a6 x11.Obj) fun x32 =>
        Option.bind (rd a7 v8) fun x33 =>
        K0 (a6.setIfInBounds (Int.toNat x11.Obj) (Gtouched.mk x11.Thread x31 (Vector.replicate 5 0))) (a7.set (Int.toNat v8) x10) (w64 (v8 + 1))
      else
        Option.bind (rd x10 x11.Thread) fun x35 =>
        Option.bind (rdv a6 x11.Obj) fun x36 =>
        Option.bind (rdv x36.loads x11.Thread) fun x37 =>
        Option.bind (rd a7 v8) fun x38 =>
        K0 (a6.setIfInBounds (Int.toNat x11.Obj) (Gtouched.mk x36.thread x36.number (x36.loads.setIfInBounds (Int.toNat x11.Thread) x35))) (a7.set (Int.toNat v8) x10) (w64 (v8 + 1))
theorem impl_FastRace_l1_m {E : Env} (hP : E.P = Try.prog) (hn : E.n = 101) (hx : ∀ p, p ∈ E.fx → p.1 ∈ ([] : List Nat)) (p1 : (List GEvent)) (r5 : (List (List Int))) (a6 : (Vector Gtouched 100)) (a7 : (List (List Int))) (v8 : Int) (x10 : (List Int)) (x11 : GEvent) (x15 : Gtouched) {K0 : (Vector Gtouched 100) → (List (List Int)) → Int → Option (Int × Int × Bool)} (hK0 : ∀ (a6 : (Vector Gtouched 100)) (a7 : (List (List Int))) (v8 : Int) (r : (Int × Int × Bool)), K0 a6 a7 v8 = some r → WAt E body8 (FQ (RetE Θ Try.f8.results.toList [] [] (AV.tup [(I r.1), (I r.2.1), (B r.2.2)]) E)) [true, true, true, false, true, false] ⟨[(0, (AV.ro 5 (p1.map o40))), (5, (AV.ptr 1 0 0)), (18, (AV.sl 2 0 (List.length (a7.map o43)))), (19, (I (r5.length : Int))), (20, (I v8))], [(1, some ⟨51, 700, [((o51 a6))]⟩), (2, some ⟨43, 1, (a7.map o43)⟩)], [1, 2, JJ]⟩) : ∀ (n : Nat) (v17 : Bool) (v18 : Int) (r : (Int × Int × Bool)), impl_FastRace_l1 K0 p1 r5 a6 a7 v8 x10 x11 x15 n v17 v18 = some r → WAt E body8 (FQ (RetE Θ Try.f8.results.toList [] [] (AV.tup [(I r.1), (I r.2.1), (B r.2.2)]) E)) [true, true, true, false, true, false, false, true, true, false, false, true, true, true, true, true, false, true, false] ⟨[(0, (AV.ro 5 (p1.map o40))), (5, (AV.ptr 1 0 0)), (6, (I v8)), (7, (AV.sl 1001 0 (List.length (x10.map o3)))), (8, (AV.ptr 2 0 0)), (9, (AV.ptr 1 0 ((Int.toNat x11.Obj) * 7))), (10, (B v17)), (18, (AV.sl 3 0 (List.length ((a7.map o43).set (Int.toNat v8) [(AV.sl 1001 0 (List.length (x10.map o3)))])))), (19, (I (r5.length : Int))), (20, (I v8)), (50, (AV.agg ((o48 x15.loads)))), (51, (I v18))], [(1, some ⟨51, 700, [((o51 a6))]⟩), (1001, some ⟨3, 1, (x10.map o3)⟩), (2, some ⟨40, 5, [((o40 x11))]⟩), (3, some ⟨43, 1, ((a7.map o43).set (Int.toNat v8) [(AV.sl 1001 0 (List.length (x10.map o3)))])⟩)], [1, 1001, 2, 3, JJ]⟩ := by
  have hm : E.P.follows .mixedOrders = true := by rw [hP]; exact mixed
  have hΘ : TOK E.P Θ := by rw [hP]; exact Θ_ok
  intro n
  induction n with
  | zero => intro v17 v18 r h; simp only [impl_FastRace_l1] at h; cases h
  | succ n ih =>
    intro v17 v18 r h
    simp only [impl_FastRace_l1] at h
    rcases itS h with ⟨c19, h⟩ | ⟨c26, h⟩
    · obtain ⟨x20, hx20, h⟩ := bnS h
      rcases itS h with ⟨c21, h⟩ | ⟨c22, h⟩
      · exact go_to hΘ hm hx hP hn (hs := [⟨1, .br true, none⟩, ⟨3, .cel [] (I x20), none⟩, ⟨7, .no, some (B true)⟩]) (π := [(1, 1), (1001, 1001), (2, 2), (3, 3)]) (ts := [0, 5, 6, 7, 8, 9, 10, 18, 19, 20, 50, 51]) (kp := [50]) (ps := [(decide (v18 < 5)) = true, (0 : Int) ≤ v18, v18 < ((5 : Nat) : Int), ((o48 x15.loads))[(Int.toNat v18)]? = some (I x20), (B v17) = (B true), RenOK [(1, 1), (1001, 1001), (2, 2), (3, 3)] [((o51 a6))], RenOK [(1, 1), (1001, 1001), (2, 2), (3, 3)] (x10.map o3), RenOK [(1, 1), (1001, 1001), (2, 2), (3, 3)] [((o40 x11))], RenOK [(1, 1), (1001, 1001), (2, 2), (3, 3)] ((a7.map o43).set (Int.toNat v8) [(AV.sl 1001 0 (List.length (x10.map o3)))]), tree (AV.agg ((o48 x15.loads))) = true]) (by kernel_rfl) ⟨c19, (rv0 hx20), (rvL hx20), (rvM k3 hx20), (litB c21), (rok (treeB t51 a6)), (rok (treeM t3)), (rok rfl), (renSet (rok (treeM t43)) rfl), (t48 x15.loads), trivial⟩ (ih true (w64 (v18 + 1)) _ h)
      · rcases itS h with ⟨c23, h⟩ | ⟨c25, h⟩
        · obtain ⟨x24, hx24, h⟩ := bnS h
          exact go_to hΘ hm hx hP hn (hs := [⟨1, .br true, none⟩, ⟨3, .cel [] (I x20), none⟩, ⟨7, .no, some (B false)⟩, ⟨11, .no, some (B true)⟩, ⟨16, .row [(I x24)], none⟩]) (π := [(1, 1), (1001, 1001), (2, 2), (3, 3)]) (ts := [0, 5, 6, 7, 8, 9, 10, 18, 19, 20, 50, 51]) (kp := [50]) (ps := [(decide (v18 < 5)) = true, (0 : Int) ≤ v18, v18 < ((5 : Nat) : Int), ((o48 x15.loads))[(Int.toNat v18)]? = some (I x20), (B v17) = (B false), (B (x11.Kind == 3)) = (B true), (0 : Int) ≤ v18, v18 < (((List.length (x10.map o3)) : Nat) : Int), (x10.map o3)[(Int.toNat v18)]? = some [(I x24)], RenOK [(1, 1), (1001, 1001), (2, 2), (3, 3)] [((o51 a6))], RenOK [(1, 1), (1001, 1001), (2, 2), (3, 3)] (x10.map o3), RenOK [(1, 1), (1001, 1001), (2, 2), (3, 3)] [((o40 x11))], RenOK [(1, 1), (1001, 1001), (2, 2), (3, 3)] ((a7.map o43).set (Int.toNat v8) [(AV.sl 1001 0 (List.length (x10.map o3)))]), tree (AV.agg ((o48 x15.loads))) = true]) (by kernel_rfl) ⟨c19, (rv0 hx20), (rvL hx20), (rvM k3 hx20), (litB c22), (litB c23), (rd0 hx24), (rdL o3 hx24), (rdM o3 hx24), (rok (treeB t51 a6)), (rok (treeM t3)), (rok rfl), (renSet (rok (treeM t43)) rfl), (t48 x15.loads), trivial⟩ (ih (decide (x20 > x24)) (w64 (v18 + 1)) _ h)
        · exact go_to hΘ hm hx hP hn (hs := [⟨1, .br true, none⟩, ⟨3, .cel [] (I x20), none⟩, ⟨7, .no, some (B false)⟩, ⟨11, .no, some (B false)⟩]) (π := [(1, 1), (1001, 1001), (2, 2), (3, 3)]) (ts := [0, 5, 6, 7, 8, 9, 10, 18, 19, 20, 50, 51]) (kp := [50]) (ps := [(decide (v18 < 5)) = true, (0 : Int) ≤ v18, v18 < ((5 : Nat) : Int), ((o48 x15.loads))[(Int.toNat v18)]? = some (I x20), (B v17) = (B false), (B (x11.Kind == 3)) = (B false), RenOK [(1, 1), (1001, 1001), (2, 2), (3, 3)] [((o51 a6))], RenOK [(1, 1), (1001, 1001), (2, 2), (3, 3)] (x10.map o3), RenOK [(1, 1), (1001, 1001), (2, 2), (3, 3)] [((o40 x11))], RenOK [(1, 1), (1001, 1001), (2, 2), (3, 3)] ((a7.map o43).set (Int.toNat v8) [(AV.sl 1001 0 (List.length (x10.map o3)))]), tree (AV.agg ((o48 x15.loads))) = true]) (by kernel_rfl) ⟨c19, (rv0 hx20), (rvL hx20), (rvM k3 hx20), (litB c22), (litB c25), (rok (treeB t51 a6)), (rok (treeM t3)), (rok rfl), (renSet (rok (treeM t43)) rfl), (t48 x15.loads), trivial⟩ (ih false (w64 (v18 + 1)) _ h)
    · rcases itS h with ⟨c27, h⟩ | ⟨c29, h⟩
      · obtain ⟨x28, hx28, h⟩ := bnS h
        have h := Option.some.inj h
        subst h
        exact go_ret hΘ hm hP hn (hs := [⟨1, .br false, none⟩, ⟨4, .br true, none⟩, ⟨11, .pack 3 1001 (Int.toNat v8) 0 [(AV.sl 1001 0 (List.length (x10.map o3)))] ((a7.set (Int.toNat v8) x10).map o43), none⟩]) (rh := []) (ph := .agg [.raw, .raw, .raw]) (ps := [(decide (v18 < 5)) = false, v17 = true, ((a7.map o43).set (Int.toNat v8) [(AV.sl 1001 0 (List.length (x10.map o3)))])[(Int.toNat v8)]? = some [(AV.sl 1001 0 (List.length (x10.map o3)))], [(AV.sl 1001 0 (List.length (x10.map o3)))][0]? = some (AV.sl 1001 0 (List.length (x10.map o3))), treeLL (x10.map o3) = true, ((a7.map o43).set (Int.toNat v8) [(AV.sl 1001 0 (List.length (x10.map o3)))]).set (Int.toNat v8) ([(AV.sl 1001 0 (List.length (x10.map o3)))].set 0 (AV.own 3 1 (x10.map o3))) = ((a7.set (Int.toNat v8) x10).map o43), (I x11.Obj) = (I x11.Obj), litA (I x11.Obj) = true, (I v8) = (I v8), litA (I v8) = true, (B true) = (B true), litA (B true) = true]) (by kernel_rfl) ⟨c26, c27, (setE (rdM o43 hx28)), rfl, (treeM t3), (setP o43), rfl, rfl, rfl, rfl, rfl, rfl, trivial⟩
      · rcases itS h with ⟨c30, h⟩ | ⟨c34, h⟩
        · obtain ⟨x31, hx31, h⟩ := bnS h
          obtain ⟨x32, hx32, h⟩ := bnS h
          obtain ⟨x33, hx33, h⟩ := bnS h
          exact go_to hΘ hm hx hP hn (hs := [⟨1, .br false, none⟩, ⟨4, .br false, none⟩, ⟨9, .br true, none⟩, ⟨17, .row [(I x31)], none⟩, ⟨18, .no, some (AV.agg ((o50 (Gtouched.mk x11.Thread x31 (Vector.replicate 5 0)))))⟩, ⟨20, .stoS ((o51 a6)) [((o51 (a6.setIfInBounds (Int.toNat x11.Obj) (Gtouched.mk x11.Thread x31 (Vector.replicate 5 0)))))], none⟩, ⟨23, .pack 3 1001 (Int.toNat v8) 0 [(AV.sl 1001 0 (List.length (x10.map o3)))] ((a7.set (Int.toNat v8) x10).map o43), none⟩, ⟨23, .slen 18 (List.length ((a7.set (Int.toNat v8) x10).map o43)), none⟩]) (π := [(1, 1), (3, 2)]) (ts := [0, 5, 18, 19, 20]) (kp := []) (ps := [(decide (v18 < 5)) = false, v17 = false, (x11.Kind == 3) = true, (0 : Int) ≤ x11.Thread, x11.Thread < (((List.length (x10.map o3)) : Nat) : Int), (x10.map o3)[(Int.toNat x11.Thread)]? = some [(I x31)], AV.agg [(I x11.Thread), (I x31), AV.lit (.int .i64 0), AV.lit (.int .i64 0), AV.lit (.int .i64 0), AV.lit (.int .i64 0), AV.lit (.int .i64 0)] = (AV.agg ((o50 (Gtouched.mk x11.Thread x31 (Vector.replicate 5 0))))), [((o51 a6))][0]? = some ((o51 a6)), [((o51 a6))].set 0 (wr ((o51 a6)) ((Int.toNat x11.Obj) * 7) ((o50 (Gtouched.mk x11.Thread x31 (Vector.replicate 5 0))))) = [((o51 (a6.setIfInBounds (Int.toNat x11.Obj) (Gtouched.mk x11.Thread x31 (Vector.replicate 5 0)))))], ((o50 (Gtouched.mk x11.Thread x31 (Vector.replicate 5 0)))).length = 7, ((Int.toNat x11.Obj) * 7) + ((o50 (Gtouched.mk x11.Thread x31 (Vector.replicate 5 0)))).length ≤ ((o51 a6)).length, ((o50 (Gtouched.mk x11.Thread x31 (Vector.replicate 5 0)))).all okLit = true, ((a7.map o43).set (Int.toNat v8) [(AV.sl 1001 0 (List.length (x10.map o3)))])[(Int.toNat v8)]? = some [(AV.sl 1001 0 (List.length (x10.map o3)))], [(AV.sl 1001 0 (List.length (x10.map o3)))][0]? = some (AV.sl 1001 0 (List.length (x10.map o3))), treeLL (x10.map o3) = true, ((a7.map o43).set (Int.toNat v8) [(AV.sl 1001 0 (List.length (x10.map o3)))]).set (Int.toNat v8) ([(AV.sl 1001 0 (List.length (x10.map o3)))].set 0 (AV.own 3 1 (x10.map o3))) = ((a7.set (Int.toNat v8) x10).map o43), (List.length ((a7.map o43).set (Int.toNat v8) [(AV.sl 1001 0 (List.length (x10.map o3)))])) = (List.length ((a7.set (Int.toNat v8) x10).map o43)), RenOK [(1, 1), (3, 2)] [((o51 (a6.setIfInBounds (Int.toNat x11.Obj) (Gtouched.mk x11.Thread x31 (Vector.replicate 5 0)))))], RenOK [(1, 1), (3, 2)] ((a7.set (Int.toNat v8) x10).map o43)]) (by kernel_rfl) ⟨c26, c29, c30, (rd0 hx31), (rdL o3 hx31), (rdM o3 hx31), rfl, rfl, (fmWr ln50 hx32 (Gtouched.mk x11.Thread x31 (Vector.replicate 5 0))), (ln50 _), (by rw [ln50]; exact fmLe ln50 (j := 0) (m := 7) hx32 (by decide)), (ok50 _), (setE (rdM o43 hx33)), rfl, (treeM t3), (setP o43), (by first | exact lnSet _ | exact lnSet2 _ | exact apLn _ (by assumption) | simp only [List.length_map, List.length_set, List.length_cons, List.length_nil]), (rok (treeB t51 (a6.setIfInBounds (Int.toNat x11.Obj) (Gtouched.mk x11.Thread x31 (Vector.replicate 5 0))))), (rok (treeM t43)), trivial⟩ (hK0 (a6.setIfInBounds (Int.toNat x11.Obj) (Gtouched.mk x11.Thread x31 (Vector.replicate 5 0))) (a7.set (Int.toNat v8) x10) (w64 (v8 + 1)) _ h)
        · obtain ⟨x35, hx35, h⟩ := bnS h
          obtain ⟨x36, hx36, h⟩ := bnS h
          obtain ⟨x37, hx37, h⟩ := bnS h
          obtain ⟨x38, hx38, h⟩ := bnS h
          exact go_to hΘ hm hx hP hn (hs := [⟨1, .br false, none⟩, ⟨4, .br false, none⟩, ⟨9, .br false, none⟩, ⟨17, .row [(I x35)], none⟩, ⟨21, .sto ((o51 a6)) [((o51 (a6.setIfInBounds (Int.toNat x11.Obj) (Gtouched.mk x36.thread x36.number (x36.loads.setIfInBounds (Int.toNat x11.Thread) x35)))))], none⟩, ⟨24, .pack 3 1001 (Int.toNat v8) 0 [(AV.sl 1001 0 (List.length (x10.map o3)))] ((a7.set (Int.toNat v8) x10).map o43), none⟩, ⟨24, .slen 18 (List.length ((a7.set (Int.toNat v8) x10).map o43)), none⟩]) (π := [(1, 1), (3, 2)]) (ts := [0, 5, 18, 19, 20]) (kp := []) (ps := [(decide (v18 < 5)) = false, v17 = false, (x11.Kind == 3) = false, (0 : Int) ≤ x11.Thread, x11.Thread < (((List.length (x10.map o3)) : Nat) : Int), (x10.map o3)[(Int.toNat x11.Thread)]? = some [(I x35)], (0 : Int) ≤ x11.Thread, x11.Thread < ((5 : Nat) : Int), [((o51 a6))][0]? = some ((o51 a6)), [((o51 a6))].set 0 (wr ((o51 a6)) ((((Int.toNat x11.Obj) * 7) + 2) + (Int.toNat x11.Thread)) [(I x35)]) = [((o51 (a6.setIfInBounds (Int.toNat x11.Obj) (Gtouched.mk x36.thread x36.number (x36.loads.setIfInBounds (Int.toNat x11.Thread) x35)))))], [(I x35)].length = 1, ((((Int.toNat x11.Obj) * 7) + 2) + (Int.toNat x11.Thread)) + [(I x35)].length ≤ ((o51 a6)).length, ((a7.map o43).set (Int.toNat v8) [(AV.sl 1001 0 (List.length (x10.map o3)))])[(Int.toNat v8)]? = some [(AV.sl 1001 0 (List.length (x10.map o3)))], [(AV.sl 1001 0 (List.length (x10.map o3)))][0]? = some (AV.sl 1001 0 (List.length (x10.map o3))), treeLL (x10.map o3) = true, ((a7.map o43).set (Int.toNat v8) [(AV.sl 1001 0 (List.length (x10.map o3)))]).set (Int.toNat v8) ([(AV.sl 1001 0 (List.length (x10.map o3)))].set 0 (AV.own 3 1 (x10.map o3))) = ((a7.set (Int.toNat v8) x10).map o43), (List.length ((a7.map o43).set (Int.toNat v8) [(AV.sl 1001 0 (List.length (x10.map o3)))])) = (List.length ((a7.set (Int.toNat v8) x10).map o43)), RenOK [(1, 1), (3, 2)] [((o51 (a6.setIfInBounds (Int.toNat x11.Obj) (Gtouched.mk x36.thread x36.number (x36.loads.setIfInBounds (Int.toNat x11.Thread) x35)))))], RenOK [(1, 1), (3, 2)] ((a7.set (Int.toNat v8) x10).map o43)]) (by kernel_rfl) ⟨c26, c29, c34, (rd0 hx35), (rdL o3 hx35), (rdM o3 hx35), (rv0 hx37), (rvL hx37), rfl, (fmWr1 ln50 (j := 2 + (Int.toNat x11.Thread)) hx36 (show 2 + (Int.toNat x11.Thread) < 7 by have := rvLt hx37; omega) (setArr rfl) (Nat.add_assoc _ _ _)), rfl, (Nat.le_trans (Nat.le_of_eq (by simp only [List.length_cons, List.length_nil]; omega)) (fmLe ln50 (j := 2 + (Int.toNat x11.Thread)) (m := 1) hx36 (show 2 + (Int.toNat x11.Thread) < 7 by have := rvLt hx37; omega))), (setE (rdM o43 hx38)), rfl, (treeM t3), (setP o43), (by first | exact lnSet _ | exact lnSet2 _ | exact apLn _ (by assumption) | simp only [List.length_map, List.length_set, List.length_cons, List.length_nil]), (rok (treeB t51 (a6.setIfInBounds (Int.toNat x11.Obj) (Gtouched.mk x36.thread x36.number (x36.loads.setIfInBounds (Int.toNat x11.Thread) x35))))), (rok (treeM t43)), trivial⟩ (hK0 (a6.setIfInBounds (Int.toNat x11.Obj) (Gtouched.mk x36.thread x36.number (x36.loads.setIfInBounds (Int.toNat x11.Thread) x35))) (a7.set (Int.toNat v8) x10) (w64 (v8 + 1)) _ h)
noncomputable def impl_FastRace_l0  (p1 : (List GEvent)) (r5 : (List (List Int))) : Nat → (Vector Gtouched 100) → (List (List Int)) → Int → Option (Int × Int × Bool)
  | 0, _, _, _ => none
  | n + 1, a6, a7, v8 =>
  if (decide (v8 < (r5.length : Int))) = true then
    Option.bind (rd a7 v8) fun x10 =>
    Option.bind (rd p1 v8) fun x11 =>
    Option.bind (impl_Event_touches x11) fun r12 =>
    if (!r12) = true then
      impl_FastRace_l0 p1 r5 n a6 a7 (w64 (v8 + 1))
    else
      Option.bind (rdv a6 x11.Obj) fun x15 =>
      Option.bind (rd x10 x15.thread) fun x16 =>
      impl_FastRace_l1 (impl_FastRace_l0 p1 r5 n) p1 r5 a6 a7 v8 x10 x11 x15 FU (decide (x15.number > x16)) 0
  else
    some (0, 0, false)
theorem impl_FastRace_l0_m {E : Env} (hP : E.P = Try.prog) (hn : E.n = 101) (hx : ∀ p, p ∈ E.fx → p.1 ∈ ([] : List Nat)) (p1 : (List GEvent)) (r5 : (List (List Int)))  : ∀ (n : Nat) (a6 : (Vector Gtouched 100)) (a7 : (List (List Int))) (v8 : Int) (r : (Int × Int × Bool)), impl_FastRace_l0 p1 r5 n a6 a7 v8 = some r → WAt E body8 (FQ (RetE Θ Try.f8.results.toList [] [] (AV.tup [(I r.1), (I r.2.1), (B r.2.2)]) E)) [true, true, true, false, true, false] ⟨[(0, (AV.ro 5 (p1.map o40))), (5, (AV.ptr 1 0 0)), (18, (AV.sl 2 0 (List.length (a7.map o43)))), (19, (I (r5.length : Int))), (20, (I v8))], [(1, some ⟨51, 700, [((o51 a6))]⟩), (2, some ⟨43, 1, (a7.map o43)⟩)], [1, 2, JJ]⟩ := by
  have hm : E.P.follows .mixedOrders = true := by rw [hP]; exact mixed
  have hΘ : TOK E.P Θ := by rw [hP]; exact Θ_ok
  intro n
  induction n with
  | zero => intro a6 a7 v8 r h; simp only [impl_FastRace_l0] at h; cases h
  | succ n ih =>
    intro a6 a7 v8 r h
    simp only [impl_FastRace_l0] at h
    rcases itS h with ⟨c9, h⟩ | ⟨c39, h⟩
    · obtain ⟨x10, hx10, h⟩ := bnS h
      obtain ⟨x11, hx11, h⟩ := bnS h
      obtain ⟨r12, hr12, h⟩ := bnS h
      rcases itS h with ⟨c13, h⟩ | ⟨c14, h⟩
      · exact go_to hΘ hm hx hP hn (hs := [⟨1, .br true, none⟩, ⟨4, .unpack 2 1001 (Int.toNat v8) 0 [(AV.own 3 1 (x10.map o3))] 3 1 (x10.map o3) ((a7.map o43).set (Int.toNat v8) [(AV.sl 1001 0 (List.length (x10.map o3)))]), none⟩, ⟨4, .row [(AV.sl 1001 0 (List.length (x10.map o3)))], none⟩, ⟨9, .row (o40 x11), none⟩, ⟨11, .new 1002, none⟩, ⟨14, .callV [[]] (B r12), none⟩, ⟨16, .br true, none⟩, ⟨19, .pack 2 1001 (Int.toNat v8) 0 [(AV.sl 1001 0 (List.length (x10.map o3)))] (a7.map o43), none⟩, ⟨19, .slen 18 (List.length (a7.map o43)), none⟩]) (π := [(1, 1), (2, 2)]) (ts := [0, 5, 18, 19, 20]) (kp := []) (ps := [(decide (v8 < (r5.length : Int))) = true, (0 : Int) ≤ v8, v8 < (((List.length (a7.map o43)) : Nat) : Int), (a7.map o43)[(Int.toNat v8)]? = some [(AV.own 3 1 (x10.map o3))], [(AV.own 3 1 (x10.map o3))][0]? = some (AV.own 3 1 (x10.map o3)), 0 < 1, (a7.map o43).set (Int.toNat v8) ([(AV.own 3 1 (x10.map o3))].set 0 (AV.sl 1001 0 (List.length (x10.map o3)))) = ((a7.map o43).set (Int.toNat v8) [(AV.sl 1001 0 (List.length (x10.map o3)))]), ((a7.map o43).set (Int.toNat v8) [(AV.sl 1001 0 (List.length (x10.map o3)))])[(Int.toNat v8)]? = some [(AV.sl 1001 0 (List.length (x10.map o3)))], (0 : Int) ≤ v8, (p1.map o40)[(Int.toNat v8)]? = some (o40 x11), Meets Try.prog 23 [(AV.agg ((o40 x11)))] (B r12), litA (B r12) = true, (!r12) = true, ((a7.map o43).set (Int.toNat v8) [(AV.sl 1001 0 (List.length (x10.map o3)))])[(Int.toNat v8)]? = some [(AV.sl 1001 0 (List.length (x10.map o3)))], [(AV.sl 1001 0 (List.length (x10.map o3)))][0]? = some (AV.sl 1001 0 (List.length (x10.map o3))), treeLL (x10.map o3) = true, ((a7.map o43).set (Int.toNat v8) [(AV.sl 1001 0 (List.length (x10.map o3)))]).set (Int.toNat v8) ([(AV.sl 1001 0 (List.length (x10.map o3)))].set 0 (AV.own 3 1 (x10.map o3))) = (a7.map o43), (List.length (a7.map o43)) = (List.length (a7.map o43)), RenOK [(1, 1), (2, 2)] [((o51 a6))], RenOK [(1, 1), (2, 2)] (a7.map o43)]) (by kernel_rfl) ⟨c9, (rd0 hx10), (rdL o43 hx10), (rdM o43 hx10), rfl, (by decide), rfl, (setE (rdM o43 hx10)), (rd0 hx11), (rdM o40 hx11), (impl_Event_touches_m hr12), rfl, c13, (setE (rdM o43 hx10)), rfl, (treeM t3), (setPi o43 hx10), rfl, (rok (treeB t51 a6)), (rok (treeM t43)), trivial⟩ (ih a6 a7 (w64 (v8 + 1)) _ h)
      · obtain ⟨x15, hx15, h⟩ := bnS h
        obtain ⟨x16, hx16, h⟩ := bnS h
        exact go_to hΘ hm hx hP hn (hs := [⟨1, .br true, none⟩, ⟨4, .unpack 2 1001 (Int.toNat v8) 0 [(AV.own 3 1 (x10.map o3))] 3 1 (x10.map o3) ((a7.map o43).set (Int.toNat v8) [(AV.sl 1001 0 (List.length (x10.map o3)))]), none⟩, ⟨4, .row [(AV.sl 1001 0 (List.length (x10.map o3)))], none⟩, ⟨9, .row (o40 x11), none⟩, ⟨11, .new 1002, none⟩, ⟨14, .callV [[]] (B r12), none⟩, ⟨16, .br false, none⟩, ⟨24, .cel ((o51 a6)) (I x15.number), none⟩, ⟨29, .cel ((o51 a6)) (I x15.thread), none⟩, ⟨31, .row [(I x16)], none⟩, ⟨37, .agg ((o51 a6)) ((o48 x15.loads)), none⟩, ⟨39, .slen 18 (List.length ((a7.map o43).set (Int.toNat v8) [(AV.sl 1001 0 (List.length (x10.map o3)))])), none⟩]) (π := [(1, 1), (1001, 1001), (1002, 2), (2, 3)]) (ts := [0, 5, 6, 7, 8, 9, 10, 18, 19, 20, 50, 51]) (kp := [50]) (ps := [(decide (v8 < (r5.length : Int))) = true, (0 : Int) ≤ v8, v8 < (((List.length (a7.map o43)) : Nat) : Int), (a7.map o43)[(Int.toNat v8)]? = some [(AV.own 3 1 (x10.map o3))], [(AV.own 3 1 (x10.map o3))][0]? = some (AV.own 3 1 (x10.map o3)), 0 < 1, (a7.map o43).set (Int.toNat v8) ([(AV.own 3 1 (x10.map o3))].set 0 (AV.sl 1001 0 (List.length (x10.map o3)))) = ((a7.map o43).set (Int.toNat v8) [(AV.sl 1001 0 (List.length (x10.map o3)))]), ((a7.map o43).set (Int.toNat v8) [(AV.sl 1001 0 (List.length (x10.map o3)))])[(Int.toNat v8)]? = some [(AV.sl 1001 0 (List.length (x10.map o3)))], (0 : Int) ≤ v8, (p1.map o40)[(Int.toNat v8)]? = some (o40 x11), Meets Try.prog 23 [(AV.agg ((o40 x11)))] (B r12), litA (B r12) = true, (!r12) = false, (0 : Int) ≤ x11.Obj, x11.Obj < ((100 : Nat) : Int), ((o51 a6))[(((Int.toNat x11.Obj) * 7) + 1)]? = some (I x15.number), [((o51 a6))][0]? = some ((o51 a6)), ((o51 a6))[(((Int.toNat x11.Obj) * 7) + 0)]? = some (I x15.thread), [((o51 a6))][0]? = some ((o51 a6)), (0 : Int) ≤ x15.thread, x15.thread < (((List.length (x10.map o3)) : Nat) : Int), (x10.map o3)[(Int.toNat x15.thread)]? = some [(I x16)], (((Int.toNat x11.Obj) * 7) + 2) + 5 ≤ ((o51 a6)).length, (((o51 a6)).drop (((Int.toNat x11.Obj) * 7) + 2)).take 5 = ((o48 x15.loads)), ((o48 x15.loads)).all AV.plain = true, [((o51 a6))][0]? = some ((o51 a6)), (List.length (a7.map o43)) = (List.length ((a7.map o43).set (Int.toNat v8) [(AV.sl 1001 0 (List.length (x10.map o3)))])), RenOK [(1, 1), (1001, 1001), (1002, 2), (2, 3)] [((o51 a6))], RenOK [(1, 1), (1001, 1001), (1002, 2), (2, 3)] (x10.map o3), RenOK [(1, 1), (1001, 1001), (1002, 2), (2, 3)] [((o40 x11))], RenOK [(1, 1), (1001, 1001), (1002, 2), (2, 3)] ((a7.map o43).set (Int.toNat v8) [(AV.sl 1001 0 (List.length (x10.map o3)))]), tree (AV.agg ((o48 x15.loads))) = true]) (by kernel_rfl) ⟨c9, (rd0 hx10), (rdL o43 hx10), (rdM o43 hx10), rfl, (by decide), rfl, (setE (rdM o43 hx10)), (rd0 hx11), (rdM o40 hx11), (impl_Event_touches_m hr12), rfl, c14, (rv0 hx15), (rvL hx15), (fmM ln50 hx15 rfl), rfl, (fmM ln50 hx15 rfl), rfl, (rd0 hx16), (rdL o3 hx16), (rdM o3 hx16), (fmLe ln50 hx15 (by decide)), (fmAgg ln50 hx15 (by decide) (fmTk rfl)), (pa48 _), rfl, (by first | exact lnSet _ | exact lnSet2 _ | exact apLn _ (by assumption) | simp only [List.length_map, List.length_set, List.length_cons, List.length_nil]), (rok (treeB t51 a6)), (rok (treeM t3)), (rok rfl), (renSet (rok (treeM t43)) rfl), (t48 x15.loads), trivial⟩ (impl_FastRace_l1_m hP hn hx p1 r5 a6 a7 v8 x10 x11 x15 ih FU (decide (x15.number > x16)) 0 _ h)
    · have h := Option.some.inj h
      subst h
      exact go_ret hΘ hm hP hn (hs := [⟨1, .br false, none⟩]) (rh := []) (ph := .agg [.raw, .raw, .raw]) (ps := [(decide (v8 < (r5.length : Int))) = false, (I 0) = (I 0), litA (I 0) = true, (I 0) = (I 0), litA (I 0) = true, (B false) = (B false), litA (B false) = true]) (by kernel_rfl) ⟨c39, rfl, rfl, rfl, rfl, rfl, rfl, trivial⟩
noncomputable def impl_FastRace (p1 : (List GEvent)) : Option (Int × Int × Bool) :=
  Option.bind (impl_GoodTrace p1) fun r2 =>
  if (!r2) = true then
    some (0, 0, false)
  else
    Option.bind (impl_clocks p1) fun r5 =>
    impl_FastRace_l0 p1 r5 FU (Vector.replicate 100 (Gtouched.mk 0 0 (Vector.replicate 5 0))) r5 0
theorem impl_FastRace_m {p1 : (List GEvent)} {r : (Int × Int × Bool)} (h : impl_FastRace p1 = some r) : Meets Try.prog 8 [(AV.ro 5 (p1.map o40))] (AV.tup [(I r.1), (I r.2.1), (B r.2.2)]) := by
  refine meets_ofC Θ_ok Try.func8 rfl (c := body8) (by kernel_rfl) (Nat.le_of_ble_eq_true rfl) ?_
  intro E hP hn hx
  replace hn : E.n = 101 := hn
  have hm : E.P.follows .mixedOrders = true := by rw [hP]; exact mixed
  have hΘ : TOK E.P Θ := by rw [hP]; exact Θ_ok
  unfold impl_FastRace at h
  show WAt E body8 (FQ (RetE Θ Try.f8.results.toList [] [] (AV.tup [(I r.1), (I r.2.1), (B r.2.2)]) E)) [] ⟨[(0, (AV.ro 5 (p1.map o40)))], [], [JJ]⟩
  obtain ⟨r2, hr2, h⟩ := bnS h
  rcases itS h with ⟨c3, h⟩ | ⟨c4, h⟩
  · have h := Option.some.inj h
    subst h
    exact go_ret hΘ hm hP hn (hs := [⟨4, .callV [] (B r2), none⟩, ⟨6, .br true, none⟩]) (rh := []) (ph := .agg [.raw, .raw, .raw]) (ps := [Meets Try.prog 21 [(AV.ro 5 (p1.map o40))] (B r2), litA (B r2) = true, (!r2) = true, (I 0) = (I 0), litA (I 0) = true, (I 0) = (I 0), litA (I 0) = true, (B false) = (B false), litA (B false) = true]) (by kernel_rfl) ⟨(impl_GoodTrace_m hr2), rfl, c3, rfl, rfl, rfl, rfl, rfl, rfl, trivial⟩
  · obtain ⟨r5, hr5, h⟩ := bnS h
    exact go_to hΘ hm hx hP hn (hs := [⟨4, .callV [] (B r2), none⟩, ⟨6, .br false, none⟩, ⟨7, .no, some (AV.agg ((o51 (Vector.replicate 100 (Gtouched.mk 0 0 (Vector.replicate 5 0))))))⟩, ⟨8, .nw 1001 [((o51 (Vector.replicate 100 (Gtouched.mk 0 0 (Vector.replicate 5 0)))))], none⟩, ⟨9, .stoS ((o51 (Vector.replicate 100 (Gtouched.mk 0 0 (Vector.replicate 5 0))))) [((o51 (Vector.replicate 100 (Gtouched.mk 0 0 (Vector.replicate 5 0)))))], none⟩, ⟨11, .call [] (AV.own 43 1 (r5.map o43)) [1002], none⟩, ⟨12, .no, some (I (r5.length : Int))⟩]) (π := [(1001, 1), (1002, 2)]) (ts := [0, 5, 18, 19, 20]) (kp := []) (ps := [Meets Try.prog 21 [(AV.ro 5 (p1.map o40))] (B r2), litA (B r2) = true, (!r2) = false, AV.agg (litL (List.replicate 700 (.int .i64 0))) = (AV.agg ((o51 (Vector.replicate 100 (Gtouched.mk 0 0 (Vector.replicate 5 0)))))), [litL (List.replicate 700 (.int .i64 0))] = [((o51 (Vector.replicate 100 (Gtouched.mk 0 0 (Vector.replicate 5 0)))))], [((o51 (Vector.replicate 100 (Gtouched.mk 0 0 (Vector.replicate 5 0)))))][0]? = some ((o51 (Vector.replicate 100 (Gtouched.mk 0 0 (Vector.replicate 5 0))))), [((o51 (Vector.replicate 100 (Gtouched.mk 0 0 (Vector.replicate 5 0)))))].set 0 (wr ((o51 (Vector.replicate 100 (Gtouched.mk 0 0 (Vector.replicate 5 0))))) 0 ((o51 (Vector.replicate 100 (Gtouched.mk 0 0 (Vector.replicate 5 0)))))) = [((o51 (Vector.replicate 100 (Gtouched.mk 0 0 (Vector.replicate 5 0)))))], ((o51 (Vector.replicate 100 (Gtouched.mk 0 0 (Vector.replicate 5 0))))).length = 700, 0 + ((o51 (Vector.replicate 100 (Gtouched.mk 0 0 (Vector.replicate 5 0))))).length ≤ ((o51 (Vector.replicate 100 (Gtouched.mk 0 0 (Vector.replicate 5 0))))).length, ((o51 (Vector.replicate 100 (Gtouched.mk 0 0 (Vector.replicate 5 0))))).all okLit = true, Meets Try.prog 22 [(AV.ro 5 (p1.map o40))] (AV.own 43 1 (r5.map o43)), noRo (AV.own 43 1 (r5.map o43)) = true, AV.lit (.int .i64 (((List.length (r5.map o43)) : Nat) : Int)) = (I (r5.length : Int)), RenOK [(1001, 1), (1002, 2)] [((o51 (Vector.replicate 100 (Gtouched.mk 0 0 (Vector.replicate 5 0)))))], RenOK [(1001, 1), (1002, 2)] (r5.map o43)]) (by kernel_rfl) ⟨(impl_GoodTrace_m hr2), rfl, c4, (fmZeroA (o := o50) (s := 7) (k := 100) (z := (Gtouched.mk 0 0 (Vector.replicate 5 0))) rfl rfl), (fmZero (o := o50) (s := 7) (k := 100) (z := (Gtouched.mk 0 0 (Vector.replicate 5 0))) rfl rfl), rfl, (fmSt ln50), (fmL ln50 rfl), (fmLL ln50), (fmAll ok50), (impl_clocks_m hr5), (by simp only [noRo, noRoL, noRoM n43, Bool.and_self]), (lenM o43), (rok (treeB t51 (Vector.replicate 100 (Gtouched.mk 0 0 (Vector.replicate 5 0))))), (rok (treeM t43)), trivial⟩ (impl_FastRace_l0_m hP hn hx p1 r5 FU (Vector.replicate 100 (Gtouched.mk 0 0 (Vector.replicate 5 0))) r5 0 _ h)
noncomputable def body24 : Code := match Try.f24.body with | some c => c | none => .skip
noncomputable def laws_eqEvent (p1 : GEvent) (p2 : GEvent) : Option Bool :=
  if (p1.Thread != p2.Thread) = true then
    some false
  else
    if (p1.Kind != p2.Kind) = true then
      some false
    else
      if (p1.Obj != p2.Obj) = true then
        some false
      else
        if (p1.Lock != p2.Lock) = true then
          some false
        else
          if (p1.Pc != p2.Pc) = true then
            some false
          else
            some true
theorem laws_eqEvent_m {p1 : GEvent} {p2 : GEvent} {r : Bool} (h : laws_eqEvent p1 p2 = some r) : Meets Try.prog 24 [(AV.agg ((o40 p1))), (AV.agg ((o40 p2)))] (B r) := by
  refine meets_ofC Θ_ok Try.func24 rfl (c := body24) (by kernel_rfl) (Nat.le_of_ble_eq_true rfl) ?_
  intro E hP hn hx
  replace hn : E.n = 30 := hn
  have hm : E.P.follows .mixedOrders = true := by rw [hP]; exact mixed
  have hΘ : TOK E.P Θ := by rw [hP]; exact Θ_ok
  unfold laws_eqEvent at h
  show WAt E body24 (FQ (RetE Θ Try.f24.results.toList [] [] (B r) E)) [] ⟨[(0, (AV.agg ((o40 p1)))), (1, (AV.agg ((o40 p2))))], [], [JJ]⟩
  rcases itS h with ⟨c3, h⟩ | ⟨c4, h⟩
  · have h := Option.some.inj h
    subst h
    exact go_ret hΘ hm hP hn (hs := [⟨0, .new 1001, none⟩, ⟨1, .new 1002, none⟩, ⟨8, .br true, none⟩]) (rh := []) (ph := .raw) (ps := [(p1.Thread != p2.Thread) = true, (B false) = (B false), litA (B false) = true]) (by kernel_rfl) ⟨c3, rfl, rfl, trivial⟩
  · rcases itS h with ⟨c5, h⟩ | ⟨c6, h⟩
    · have h := Option.some.inj h
      subst h
      exact go_ret hΘ hm hP hn (hs := [⟨0, .new 1001, none⟩, ⟨1, .new 1002, none⟩, ⟨8, .br false, none⟩, ⟨14, .br true, none⟩]) (rh := []) (ph := .raw) (ps := [(p1.Thread != p2.Thread) = false, (p1.Kind != p2.Kind) = true, (B false) = (B false), litA (B false) = true]) (by kernel_rfl) ⟨c4, c5, rfl, rfl, trivial⟩
    · rcases itS h with ⟨c7, h⟩ | ⟨c8, h⟩
      · have h := Option.some.inj h
        subst h
        exact go_ret hΘ hm hP hn (hs := [⟨0, .new 1001, none⟩, ⟨1, .new 1002, none⟩, ⟨8, .br false, none⟩, ⟨14, .br false, none⟩, ⟨20, .br true, none⟩]) (rh := []) (ph := .raw) (ps := [(p1.Thread != p2.Thread) = false, (p1.Kind != p2.Kind) = false, (p1.Obj != p2.Obj) = true, (B false) = (B false), litA (B false) = true]) (by kernel_rfl) ⟨c4, c6, c7, rfl, rfl, trivial⟩
      · rcases itS h with ⟨c9, h⟩ | ⟨c10, h⟩
        · have h := Option.some.inj h
          subst h
          exact go_ret hΘ hm hP hn (hs := [⟨0, .new 1001, none⟩, ⟨1, .new 1002, none⟩, ⟨8, .br false, none⟩, ⟨14, .br false, none⟩, ⟨20, .br false, none⟩, ⟨26, .br true, none⟩]) (rh := []) (ph := .raw) (ps := [(p1.Thread != p2.Thread) = false, (p1.Kind != p2.Kind) = false, (p1.Obj != p2.Obj) = false, (p1.Lock != p2.Lock) = true, (B false) = (B false), litA (B false) = true]) (by kernel_rfl) ⟨c4, c6, c8, c9, rfl, rfl, trivial⟩
        · rcases itS h with ⟨c11, h⟩ | ⟨c12, h⟩
          · have h := Option.some.inj h
            subst h
            exact go_ret hΘ hm hP hn (hs := [⟨0, .new 1001, none⟩, ⟨1, .new 1002, none⟩, ⟨8, .br false, none⟩, ⟨14, .br false, none⟩, ⟨20, .br false, none⟩, ⟨26, .br false, none⟩, ⟨32, .br true, none⟩]) (rh := []) (ph := .raw) (ps := [(p1.Thread != p2.Thread) = false, (p1.Kind != p2.Kind) = false, (p1.Obj != p2.Obj) = false, (p1.Lock != p2.Lock) = false, (p1.Pc != p2.Pc) = true, (B false) = (B false), litA (B false) = true]) (by kernel_rfl) ⟨c4, c6, c8, c10, c11, rfl, rfl, trivial⟩
          · have h := Option.some.inj h
            subst h
            exact go_ret hΘ hm hP hn (hs := [⟨0, .new 1001, none⟩, ⟨1, .new 1002, none⟩, ⟨8, .br false, none⟩, ⟨14, .br false, none⟩, ⟨20, .br false, none⟩, ⟨26, .br false, none⟩, ⟨32, .br false, none⟩]) (rh := []) (ph := .raw) (ps := [(p1.Thread != p2.Thread) = false, (p1.Kind != p2.Kind) = false, (p1.Obj != p2.Obj) = false, (p1.Lock != p2.Lock) = false, (p1.Pc != p2.Pc) = false, (B true) = (B true), litA (B true) = true]) (by kernel_rfl) ⟨c4, c6, c8, c10, c12, rfl, rfl, trivial⟩
noncomputable def body9 : Code := match Try.f9.body with | some c => c | none => .skip
noncomputable def laws_eqEventS_l0  (p1 : (List GEvent)) (p2 : (List GEvent)) : Nat → Int → Option Bool
  | 0, _ => none
  | n + 1, v5 =>
  if (decide (v5 < (p1.length : Int))) = true then
    Option.bind (rd p1 v5) fun x7 =>
    Option.bind (rd p2 v5) fun x8 =>
    Option.bind (laws_eqEvent x7 x8) fun r9 =>
    if (!r9) = true then
      some false
    else
      laws_eqEventS_l0 p1 p2 n (w64 (v5 + 1))
  else
    some true
theorem laws_eqEventS_l0_m {E : Env} (hP : E.P = Try.prog) (hn : E.n = 27) (hx : ∀ p, p ∈ E.fx → p.1 ∈ ([] : List Nat)) (p1 : (List GEvent)) (p2 : (List GEvent))  : ∀ (n : Nat) (v5 : Int) (r : Bool), laws_eqEventS_l0 p1 p2 n v5 = some r → WAt E body9 (FQ (RetE Θ Try.f9.results.toList [] [] (B r) E)) [true, true, false, true, false] ⟨[(0, (AV.ro 5 (p1.map o40))), (1, (AV.ro 5 (p2.map o40))), (5, (I v5))], [], [JJ]⟩ := by
  have hm : E.P.follows .mixedOrders = true := by rw [hP]; exact mixed
  have hΘ : TOK E.P Θ := by rw [hP]; exact Θ_ok
  intro n
  induction n with
  | zero => intro v5 r h; simp only [laws_eqEventS_l0] at h; cases h
  | succ n ih =>
    intro v5 r h
    simp only [laws_eqEventS_l0] at h
    rcases itS h with ⟨c6, h⟩ | ⟨c12, h⟩
    · obtain ⟨x7, hx7, h⟩ := bnS h
      obtain ⟨x8, hx8, h⟩ := bnS h
      obtain ⟨r9, hr9, h⟩ := bnS h
      rcases itS h with ⟨c10, h⟩ | ⟨c11, h⟩
      · have h := Option.some.inj h
        subst h
        exact go_ret hΘ hm hP hn (hs := [⟨2, .no, some (I (p1.length : Int))⟩, ⟨4, .br true, none⟩, ⟨7, .row (o40 x7), none⟩, ⟨11, .row (o40 x8), none⟩, ⟨13, .callV [[], []] (B r9), none⟩, ⟨15, .br true, none⟩]) (rh := []) (ph := .raw) (ps := [AV.lit (.int .i64 (((p1.map o40).length : Nat) : Int)) = (I (p1.length : Int)), (decide (v5 < (p1.length : Int))) = true, (0 : Int) ≤ v5, (p1.map o40)[(Int.toNat v5)]? = some (o40 x7), (0 : Int) ≤ v5, (p2.map o40)[(Int.toNat v5)]? = some (o40 x8), Meets Try.prog 24 [(AV.agg ((o40 x7))), (AV.agg ((o40 x8)))] (B r9), litA (B r9) = true, (!r9) = true, (B false) = (B false), litA (B false) = true]) (by kernel_rfl) ⟨(lenM o40), c6, (rd0 hx7), (rdM o40 hx7), (rd0 hx8), (rdM o40 hx8), (laws_eqEvent_m hr9), rfl, c10, rfl, rfl, trivial⟩
      · exact go_to hΘ hm hx hP hn (hs := [⟨2, .no, some (I (p1.length : Int))⟩, ⟨4, .br true, none⟩, ⟨7, .row (o40 x7), none⟩, ⟨11, .row (o40 x8), none⟩, ⟨13, .callV [[], []] (B r9), none⟩, ⟨15, .br false, none⟩]) (π := []) (ts := [0, 1, 5]) (kp := []) (ps := [AV.lit (.int .i64 (((p1.map o40).length : Nat) : Int)) = (I (p1.length : Int)), (decide (v5 < (p1.length : Int))) = true, (0 : Int) ≤ v5, (p1.map o40)[(Int.toNat v5)]? = some (o40 x7), (0 : Int) ≤ v5, (p2.map o40)[(Int.toNat v5)]? = some (o40 x8), Meets Try.prog 24 [(AV.agg ((o40 x7))), (AV.agg ((o40 x8)))] (B r9), litA (B r9) = true, (!r9) = false]) (by kernel_rfl) ⟨(lenM o40), c6, (rd0 hx7), (rdM o40 hx7), (rd0 hx8), (rdM o40 hx8), (laws_eqEvent_m hr9), rfl, c11, trivial⟩ (ih (w64 (v5 + 1)) _ h)
    · have h := Option.some.inj h
      subst h
      exact go_ret hΘ hm hP hn (hs := [⟨2, .no, some (I (p1.length : Int))⟩, ⟨4, .br false, none⟩]) (rh := []) (ph := .raw) (ps := [AV.lit (.int .i64 (((p1.map o40).length : Nat) : Int)) = (I (p1.length : Int)), (decide (v5 < (p1.length : Int))) = false, (B true) = (B true), litA (B true) = true]) (by kernel_rfl) ⟨(lenM o40), c12, rfl, rfl, trivial⟩
noncomputable def laws_eqEventS (p1 : (List GEvent)) (p2 : (List GEvent)) : Option Bool :=
  if ((p1.length : Int) != (p2.length : Int)) = true then
    some false
  else
    laws_eqEventS_l0 p1 p2 FU 0
theorem laws_eqEventS_m {p1 : (List GEvent)} {p2 : (List GEvent)} {r : Bool} (h : laws_eqEventS p1 p2 = some r) : Meets Try.prog 9 [(AV.ro 5 (p1.map o40)), (AV.ro 5 (p2.map o40))] (B r) := by
  refine meets_ofC Θ_ok Try.func9 rfl (c := body9) (by kernel_rfl) (Nat.le_of_ble_eq_true rfl) ?_
  intro E hP hn hx
  replace hn : E.n = 27 := hn
  have hm : E.P.follows .mixedOrders = true := by rw [hP]; exact mixed
  have hΘ : TOK E.P Θ := by rw [hP]; exact Θ_ok
  unfold laws_eqEventS at h
  show WAt E body9 (FQ (RetE Θ Try.f9.results.toList [] [] (B r) E)) [] ⟨[(0, (AV.ro 5 (p1.map o40))), (1, (AV.ro 5 (p2.map o40)))], [], [JJ]⟩
  rcases itS h with ⟨c3, h⟩ | ⟨c4, h⟩
  · have h := Option.some.inj h
    subst h
    exact go_ret hΘ hm hP hn (hs := [⟨2, .no, some (I (p1.length : Int))⟩, ⟨4, .no, some (I (p2.length : Int))⟩, ⟨6, .br true, none⟩]) (rh := []) (ph := .raw) (ps := [AV.lit (.int .i64 (((p1.map o40).length : Nat) : Int)) = (I (p1.length : Int)), AV.lit (.int .i64 (((p2.map o40).length : Nat) : Int)) = (I (p2.length : Int)), ((p1.length : Int) != (p2.length : Int)) = true, (B false) = (B false), litA (B false) = true]) (by kernel_rfl) ⟨(lenM o40), (lenM o40), c3, rfl, rfl, trivial⟩
  · exact go_to hΘ hm hx hP hn (hs := [⟨2, .no, some (I (p1.length : Int))⟩, ⟨4, .no, some (I (p2.length : Int))⟩, ⟨6, .br false, none⟩]) (π := []) (ts := [0, 1, 5]) (kp := []) (ps := [AV.lit (.int .i64 (((p1.map o40).length : Nat) : Int)) = (I (p1.length : Int)), AV.lit (.int .i64 (((p2.map o40).length : Nat) : Int)) = (I (p2.length : Int)), ((p1.length : Int) != (p2.length : Int)) = false]) (by kernel_rfl) ⟨(lenM o40), (lenM o40), c4, trivial⟩ (laws_eqEventS_l0_m hP hn hx p1 p2 FU 0 _ h)
noncomputable def body5 : Code := match Try.f5.body with | some c => c | none => .skip
noncomputable def laws_szEventS (p1 : (List GEvent)) (p2 : Int) : Option Int :=
  if (decide ((w64 (p2 - (p1.length : Int))) < 0)) = true then
    some (-1)
  else
    some (w64 (p2 - (p1.length : Int)))
theorem laws_szEventS_m {p1 : (List GEvent)} {p2 : Int} {r : Int} (h : laws_szEventS p1 p2 = some r) : Meets Try.prog 5 [(AV.ro 5 (p1.map o47)), (I p2)] (I r) := by
  refine meets_ofC Θ_ok Try.func5 rfl (c := body5) (by kernel_rfl) (Nat.le_of_ble_eq_true rfl) ?_
  intro E hP hn hx
  replace hn : E.n = 12 := hn
  have hm : E.P.follows .mixedOrders = true := by rw [hP]; exact mixed
  have hΘ : TOK E.P Θ := by rw [hP]; exact Θ_ok
  unfold laws_szEventS at h
  show WAt E body5 (FQ (RetE Θ Try.f5.results.toList [] [] (I r) E)) [] ⟨[(0, (AV.ro 5 (p1.map o47))), (1, (I p2))], [], [JJ]⟩
  rcases itS h with ⟨c3, h⟩ | ⟨c4, h⟩
  · have h := Option.some.inj h
    subst h
    exact go_ret hΘ hm hP hn (hs := [⟨3, .no, some (I (p1.length : Int))⟩, ⟨8, .br true, none⟩]) (rh := []) (ph := .raw) (ps := [AV.lit (.int .i64 (((p1.map o47).length : Nat) : Int)) = (I (p1.length : Int)), (decide ((w64 (p2 - (p1.length : Int))) < 0)) = true, (I (-1)) = (I (-1)), litA (I (-1)) = true]) (by kernel_rfl) ⟨(lenM o47), c3, rfl, rfl, trivial⟩
  · have h := Option.some.inj h
    subst h
    exact go_ret hΘ hm hP hn (hs := [⟨3, .no, some (I (p1.length : Int))⟩, ⟨8, .br false, none⟩]) (rh := []) (ph := .raw) (ps := [AV.lit (.int .i64 (((p1.map o47).length : Nat) : Int)) = (I (p1.length : Int)), (decide ((w64 (p2 - (p1.length : Int))) < 0)) = false, (I (w64 (p2 - (p1.length : Int)))) = (I (w64 (p2 - (p1.length : Int)))), litA (I (w64 (p2 - (p1.length : Int)))) = true]) (by kernel_rfl) ⟨(lenM o47), c4, rfl, rfl, trivial⟩
noncomputable def body20 : Code := match Try.f20.body with | some c => c | none => .skip
noncomputable def laws_toEvent (p1 : GEvent) : Option GEvent :=
  some (GEvent.mk p1.Thread p1.Kind p1.Obj p1.Lock p1.Pc)
theorem laws_toEvent_m {p1 : GEvent} {r : GEvent} (h : laws_toEvent p1 = some r) : Meets Try.prog 20 [(AV.agg ((o47 p1)))] (AV.agg (o40 r)) := by
  refine meets_ofC Θ_ok Try.func20 rfl (c := body20) (by kernel_rfl) (Nat.le_of_ble_eq_true rfl) ?_
  intro E hP hn hx
  replace hn : E.n = 20 := hn
  have hm : E.P.follows .mixedOrders = true := by rw [hP]; exact mixed
  have hΘ : TOK E.P Θ := by rw [hP]; exact Θ_ok
  unfold laws_toEvent at h
  show WAt E body20 (FQ (RetE Θ Try.f20.results.toList [] [] (AV.agg (o40 r)) E)) [] ⟨[(0, (AV.agg ((o47 p1))))], [], [JJ]⟩
  have h := Option.some.inj h
  subst h
  exact go_ret hΘ hm hP hn (hs := [⟨0, .new 1001, none⟩, ⟨1, .new 1002, none⟩, ⟨2, .new 1003, none⟩]) (rh := []) (ph := .raw) (ps := [(AV.agg [(I p1.Thread), (I p1.Kind), (I p1.Obj), (I p1.Lock), (I p1.Pc)]) = (AV.agg [(I p1.Thread), (I p1.Kind), (I p1.Obj), (I p1.Lock), (I p1.Pc)]), litA (AV.agg [(I p1.Thread), (I p1.Kind), (I p1.Obj), (I p1.Lock), (I p1.Pc)]) = true]) (by kernel_rfl) ⟨rfl, rfl, trivial⟩
noncomputable def body7 : Code := match Try.f7.body with | some c => c | none => .skip
noncomputable def laws_toEventS_l0  (p1 : (List GEvent)) : Nat → (List GEvent) → Int → Option (List GEvent)
  | 0, _, _ => none
  | n + 1, a3, v4 =>
  if (decide (v4 < (p1.length : Int))) = true then
    Option.bind (rd p1 v4) fun x6 =>
    Option.bind (laws_toEvent x6) fun r7 =>
    Option.bind (rd a3 v4) fun x8 =>
    laws_toEventS_l0 p1 n (a3.set (Int.toNat v4) r7) (w64 (v4 + 1))
  else
    some a3
theorem laws_toEventS_l0_m {E : Env} (hP : E.P = Try.prog) (hn : E.n = 23) (hx : ∀ p, p ∈ E.fx → p.1 ∈ ([] : List Nat)) (p1 : (List GEvent))  : ∀ (n : Nat) (a3 : (List GEvent)) (v4 : Int) (r : (List GEvent)), laws_toEventS_l0 p1 n a3 v4 = some r → WAt E body7 (FQ (RetE Θ Try.f7.results.toList [] [] (AV.own 40 5 (r.map o40)) E)) [true, true, false, true, false] ⟨[(0, (AV.ro 5 (p1.map o47))), (3, (AV.sl 1 0 (List.length (a3.map o40)))), (4, (I v4))], [(1, some ⟨40, 5, (a3.map o40)⟩)], [1, JJ]⟩ := by
  have hm : E.P.follows .mixedOrders = true := by rw [hP]; exact mixed
  have hΘ : TOK E.P Θ := by rw [hP]; exact Θ_ok
  intro n
  induction n with
  | zero => intro a3 v4 r h; simp only [laws_toEventS_l0] at h; cases h
  | succ n ih =>
    intro a3 v4 r h
    simp only [laws_toEventS_l0] at h
    rcases itS h with ⟨c5, h⟩ | ⟨c9, h⟩
    · obtain ⟨x6, hx6, h⟩ := bnS h
      obtain ⟨r7, hr7, h⟩ := bnS h
      obtain ⟨x8, hx8, h⟩ := bnS h
      exact go_to hΘ hm hx hP hn (hs := [⟨2, .no, some (I (p1.length : Int))⟩, ⟨4, .br true, none⟩, ⟨9, .row (o47 x6), none⟩, ⟨11, .callV [[]] (AV.agg (o40 r7)), none⟩, ⟨13, .sto ((o40 x8)) ((a3.set (Int.toNat v4) r7).map o40), none⟩, ⟨17, .slen 3 (List.length ((a3.set (Int.toNat v4) r7).map o40)), none⟩]) (π := [(1, 1)]) (ts := [0, 3, 4]) (kp := []) (ps := [AV.lit (.int .i64 (((p1.map o47).length : Nat) : Int)) = (I (p1.length : Int)), (decide (v4 < (p1.length : Int))) = true, (0 : Int) ≤ v4, (p1.map o47)[(Int.toNat v4)]? = some (o47 x6), Meets Try.prog 20 [(AV.agg ((o47 x6)))] (AV.agg (o40 r7)), litA (AV.agg (o40 r7)) = true, (0 : Int) ≤ v4, v4 < (((List.length (a3.map o40)) : Nat) : Int), (a3.map o40)[(Int.toNat v4)]? = some ((o40 x8)), (a3.map o40).set (Int.toNat v4) (wr ((o40 x8)) 0 ((o40 r7))) = ((a3.set (Int.toNat v4) r7).map o40), ((o40 r7)).length = 5, 0 + ((o40 r7)).length ≤ ((o40 x8)).length, (List.length (a3.map o40)) = (List.length ((a3.set (Int.toNat v4) r7).map o40)), RenOK [(1, 1)] ((a3.set (Int.toNat v4) r7).map o40)]) (by kernel_rfl) ⟨(lenM o47), c5, (rd0 hx6), (rdM o47 hx6), (laws_toEvent_m hr7), rfl, (rd0 hx8), (rdL o40 hx8), (rdM o40 hx8), (setMr o40 (by kernel_rfl)), rfl, (Nat.le_of_ble_eq_true rfl), (by first | exact lnSet _ | exact lnSet2 _ | exact apLn _ (by assumption) | simp only [List.length_map, List.length_set, List.length_cons, List.length_nil]), (rok (treeM t40)), trivial⟩ (ih (a3.set (Int.toNat v4) r7) (w64 (v4 + 1)) _ h)
    · have h := Option.some.inj h
      subst h
      exact go_ret hΘ hm hP hn (hs := [⟨2, .no, some (I (p1.length : Int))⟩, ⟨4, .br false, none⟩]) (rh := []) (ph := .own) (ps := [AV.lit (.int .i64 (((p1.map o47).length : Nat) : Int)) = (I (p1.length : Int)), (decide (v4 < (p1.length : Int))) = false, treeLL ((a3.map o40).take (List.length (a3.map o40))) = true, (a3.map o40).take (List.length (a3.map o40)) = (a3.map o40), noRoLL (a3.map o40) = true]) (by kernel_rfl) ⟨(lenM o47), c9, (treeT t40), takeM, (noRoM n40), trivial⟩
noncomputable def laws_toEventS (p1 : (List GEvent)) : Option (List GEvent) :=
  Option.bind (mk (GEvent.mk 0 0 0 0 0) (p1.length : Int)) fun l2 =>
  laws_toEventS_l0 p1 FU l2 0
theorem laws_toEventS_m {p1 : (List GEvent)} {r : (List GEvent)} (h : laws_toEventS p1 = some r) : Meets Try.prog 7 [(AV.ro 5 (p1.map o47))] (AV.own 40 5 (r.map o40)) := by
  refine meets_ofC Θ_ok Try.func7 rfl (c := body7) (by kernel_rfl) (Nat.le_of_ble_eq_true rfl) ?_
  intro E hP hn hx
  replace hn : E.n = 23 := hn
  have hm : E.P.follows .mixedOrders = true := by rw [hP]; exact mixed
  have hΘ : TOK E.P Θ := by rw [hP]; exact Θ_ok
  unfold laws_toEventS at h
  show WAt E body7 (FQ (RetE Θ Try.f7.results.toList [] [] (AV.own 40 5 (r.map o40)) E)) [] ⟨[(0, (AV.ro 5 (p1.map o47)))], [], [JJ]⟩
  obtain ⟨l2, hl2, h⟩ := bnS h
  exact go_to hΘ hm hx hP hn (hs := [⟨2, .no, some (I (p1.length : Int))⟩, ⟨3, .nw 1001 (l2.map o40), some (AV.sl 1001 0 (List.length (l2.map o40)))⟩]) (π := [(1001, 1)]) (ts := [0, 3, 4]) (kp := []) (ps := [AV.lit (.int .i64 (((p1.map o47).length : Nat) : Int)) = (I (p1.length : Int)), List.replicate (Int.toNat (p1.length : Int)) [.lit (.int .i64 0), .lit (.int .i64 0), .lit (.int .i64 0), .lit (.int .i64 0), .lit (.int .i64 0)] = (l2.map o40), AV.sl 1001 0 (Int.toNat (p1.length : Int)) = (AV.sl 1001 0 (List.length (l2.map o40))), (p1.length : Int) = (p1.length : Int), (0 : Int) ≤ (p1.length : Int), (p1.length : Int) * ((40 : Nat) : Int) ≤ 140737488355328, (p1.length : Int) ≤ 140737488355328, RenOK [(1001, 1)] (l2.map o40)]) (by kernel_rfl) ⟨(lenM o47), (mkM o40 hl2), (mkS o40 hl2), rfl, (mk0 hl2), (mkB hl2 (by decide)), (mkC hl2), (rok (treeM t40)), trivial⟩ (laws_toEventS_l0_m hP hn hx p1 FU l2 0 _ h)
noncomputable def body41 : Code := match Try.f41.body with | some c => c | none => .skip
noncomputable def spec_l6Gives (p1 : GEvent) : Option Int :=
  if (p1.Kind == 5) = true then
    some p1.Obj
  else
    if (p1.Kind == 8) = true then
      some p1.Lock
    else
      some (-2)
theorem spec_l6Gives_m {p1 : GEvent} {r : Int} (h : spec_l6Gives p1 = some r) : Meets Try.prog 41 [(AV.agg ((o40 p1)))] (I r) := by
  refine meets_ofC Θ_ok Try.func41 rfl (c := body41) (by kernel_rfl) (Nat.le_of_ble_eq_true rfl) ?_
  intro E hP hn hx
  replace hn : E.n = 13 := hn
  have hm : E.P.follows .mixedOrders = true := by rw [hP]; exact mixed
  have hΘ : TOK E.P Θ := by rw [hP]; exact Θ_ok
  unfold spec_l6Gives at h
  show WAt E body41 (FQ (RetE Θ Try.f41.results.toList [] [] (I r) E)) [] ⟨[(0, (AV.agg ((o40 p1))))], [], [JJ]⟩
  rcases itS h with ⟨c2, h⟩ | ⟨c3, h⟩
  · have h := Option.some.inj h
    subst h
    exact go_ret hΘ hm hP hn (hs := [⟨0, .new 1001, none⟩, ⟨6, .br true, none⟩]) (rh := []) (ph := .raw) (ps := [(p1.Kind == 5) = true, (I p1.Obj) = (I p1.Obj), litA (I p1.Obj) = true]) (by kernel_rfl) ⟨c2, rfl, rfl, trivial⟩
  · rcases itS h with ⟨c4, h⟩ | ⟨c5, h⟩
    · have h := Option.some.inj h
      subst h
      exact go_ret hΘ hm hP hn (hs := [⟨0, .new 1001, none⟩, ⟨6, .br false, none⟩, ⟨9, .br true, none⟩]) (rh := []) (ph := .raw) (ps := [(p1.Kind == 5) = false, (p1.Kind == 8) = true, (I p1.Lock) = (I p1.Lock), litA (I p1.Lock) = true]) (by kernel_rfl) ⟨c3, c4, rfl, rfl, trivial⟩
    · have h := Option.some.inj h
      subst h
      exact go_ret hΘ hm hP hn (hs := [⟨0, .new 1001, none⟩, ⟨6, .br false, none⟩, ⟨9, .br false, none⟩]) (rh := []) (ph := .raw) (ps := [(p1.Kind == 5) = false, (p1.Kind == 8) = false, (I (-2)) = (I (-2)), litA (I (-2)) = true]) (by kernel_rfl) ⟨c3, c5, rfl, rfl, trivial⟩
noncomputable def body40 : Code := match Try.f40.body with | some c => c | none => .skip
noncomputable def spec_l6Takes (p1 : GEvent) : Option Int :=
  if (p1.Kind == 4) = true then
    some p1.Obj
  else
    if (p1.Kind == 9) = true then
      some p1.Lock
    else
      some (-3)
theorem spec_l6Takes_m {p1 : GEvent} {r : Int} (h : spec_l6Takes p1 = some r) : Meets Try.prog 40 [(AV.agg ((o40 p1)))] (I r) := by
  refine meets_ofC Θ_ok Try.func40 rfl (c := body40) (by kernel_rfl) (Nat.le_of_ble_eq_true rfl) ?_
  intro E hP hn hx
  replace hn : E.n = 13 := hn
  have hm : E.P.follows .mixedOrders = true := by rw [hP]; exact mixed
  have hΘ : TOK E.P Θ := by rw [hP]; exact Θ_ok
  unfold spec_l6Takes at h
  show WAt E body40 (FQ (RetE Θ Try.f40.results.toList [] [] (I r) E)) [] ⟨[(0, (AV.agg ((o40 p1))))], [], [JJ]⟩
  rcases itS h with ⟨c2, h⟩ | ⟨c3, h⟩
  · have h := Option.some.inj h
    subst h
    exact go_ret hΘ hm hP hn (hs := [⟨0, .new 1001, none⟩, ⟨6, .br true, none⟩]) (rh := []) (ph := .raw) (ps := [(p1.Kind == 4) = true, (I p1.Obj) = (I p1.Obj), litA (I p1.Obj) = true]) (by kernel_rfl) ⟨c2, rfl, rfl, trivial⟩
  · rcases itS h with ⟨c4, h⟩ | ⟨c5, h⟩
    · have h := Option.some.inj h
      subst h
      exact go_ret hΘ hm hP hn (hs := [⟨0, .new 1001, none⟩, ⟨6, .br false, none⟩, ⟨9, .br true, none⟩]) (rh := []) (ph := .raw) (ps := [(p1.Kind == 4) = false, (p1.Kind == 9) = true, (I p1.Lock) = (I p1.Lock), litA (I p1.Lock) = true]) (by kernel_rfl) ⟨c3, c4, rfl, rfl, trivial⟩
    · have h := Option.some.inj h
      subst h
      exact go_ret hΘ hm hP hn (hs := [⟨0, .new 1001, none⟩, ⟨6, .br false, none⟩, ⟨9, .br false, none⟩]) (rh := []) (ph := .raw) (ps := [(p1.Kind == 4) = false, (p1.Kind == 9) = false, (I (-3)) = (I (-3)), litA (I (-3)) = true]) (by kernel_rfl) ⟨c3, c5, rfl, rfl, trivial⟩
noncomputable def body47 : Code := match Try.f47.body with | some c => c | none => .skip
noncomputable def spec_l6Right_j0  (p1 : GEvent) (p2 : GEvent) (v4 : Bool) : Option Bool :=
  if v4 = true then
    some true
  else
    if (p1.Kind == 6) = true then
      some (p1.Obj == p2.Thread)
    else
      if (p1.Kind == 11) = true then
        if (p2.Kind == 7) = true then
          some (p2.Obj == p1.Thread)
        else
          some false
      else
        if (p1.Kind == 10) = true then
          if (p2.Kind == 9) = true then
            some (p1.Lock == p2.Thread)
          else
            some false
        else
          some false
theorem spec_l6Right_j0_m {E : Env} (hP : E.P = Try.prog) (hn : E.n = 53) (hx : ∀ p, p ∈ E.fx → p.1 ∈ ([] : List Nat)) (p1 : GEvent) (p2 : GEvent)  (v4 : Bool) (r : Bool) (h : spec_l6Right_j0 p1 p2 v4 = some r) : WAt E body47 (FQ (RetE Θ Try.f47.results.toList [] [] (B r) E)) [true, false, false, true] ⟨[(2, (AV.ptr 1 0 0)), (3, (AV.ptr 2 0 0)), (5, (B v4))], [(1, some ⟨40, 5, [((o40 p1))]⟩), (2, some ⟨40, 5, [((o40 p2))]⟩)], [1, 2, JJ]⟩ := by
  have hm : E.P.follows .mixedOrders = true := by rw [hP]; exact mixed
  have hΘ : TOK E.P Θ := by rw [hP]; exact Θ_ok
  unfold spec_l6Right_j0 at h
  rcases itS h with ⟨c5, h⟩ | ⟨c6, h⟩
  · have h := Option.some.inj h
    subst h
    exact go_ret hΘ hm hP hn (hs := [⟨0, .br true, none⟩]) (rh := []) (ph := .raw) (ps := [v4 = true, (B true) = (B true), litA (B true) = true]) (by kernel_rfl) ⟨c5, rfl, rfl, trivial⟩
  · rcases itS h with ⟨c7, h⟩ | ⟨c8, h⟩
    · have h := Option.some.inj h
      subst h
      exact go_ret hΘ hm hP hn (hs := [⟨0, .br false, none⟩, ⟨5, .br true, none⟩]) (rh := []) (ph := .raw) (ps := [v4 = false, (p1.Kind == 6) = true, (B (p1.Obj == p2.Thread)) = (B (p1.Obj == p2.Thread)), litA (B (p1.Obj == p2.Thread)) = true]) (by kernel_rfl) ⟨c6, c7, rfl, rfl, trivial⟩
    · rcases itS h with ⟨c9, h⟩ | ⟨c12, h⟩
      · rcases itS h with ⟨c10, h⟩ | ⟨c11, h⟩
        · have h := Option.some.inj h
          subst h
          exact go_ret hΘ hm hP hn (hs := [⟨0, .br false, none⟩, ⟨5, .br false, none⟩, ⟨10, .br true, none⟩, ⟨14, .no, some (B true)⟩]) (rh := []) (ph := .raw) (ps := [v4 = false, (p1.Kind == 6) = false, (p1.Kind == 11) = true, (B (p2.Kind == 7)) = (B true), (B (p2.Obj == p1.Thread)) = (B (p2.Obj == p1.Thread)), litA (B (p2.Obj == p1.Thread)) = true]) (by kernel_rfl) ⟨c6, c8, c9, (litB c10), rfl, rfl, trivial⟩
        · have h := Option.some.inj h
          subst h
          exact go_ret hΘ hm hP hn (hs := [⟨0, .br false, none⟩, ⟨5, .br false, none⟩, ⟨10, .br true, none⟩, ⟨14, .no, some (B false)⟩]) (rh := []) (ph := .raw) (ps := [v4 = false, (p1.Kind == 6) = false, (p1.Kind == 11) = true, (B (p2.Kind == 7)) = (B false), (B false) = (B false), litA (B false) = true]) (by kernel_rfl) ⟨c6, c8, c9, (litB c11), rfl, rfl, trivial⟩
      · rcases itS h with ⟨c13, h⟩ | ⟨c16, h⟩
        · rcases itS h with ⟨c14, h⟩ | ⟨c15, h⟩
          · have h := Option.some.inj h
            subst h
            exact go_ret hΘ hm hP hn (hs := [⟨0, .br false, none⟩, ⟨5, .br false, none⟩, ⟨10, .br false, none⟩, ⟨15, .br true, none⟩, ⟨19, .no, some (B true)⟩]) (rh := []) (ph := .raw) (ps := [v4 = false, (p1.Kind == 6) = false, (p1.Kind == 11) = false, (p1.Kind == 10) = true, (B (p2.Kind == 9)) = (B true), (B (p1.Lock == p2.Thread)) = (B (p1.Lock == p2.Thread)), litA (B (p1.Lock == p2.Thread)) = true]) (by kernel_rfl) ⟨c6, c8, c12, c13, (litB c14), rfl, rfl, trivial⟩
          · have h := Option.some.inj h
            subst h
            exact go_ret hΘ hm hP hn (hs := [⟨0, .br false, none⟩, ⟨5, .br false, none⟩, ⟨10, .br false, none⟩, ⟨15, .br true, none⟩, ⟨19, .no, some (B false)⟩]) (rh := []) (ph := .raw) (ps := [v4 = false, (p1.Kind == 6) = false, (p1.Kind == 11) = false, (p1.Kind == 10) = true, (B (p2.Kind == 9)) = (B false), (B false) = (B false), litA (B false) = true]) (by kernel_rfl) ⟨c6, c8, c12, c13, (litB c15), rfl, rfl, trivial⟩
        · have h := Option.some.inj h
          subst h
          exact go_ret hΘ hm hP hn (hs := [⟨0, .br false, none⟩, ⟨5, .br false, none⟩, ⟨10, .br false, none⟩, ⟨15, .br false, none⟩]) (rh := []) (ph := .raw) (ps := [v4 = false, (p1.Kind == 6) = false, (p1.Kind == 11) = false, (p1.Kind == 10) = false, (B false) = (B false), litA (B false) = true]) (by kernel_rfl) ⟨c6, c8, c12, c16, rfl, rfl, trivial⟩
noncomputable def spec_l6Right (p1 : GEvent) (p2 : GEvent) : Option Bool :=
  if (p1.Thread == p2.Thread) = true then
    spec_l6Right_j0 p1 p2 (p1.Thread == p2.Thread)
  else
    Option.bind (spec_l6Gives p1) fun r18 =>
    Option.bind (spec_l6Takes p2) fun r19 =>
    spec_l6Right_j0 p1 p2 (r18 == r19)
theorem spec_l6Right_m {p1 : GEvent} {p2 : GEvent} {r : Bool} (h : spec_l6Right p1 p2 = some r) : Meets Try.prog 47 [(AV.agg ((o40 p1))), (AV.agg ((o40 p2)))] (B r) := by
  refine meets_ofC Θ_ok Try.func47 rfl (c := body47) (by kernel_rfl) (Nat.le_of_ble_eq_true rfl) ?_
  intro E hP hn hx
  replace hn : E.n = 53 := hn
  have hm : E.P.follows .mixedOrders = true := by rw [hP]; exact mixed
  have hΘ : TOK E.P Θ := by rw [hP]; exact Θ_ok
  unfold spec_l6Right at h
  show WAt E body47 (FQ (RetE Θ Try.f47.results.toList [] [] (B r) E)) [] ⟨[(0, (AV.agg ((o40 p1)))), (1, (AV.agg ((o40 p2))))], [], [JJ]⟩
  rcases itS h with ⟨c3, h⟩ | ⟨c17, h⟩
  · exact go_to hΘ hm hx hP hn (hs := [⟨0, .new 1001, none⟩, ⟨1, .new 1002, none⟩, ⟨9, .br true, none⟩]) (π := [(1001, 1), (1002, 2)]) (ts := [2, 3, 5]) (kp := []) (ps := [(p1.Thread == p2.Thread) = true, RenOK [(1001, 1), (1002, 2)] [((o40 p1))], RenOK [(1001, 1), (1002, 2)] [((o40 p2))]]) (by kernel_rfl) ⟨c3, (rok rfl), (rok rfl), trivial⟩ (spec_l6Right_j0_m hP hn hx p1 p2 (p1.Thread == p2.Thread) _ h)
  · obtain ⟨r18, hr18, h⟩ := bnS h
    obtain ⟨r19, hr19, h⟩ := bnS h
    exact go_to hΘ hm hx hP hn (hs := [⟨0, .new 1001, none⟩, ⟨1, .new 1002, none⟩, ⟨9, .br false, none⟩, ⟨11, .callV [[]] (I r18), none⟩, ⟨13, .callV [[]] (I r19), none⟩]) (π := [(1001, 1), (1002, 2)]) (ts := [2, 3, 5]) (kp := []) (ps := [(p1.Thread == p2.Thread) = false, Meets Try.prog 41 [(AV.agg ((o40 p1)))] (I r18), litA (I r18) = true, Meets Try.prog 40 [(AV.agg ((o40 p2)))] (I r19), litA (I r19) = true, RenOK [(1001, 1), (1002, 2)] [((o40 p1))], RenOK [(1001, 1), (1002, 2)] [((o40 p2))]]) (by kernel_rfl) ⟨c17, (spec_l6Gives_m hr18), rfl, (spec_l6Takes_m hr19), rfl, (rok rfl), (rok rfl), trivial⟩ (spec_l6Right_j0_m hP hn hx p1 p2 (r18 == r19) _ h)
noncomputable def body34 : Code := match Try.f34.body with | some c => c | none => .skip
noncomputable def spec_l6Ahead_l2 (K0 : (List (List Bool)) → Int → Option (List (List Bool))) (K1 : (List (List Bool)) → Int → Option (List (List Bool))) (p1 : (List GEvent)) (v4 : Int) (v9 : Int) (x18 : (List Bool)) : Nat → (List (List Bool)) → (List Bool) → Int → Option (List (List Bool))
  | 0, _, _, _ => none
  | n + 1, a19, a20, v21 =>
  if (decide (v21 < (x18.length : Int))) = true then
    Option.bind (rd a20 v21) fun x23 =>
    Option.bind (rd a19 v4) fun x24 =>
    Option.bind (rd a19 v9) fun x25 =>
    Option.bind (neI v9 v4) fun q26 =>
    Option.bind (rd x24 v21) fun x27 =>
    if x27 = true then
      spec_l6Ahead_l2 K0 K1 p1 v4 v9 x18 n (a19.set (Int.toNat v4) (x24.set (Int.toNat v21) true)) a20 (w64 (v21 + 1))
    else
      spec_l6Ahead_l2 K0 K1 p1 v4 v9 x18 n (a19.set (Int.toNat v4) (x24.set (Int.toNat v21) x23)) a20 (w64 (v21 + 1))
  else
    Option.bind (rd a19 v9) fun x31 =>
    K1 (a19.set (Int.toNat v9) a20) (w64 (v9 + 1))
theorem spec_l6Ahead_l2_m {E : Env} (hP : E.P = Try.prog) (hn : E.n = 72) (hx : ∀ p, p ∈ E.fx → p.1 ∈ ([] : List Nat)) (p1 : (List GEvent)) (v4 : Int) (v9 : Int) (x18 : (List Bool)) {K0 : (List (List Bool)) → Int → Option (List (List Bool))} (hK0 : ∀ (a3 : (List (List Bool))) (v4 : Int) (r : (List (List Bool))), K0 a3 v4 = some r → WAt E body34 (FQ (RetE Θ Try.f34.results.toList [] [] (AV.own 66 1 (r.map o66)) E)) [true, true, false, true, false] ⟨[(0, (AV.ro 5 (p1.map o40))), (3, (AV.sl 1 0 (List.length (a3.map o66)))), (12, (I (p1.length : Int))), (13, (I v4))], [(1, some ⟨66, 1, (a3.map o66)⟩)], [1, JJ]⟩) {K1 : (List (List Bool)) → Int → Option (List (List Bool))} (hK1 : ∀ (a8 : (List (List Bool))) (v9 : Int) (r : (List (List Bool))), K1 a8 v9 = some r → WAt E body34 (FQ (RetE Θ Try.f34.results.toList [] [] (AV.own 66 1 (r.map o66)) E)) [true, true, false, true, false, false, true, true, false, false, true, true, true, false] ⟨[(0, (AV.ro 5 (p1.map o40))), (3, (AV.sl 1 0 (List.length (a8.map o66)))), (4, (I v4)), (5, (I v9)), (12, (I (p1.length : Int))), (13, (I v4))], [(1, some ⟨66, 1, (a8.map o66)⟩)], [1, JJ]⟩) : ∀ (n : Nat) (a19 : (List (List Bool))) (a20 : (List Bool)) (v21 : Int) (r : (List (List Bool))), spec_l6Ahead_l2 K0 K1 p1 v4 v9 x18 n a19 a20 v21 = some r → WAt E body34 (FQ (RetE Θ Try.f34.results.toList [] [] (AV.own 66 1 (r.map o66)) E)) [true, true, false, true, false, false, true, true, false, false, true, true, true, false, false, true, false, false, true, true, true, false] ⟨[(0, (AV.ro 5 (p1.map o40))), (3, (AV.sl 1 0 (List.length ((a19.map o66).set (Int.toNat v9) [(AV.sl 1002 0 (List.length (a20.map o4)))])))), (4, (I v4)), (5, (I v9)), (12, (I (p1.length : Int))), (13, (I v4)), (46, (AV.sl 1002 0 (List.length (a20.map o4)))), (47, (I (x18.length : Int))), (48, (I v21))], [(1, some ⟨66, 1, ((a19.map o66).set (Int.toNat v9) [(AV.sl 1002 0 (List.length (a20.map o4)))])⟩), (1002, some ⟨4, 1, (a20.map o4)⟩)], [1, 1002, JJ]⟩ := by
  have hm : E.P.follows .mixedOrders = true := by rw [hP]; exact mixed
  have hΘ : TOK E.P Θ := by rw [hP]; exact Θ_ok
  intro n
  induction n with
  | zero => intro a19 a20 v21 r h; simp only [spec_l6Ahead_l2] at h; cases h
  | succ n ih =>
    intro a19 a20 v21 r h
    simp only [spec_l6Ahead_l2] at h
    rcases itS h with ⟨c22, h⟩ | ⟨c30, h⟩
    · obtain ⟨x23, hx23, h⟩ := bnS h
      obtain ⟨x24, hx24, h⟩ := bnS h
      obtain ⟨x25, hx25, h⟩ := bnS h
      obtain ⟨q26, hq26, h⟩ := bnS h
      obtain ⟨x27, hx27, h⟩ := bnS h
      rcases itS h with ⟨c28, h⟩ | ⟨c29, h⟩
      · exact go_to hΘ hm hx hP hn (hs := [⟨1, .br true, none⟩, ⟨4, .row [(B x23)], none⟩, ⟨7, .unpack 1 1001 (Int.toNat v4) 0 [(AV.own 4 1 (x24.map o4))] 4 1 (x24.map o4) (((a19.map o66).set (Int.toNat v9) [(AV.sl 1002 0 (List.length (a20.map o4)))]).set (Int.toNat v4) [(AV.sl 1001 0 (List.length (x24.map o4)))]), none⟩, ⟨10, .row [(AV.sl 1001 0 (List.length (x24.map o4)))], none⟩, ⟨15, .row [(AV.sl 1001 0 (List.length (x24.map o4)))], none⟩, ⟨18, .row [(B x27)], none⟩, ⟨19, .no, some (B true)⟩, ⟨23, .sto [(B x27)] ((x24.set (Int.toNat v21) true).map o4), none⟩, ⟨26, .pack 1 1001 (Int.toNat v4) 0 [(AV.sl 1001 0 (List.length (x24.map o4)))] (((a19.set (Int.toNat v4) (x24.set (Int.toNat v21) true)).map o66).set (Int.toNat v9) [(AV.sl 1002 0 (List.length (a20.map o4)))]), none⟩, ⟨26, .slen 3 (List.length (((a19.set (Int.toNat v4) (x24.set (Int.toNat v21) true)).map o66).set (Int.toNat v9) [(AV.sl 1002 0 (List.length (a20.map o4)))])), none⟩]) (π := [(1, 1), (1002, 1002)]) (ts := [0, 3, 4, 5, 12, 13, 46, 47, 48]) (kp := []) (ps := [(decide (v21 < (x18.length : Int))) = true, (0 : Int) ≤ v21, v21 < (((List.length (a20.map o4)) : Nat) : Int), (a20.map o4)[(Int.toNat v21)]? = some [(B x23)], ((a19.map o66).set (Int.toNat v9) [(AV.sl 1002 0 (List.length (a20.map o4)))])[(Int.toNat v4)]? = some [(AV.own 4 1 (x24.map o4))], [(AV.own 4 1 (x24.map o4))][0]? = some (AV.own 4 1 (x24.map o4)), 0 < 1, ((a19.map o66).set (Int.toNat v9) [(AV.sl 1002 0 (List.length (a20.map o4)))]).set (Int.toNat v4) ([(AV.own 4 1 (x24.map o4))].set 0 (AV.sl 1001 0 (List.length (x24.map o4)))) = (((a19.map o66).set (Int.toNat v9) [(AV.sl 1002 0 (List.length (a20.map o4)))]).set (Int.toNat v4) [(AV.sl 1001 0 (List.length (x24.map o4)))]), (0 : Int) ≤ v4, v4 < (((List.length ((a19.map o66).set (Int.toNat v9) [(AV.sl 1002 0 (List.length (a20.map o4)))])) : Nat) : Int), (((a19.map o66).set (Int.toNat v9) [(AV.sl 1002 0 (List.length (a20.map o4)))]).set (Int.toNat v4) [(AV.sl 1001 0 (List.length (x24.map o4)))])[(Int.toNat v4)]? = some [(AV.sl 1001 0 (List.length (x24.map o4)))], (0 : Int) ≤ v4, v4 < (((List.length ((a19.map o66).set (Int.toNat v9) [(AV.sl 1002 0 (List.length (a20.map o4)))])) : Nat) : Int), (((a19.map o66).set (Int.toNat v9) [(AV.sl 1002 0 (List.length (a20.map o4)))]).set (Int.toNat v4) [(AV.sl 1001 0 (List.length (x24.map o4)))])[(Int.toNat v4)]? = some [(AV.sl 1001 0 (List.length (x24.map o4)))], (0 : Int) ≤ v21, v21 < (((List.length (x24.map o4)) : Nat) : Int), (x24.map o4)[(Int.toNat v21)]? = some [(B x27)], (B x27) = (B true), (0 : Int) ≤ v21, v21 < (((List.length (x24.map o4)) : Nat) : Int), (x24.map o4)[(Int.toNat v21)]? = some [(B x27)], (x24.map o4).set (Int.toNat v21) (wr [(B x27)] 0 [(B true)]) = ((x24.set (Int.toNat v21) true).map o4), [(B true)].length = 1, 0 + [(B true)].length ≤ [(B x27)].length, (((a19.map o66).set (Int.toNat v9) [(AV.sl 1002 0 (List.length (a20.map o4)))]).set (Int.toNat v4) [(AV.sl 1001 0 (List.length (x24.map o4)))])[(Int.toNat v4)]? = some [(AV.sl 1001 0 (List.length (x24.map o4)))], [(AV.sl 1001 0 (List.length (x24.map o4)))][0]? = some (AV.sl 1001 0 (List.length ((x24.set (Int.toNat v21) true).map o4))), treeLL ((x24.set (Int.toNat v21) true).map o4) = true, (((a19.map o66).set (Int.toNat v9) [(AV.sl 1002 0 (List.length (a20.map o4)))]).set (Int.toNat v4) [(AV.sl 1001 0 (List.length (x24.map o4)))]).set (Int.toNat v4) ([(AV.sl 1001 0 (List.length (x24.map o4)))].set 0 (AV.own 4 1 ((x24.set (Int.toNat v21) true).map o4))) = (((a19.set (Int.toNat v4) (x24.set (Int.toNat v21) true)).map o66).set (Int.toNat v9) [(AV.sl 1002 0 (List.length (a20.map o4)))]), (List.length ((a19.map o66).set (Int.toNat v9) [(AV.sl 1002 0 (List.length (a20.map o4)))])) = (List.length (((a19.set (Int.toNat v4) (x24.set (Int.toNat v21) true)).map o66).set (Int.toNat v9) [(AV.sl 1002 0 (List.length (a20.map o4)))])), RenOK [(1, 1), (1002, 1002)] (((a19.set (Int.toNat v4) (x24.set (Int.toNat v21) true)).map o66).set (Int.toNat v9) [(AV.sl 1002 0 (List.length (a20.map o4)))]), RenOK [(1, 1), (1002, 1002)] (a20.map o4)]) (by kernel_rfl) ⟨c22, (rd0 hx23), (rdL o4 hx23), (rdM o4 hx23), (setN (neN hq26 (rd0 hx25) (rd0 hx24)) (rdM o66 hx24)), rfl, (by decide), rfl, (rd0 hx24), (rdL1 o66 hx24), (setE (setN (neN hq26 (rd0 hx25) (rd0 hx24)) (rdM o66 hx24))), (rd0 hx24), (rdL1 o66 hx24), (setE (setN (neN hq26 (rd0 hx25) (rd0 hx24)) (rdM o66 hx24))), (rd0 hx27), (rdL o4 hx27), (rdM o4 hx27), (litB c28), (rd0 hx27), (rdL o4 hx27), (rdM o4 hx27), (setM o4), rfl, (Nat.le_of_ble_eq_true rfl), (setE (setN (neN hq26 (rd0 hx25) (rd0 hx24)) (rdM o66 hx24))), (pkS (by first | exact lnSet _ | exact lnSet2 _ | exact apLn _ (by assumption) | simp only [List.length_map, List.length_set, List.length_cons, List.length_nil])), (treeM t4), (setP2 o66 (neN hq26 (rd0 hx25) (rd0 hx24))), (by first | exact lnSet _ | exact lnSet2 _ | exact apLn _ (by assumption) | simp only [List.length_map, List.length_set, List.length_cons, List.length_nil]), (renSet (rok (treeM t66)) rfl), (rok (treeM t4)), trivial⟩ (ih (a19.set (Int.toNat v4) (x24.set (Int.toNat v21) true)) a20 (w64 (v21 + 1)) _ h)
      · exact go_to hΘ hm hx hP hn (hs := [⟨1, .br true, none⟩, ⟨4, .row [(B x23)], none⟩, ⟨7, .unpack 1 1001 (Int.toNat v4) 0 [(AV.own 4 1 (x24.map o4))] 4 1 (x24.map o4) (((a19.map o66).set (Int.toNat v9) [(AV.sl 1002 0 (List.length (a20.map o4)))]).set (Int.toNat v4) [(AV.sl 1001 0 (List.length (x24.map o4)))]), none⟩, ⟨10, .row [(AV.sl 1001 0 (List.length (x24.map o4)))], none⟩, ⟨15, .row [(AV.sl 1001 0 (List.length (x24.map o4)))], none⟩, ⟨18, .row [(B x27)], none⟩, ⟨19, .no, some (B false)⟩, ⟨23, .sto [(B x27)] ((x24.set (Int.toNat v21) x23).map o4), none⟩, ⟨26, .pack 1 1001 (Int.toNat v4) 0 [(AV.sl 1001 0 (List.length (x24.map o4)))] (((a19.set (Int.toNat v4) (x24.set (Int.toNat v21) x23)).map o66).set (Int.toNat v9) [(AV.sl 1002 0 (List.length (a20.map o4)))]), none⟩, ⟨26, .slen 3 (List.length (((a19.set (Int.toNat v4) (x24.set (Int.toNat v21) x23)).map o66).set (Int.toNat v9) [(AV.sl 1002 0 (List.length (a20.map o4)))])), none⟩]) (π := [(1, 1), (1002, 1002)]) (ts := [0, 3, 4, 5, 12, 13, 46, 47, 48]) (kp := []) (ps := [(decide (v21 < (x18.length : Int))) = true, (0 : Int) ≤ v21, v21 < (((List.length (a20.map o4)) : Nat) : Int), (a20.map o4)[(Int.toNat v21)]? = some [(B x23)], ((a19.map o66).set (Int.toNat v9) [(AV.sl 1002 0 (List.length (a20.map o4)))])[(Int.toNat v4)]? = some [(AV.own 4 1 (x24.map o4))], [(AV.own 4 1 (x24.map o4))][0]? = some (AV.own 4 1 (x24.map o4)), 0 < 1, ((a19.map o66).set (Int.toNat v9) [(AV.sl 1002 0 (List.length (a20.map o4)))]).set (Int.toNat v4) ([(AV.own 4 1 (x24.map o4))].set 0 (AV.sl 1001 0 (List.length (x24.map o4)))) = (((a19.map o66).set (Int.toNat v9) [(AV.sl 1002 0 (List.length (a20.map o4)))]).set (Int.toNat v4) [(AV.sl 1001 0 (List.length (x24.map o4)))]), (0 : Int) ≤ v4, v4 < (((List.length ((a19.map o66).set (Int.toNat v9) [(AV.sl 1002 0 (List.length (a20.map o4)))])) : Nat) : Int), (((a19.map o66).set (Int.toNat v9) [(AV.sl 1002 0 (List.length (a20.map o4)))]).set (Int.toNat v4) [(AV.sl 1001 0 (List.length (x24.map o4)))])[(Int.toNat v4)]? = some [(AV.sl 1001 0 (List.length (x24.map o4)))], (0 : Int) ≤ v4, v4 < (((List.length ((a19.map o66).set (Int.toNat v9) [(AV.sl 1002 0 (List.length (a20.map o4)))])) : Nat) : Int), (((a19.map o66).set (Int.toNat v9) [(AV.sl 1002 0 (List.length (a20.map o4)))]).set (Int.toNat v4) [(AV.sl 1001 0 (List.length (x24.map o4)))])[(Int.toNat v4)]? = some [(AV.sl 1001 0 (List.length (x24.map o4)))], (0 : Int) ≤ v21, v21 < (((List.length (x24.map o4)) : Nat) : Int), (x24.map o4)[(Int.toNat v21)]? = some [(B x27)], (B x27) = (B false), (0 : Int) ≤ v21, v21 < (((List.length (x24.map o4)) : Nat) : Int), (x24.map o4)[(Int.toNat v21)]? = some [(B x27)], (x24.map o4).set (Int.toNat v21) (wr [(B x27)] 0 [(B x23)]) = ((x24.set (Int.toNat v21) x23).map o4), [(B x23)].length = 1, 0 + [(B x23)].length ≤ [(B x27)].length, (((a19.map o66).set (Int.toNat v9) [(AV.sl 1002 0 (List.length (a20.map o4)))]).set (Int.toNat v4) [(AV.sl 1001 0 (List.length (x24.map o4)))])[(Int.toNat v4)]? = some [(AV.sl 1001 0 (List.length (x24.map o4)))], [(AV.sl 1001 0 (List.length (x24.map o4)))][0]? = some (AV.sl 1001 0 (List.length ((x24.set (Int.toNat v21) x23).map o4))), treeLL ((x24.set (Int.toNat v21) x23).map o4) = true, (((a19.map o66).set (Int.toNat v9) [(AV.sl 1002 0 (List.length (a20.map o4)))]).set (Int.toNat v4) [(AV.sl 1001 0 (List.length (x24.map o4)))]).set (Int.toNat v4) ([(AV.sl 1001 0 (List.length (x24.map o4)))].set 0 (AV.own 4 1 ((x24.set (Int.toNat v21) x23).map o4))) = (((a19.set (Int.toNat v4) (x24.set (Int.toNat v21) x23)).map o66).set (Int.toNat v9) [(AV.sl 1002 0 (List.length (a20.map o4)))]), (List.length ((a19.map o66).set (Int.toNat v9) [(AV.sl 1002 0 (List.length (a20.map o4)))])) = (List.length (((a19.set (Int.toNat v4) (x24.set (Int.toNat v21) x23)).map o66).set (Int.toNat v9) [(AV.sl 1002 0 (List.length (a20.map o4)))])), RenOK [(1, 1), (1002, 1002)] (((a19.set (Int.toNat v4) (x24.set (Int.toNat v21) x23)).map o66).set (Int.toNat v9) [(AV.sl 1002 0 (List.length (a20.map o4)))]), RenOK [(1, 1), (1002, 1002)] (a20.map o4)]) (by kernel_rfl) ⟨c22, (rd0 hx23), (rdL o4 hx23), (rdM o4 hx23), (setN (neN hq26 (rd0 hx25) (rd0 hx24)) (rdM o66 hx24)), rfl, (by decide), rfl, (rd0 hx24), (rdL1 o66 hx24), (setE (setN (neN hq26 (rd0 hx25) (rd0 hx24)) (rdM o66 hx24))), (rd0 hx24), (rdL1 o66 hx24), (setE (setN (neN hq26 (rd0 hx25) (rd0 hx24)) (rdM o66 hx24))), (rd0 hx27), (rdL o4 hx27), (rdM o4 hx27), (litB c29), (rd0 hx27), (rdL o4 hx27), (rdM o4 hx27), (setM o4), rfl, (Nat.le_of_ble_eq_true rfl), (setE (setN (neN hq26 (rd0 hx25) (rd0 hx24)) (rdM o66 hx24))), (pkS (by first | exact lnSet _ | exact lnSet2 _ | exact apLn _ (by assumption) | simp only [List.length_map, List.length_set, List.length_cons, List.length_nil])), (treeM t4), (setP2 o66 (neN hq26 (rd0 hx25) (rd0 hx24))), (by first | exact lnSet _ | exact lnSet2 _ | exact apLn _ (by assumption) | simp only [List.length_map, List.length_set, List.length_cons, List.length_nil]), (renSet (rok (treeM t66)) rfl), (rok (treeM t4)), trivial⟩ (ih (a19.set (Int.toNat v4) (x24.set (Int.toNat v21) x23)) a20 (w64 (v21 + 1)) _ h)
    · obtain ⟨x31, hx31, h⟩ := bnS h
      exact go_to hΘ hm hx hP hn (hs := [⟨1, .br false, none⟩, ⟨5, .pack 1 1002 (Int.toNat v9) 0 [(AV.sl 1002 0 (List.length (a20.map o4)))] ((a19.set (Int.toNat v9) a20).map o66), none⟩, ⟨5, .slen 3 (List.length ((a19.set (Int.toNat v9) a20).map o66)), none⟩]) (π := [(1, 1)]) (ts := [0, 3, 4, 5, 12, 13]) (kp := []) (ps := [(decide (v21 < (x18.length : Int))) = false, ((a19.map o66).set (Int.toNat v9) [(AV.sl 1002 0 (List.length (a20.map o4)))])[(Int.toNat v9)]? = some [(AV.sl 1002 0 (List.length (a20.map o4)))], [(AV.sl 1002 0 (List.length (a20.map o4)))][0]? = some (AV.sl 1002 0 (List.length (a20.map o4))), treeLL (a20.map o4) = true, ((a19.map o66).set (Int.toNat v9) [(AV.sl 1002 0 (List.length (a20.map o4)))]).set (Int.toNat v9) ([(AV.sl 1002 0 (List.length (a20.map o4)))].set 0 (AV.own 4 1 (a20.map o4))) = ((a19.set (Int.toNat v9) a20).map o66), (List.length ((a19.map o66).set (Int.toNat v9) [(AV.sl 1002 0 (List.length (a20.map o4)))])) = (List.length ((a19.set (Int.toNat v9) a20).map o66)), RenOK [(1, 1)] ((a19.set (Int.toNat v9) a20).map o66)]) (by kernel_rfl) ⟨c30, (setE (rdM o66 hx31)), rfl, (treeM t4), (setP o66), (by first | exact lnSet _ | exact lnSet2 _ | exact apLn _ (by assumption) | simp only [List.length_map, List.length_set, List.length_cons, List.length_nil]), (rok (treeM t66)), trivial⟩ (hK1 (a19.set (Int.toNat v9) a20) (w64 (v9 + 1)) _ h)
noncomputable def spec_l6Ahead_l1 (K0 : (List (List Bool)) → Int → Option (List (List Bool))) (p1 : (List GEvent)) (v4 : Int) : Nat → (List (List Bool)) → Int → Option (List (List Bool))
  | 0, _, _ => none
  | n + 1, a8, v9 =>
  if (decide (v9 < v4)) = true then
    Option.bind (rd p1 v9) fun x11 =>
    Option.bind (rd p1 v4) fun x12 =>
    Option.bind (spec_l6Right x11 x12) fun r13 =>
    if (!r13) = true then
      spec_l6Ahead_l1 K0 p1 v4 n a8 (w64 (v9 + 1))
    else
      Option.bind (rd a8 v4) fun x16 =>
      Option.bind (rd x16 v9) fun x17 =>
      Option.bind (rd (a8.set (Int.toNat v4) (x16.set (Int.toNat v9) true)) v9) fun x18 =>
      spec_l6Ahead_l2 K0 (spec_l6Ahead_l1 K0 p1 v4 n) p1 v4 v9 x18 FU (a8.set (Int.toNat v4) (x16.set (Int.toNat v9) true)) x18 0
  else
    K0 a8 (w64 (v4 + 1))
theorem spec_l6Ahead_l1_m {E : Env} (hP : E.P = Try.prog) (hn : E.n = 72) (hx : ∀ p, p ∈ E.fx → p.1 ∈ ([] : List Nat)) (p1 : (List GEvent)) (v4 : Int) {K0 : (List (List Bool)) → Int → Option (List (List Bool))} (hK0 : ∀ (a3 : (List (List Bool))) (v4 : Int) (r : (List (List Bool))), K0 a3 v4 = some r → WAt E body34 (FQ (RetE Θ Try.f34.results.toList [] [] (AV.own 66 1 (r.map o66)) E)) [true, true, false, true, false] ⟨[(0, (AV.ro 5 (p1.map o40))), (3, (AV.sl 1 0 (List.length (a3.map o66)))), (12, (I (p1.length : Int))), (13, (I v4))], [(1, some ⟨66, 1, (a3.map o66)⟩)], [1, JJ]⟩) : ∀ (n : Nat) (a8 : (List (List Bool))) (v9 : Int) (r : (List (List Bool))), spec_l6Ahead_l1 K0 p1 v4 n a8 v9 = some r → WAt E body34 (FQ (RetE Θ Try.f34.results.toList [] [] (AV.own 66 1 (r.map o66)) E)) [true, true, false, true, false, false, true, true, false, false, true, true, true, false] ⟨[(0, (AV.ro 5 (p1.map o40))), (3, (AV.sl 1 0 (List.length (a8.map o66)))), (4, (I v4)), (5, (I v9)), (12, (I (p1.length : Int))), (13, (I v4))], [(1, some ⟨66, 1, (a8.map o66)⟩)], [1, JJ]⟩ := by
  have hm : E.P.follows .mixedOrders = true := by rw [hP]; exact mixed
  have hΘ : TOK E.P Θ := by rw [hP]; exact Θ_ok
  intro n
  induction n with
  | zero => intro a8 v9 r h; simp only [spec_l6Ahead_l1] at h; cases h
  | succ n ih =>
    intro a8 v9 r h
    simp only [spec_l6Ahead_l1] at h
    rcases itS h with ⟨c10, h⟩ | ⟨c32, h⟩
    · obtain ⟨x11, hx11, h⟩ := bnS h
      obtain ⟨x12, hx12, h⟩ := bnS h
      obtain ⟨r13, hr13, h⟩ := bnS h
      rcases itS h with ⟨c14, h⟩ | ⟨c15, h⟩
      · exact go_to hΘ hm hx hP hn (hs := [⟨3, .br true, none⟩, ⟨6, .row (o40 x11), none⟩, ⟨10, .row (o40 x12), none⟩, ⟨12, .callV [[], []] (B r13), none⟩, ⟨14, .br true, none⟩]) (π := [(1, 1)]) (ts := [0, 3, 4, 5, 12, 13]) (kp := []) (ps := [(decide (v9 < v4)) = true, (0 : Int) ≤ v9, (p1.map o40)[(Int.toNat v9)]? = some (o40 x11), (0 : Int) ≤ v4, (p1.map o40)[(Int.toNat v4)]? = some (o40 x12), Meets Try.prog 47 [(AV.agg ((o40 x11))), (AV.agg ((o40 x12)))] (B r13), litA (B r13) = true, (!r13) = true, RenOK [(1, 1)] (a8.map o66)]) (by kernel_rfl) ⟨c10, (rd0 hx11), (rdM o40 hx11), (rd0 hx12), (rdM o40 hx12), (spec_l6Right_m hr13), rfl, c14, (rok (treeM t66)), trivial⟩ (ih a8 (w64 (v9 + 1)) _ h)
      · obtain ⟨x16, hx16, h⟩ := bnS h
        obtain ⟨x17, hx17, h⟩ := bnS h
        obtain ⟨x18, hx18, h⟩ := bnS h
        exact go_to hΘ hm hx hP hn (hs := [⟨3, .br true, none⟩, ⟨6, .row (o40 x11), none⟩, ⟨10, .row (o40 x12), none⟩, ⟨12, .callV [[], []] (B r13), none⟩, ⟨14, .br false, none⟩, ⟨18, .unpack 1 1001 (Int.toNat v4) 0 [(AV.own 4 1 (x16.map o4))] 4 1 (x16.map o4) ((a8.map o66).set (Int.toNat v4) [(AV.sl 1001 0 (List.length (x16.map o4)))]), none⟩, ⟨18, .row [(AV.sl 1001 0 (List.length (x16.map o4)))], none⟩, ⟨21, .sto [(B x17)] ((x16.set (Int.toNat v9) true).map o4), none⟩, ⟨22, .slen 3 (List.length ((a8.map o66).set (Int.toNat v4) [(AV.sl 1001 0 (List.length (x16.map o4)))])), none⟩, ⟨24, .pack 1 1001 (Int.toNat v4) 0 [(AV.sl 1001 0 (List.length (x16.map o4)))] ((a8.set (Int.toNat v4) (x16.set (Int.toNat v9) true)).map o66), none⟩, ⟨24, .slen 43 (List.length ((a8.set (Int.toNat v4) (x16.set (Int.toNat v9) true)).map o66)), none⟩, ⟨25, .unpack 1 1002 (Int.toNat v9) 0 [(AV.own 4 1 (x18.map o4))] 4 1 (x18.map o4) (((a8.set (Int.toNat v4) (x16.set (Int.toNat v9) true)).map o66).set (Int.toNat v9) [(AV.sl 1002 0 (List.length (x18.map o4)))]), none⟩, ⟨25, .row [(AV.sl 1002 0 (List.length (x18.map o4)))], none⟩, ⟨26, .no, some (I (x18.length : Int))⟩, ⟨28, .slen 3 (List.length (((a8.set (Int.toNat v4) (x16.set (Int.toNat v9) true)).map o66).set (Int.toNat v9) [(AV.sl 1002 0 (List.length (x18.map o4)))])), none⟩]) (π := [(1, 1), (1002, 1002)]) (ts := [0, 3, 4, 5, 12, 13, 46, 47, 48]) (kp := []) (ps := [(decide (v9 < v4)) = true, (0 : Int) ≤ v9, (p1.map o40)[(Int.toNat v9)]? = some (o40 x11), (0 : Int) ≤ v4, (p1.map o40)[(Int.toNat v4)]? = some (o40 x12), Meets Try.prog 47 [(AV.agg ((o40 x11))), (AV.agg ((o40 x12)))] (B r13), litA (B r13) = true, (!r13) = false, (0 : Int) ≤ v4, v4 < (((List.length (a8.map o66)) : Nat) : Int), (a8.map o66)[(Int.toNat v4)]? = some [(AV.own 4 1 (x16.map o4))], [(AV.own 4 1 (x16.map o4))][0]? = some (AV.own 4 1 (x16.map o4)), 0 < 1, (a8.map o66).set (Int.toNat v4) ([(AV.own 4 1 (x16.map o4))].set 0 (AV.sl 1001 0 (List.length (x16.map o4)))) = ((a8.map o66).set (Int.toNat v4) [(AV.sl 1001 0 (List.length (x16.map o4)))]), ((a8.map o66).set (Int.toNat v4) [(AV.sl 1001 0 (List.length (x16.map o4)))])[(Int.toNat v4)]? = some [(AV.sl 1001 0 (List.length (x16.map o4)))], (0 : Int) ≤ v9, v9 < (((List.length (x16.map o4)) : Nat) : Int), (x16.map o4)[(Int.toNat v9)]? = some [(B x17)], (x16.map o4).set (Int.toNat v9) (wr [(B x17)] 0 [(B true)]) = ((x16.set (Int.toNat v9) true).map o4), [(B true)].length = 1, 0 + [(B true)].length ≤ [(B x17)].length, (List.length (a8.map o66)) = (List.length ((a8.map o66).set (Int.toNat v4) [(AV.sl 1001 0 (List.length (x16.map o4)))])), ((a8.map o66).set (Int.toNat v4) [(AV.sl 1001 0 (List.length (x16.map o4)))])[(Int.toNat v4)]? = some [(AV.sl 1001 0 (List.length (x16.map o4)))], [(AV.sl 1001 0 (List.length (x16.map o4)))][0]? = some (AV.sl 1001 0 (List.length ((x16.set (Int.toNat v9) true).map o4))), treeLL ((x16.set (Int.toNat v9) true).map o4) = true, ((a8.map o66).set (Int.toNat v4) [(AV.sl 1001 0 (List.length (x16.map o4)))]).set (Int.toNat v4) ([(AV.sl 1001 0 (List.length (x16.map o4)))].set 0 (AV.own 4 1 ((x16.set (Int.toNat v9) true).map o4))) = ((a8.set (Int.toNat v4) (x16.set (Int.toNat v9) true)).map o66), (List.length ((a8.map o66).set (Int.toNat v4) [(AV.sl 1001 0 (List.length (x16.map o4)))])) = (List.length ((a8.set (Int.toNat v4) (x16.set (Int.toNat v9) true)).map o66)), (0 : Int) ≤ v9, v9 < (((List.length ((a8.set (Int.toNat v4) (x16.set (Int.toNat v9) true)).map o66)) : Nat) : Int), ((a8.set (Int.toNat v4) (x16.set (Int.toNat v9) true)).map o66)[(Int.toNat v9)]? = some [(AV.own 4 1 (x18.map o4))], [(AV.own 4 1 (x18.map o4))][0]? = some (AV.own 4 1 (x18.map o4)), 0 < 1, ((a8.set (Int.toNat v4) (x16.set (Int.toNat v9) true)).map o66).set (Int.toNat v9) ([(AV.own 4 1 (x18.map o4))].set 0 (AV.sl 1002 0 (List.length (x18.map o4)))) = (((a8.set (Int.toNat v4) (x16.set (Int.toNat v9) true)).map o66).set (Int.toNat v9) [(AV.sl 1002 0 (List.length (x18.map o4)))]), (((a8.set (Int.toNat v4) (x16.set (Int.toNat v9) true)).map o66).set (Int.toNat v9) [(AV.sl 1002 0 (List.length (x18.map o4)))])[(Int.toNat v9)]? = some [(AV.sl 1002 0 (List.length (x18.map o4)))], AV.lit (.int .i64 (((List.length (x18.map o4)) : Nat) : Int)) = (I (x18.length : Int)), (List.length ((a8.map o66).set (Int.toNat v4) [(AV.sl 1001 0 (List.length (x16.map o4)))])) = (List.length (((a8.set (Int.toNat v4) (x16.set (Int.toNat v9) true)).map o66).set (Int.toNat v9) [(AV.sl 1002 0 (List.length (x18.map o4)))])), RenOK [(1, 1), (1002, 1002)] (((a8.set (Int.toNat v4) (x16.set (Int.toNat v9) true)).map o66).set (Int.toNat v9) [(AV.sl 1002 0 (List.length (x18.map o4)))]), RenOK [(1, 1), (1002, 1002)] (x18.map o4)]) (by kernel_rfl) ⟨c10, (rd0 hx11), (rdM o40 hx11), (rd0 hx12), (rdM o40 hx12), (spec_l6Right_m hr13), rfl, c15, (rd0 hx16), (rdL o66 hx16), (rdM o66 hx16), rfl, (by decide), rfl, (setE (rdM o66 hx16)), (rd0 hx17), (rdL o4 hx17), (rdM o4 hx17), (setM o4), rfl, (Nat.le_of_ble_eq_true rfl), (by first | exact lnSet _ | exact lnSet2 _ | exact apLn _ (by assumption) | simp only [List.length_map, List.length_set, List.length_cons, List.length_nil]), (setE (rdM o66 hx16)), (pkS (by first | exact lnSet _ | exact lnSet2 _ | exact apLn _ (by assumption) | simp only [List.length_map, List.length_set, List.length_cons, List.length_nil])), (treeM t4), (setP o66), (by first | exact lnSet _ | exact lnSet2 _ | exact apLn _ (by assumption) | simp only [List.length_map, List.length_set, List.length_cons, List.length_nil]), (rd0 hx18), (rdL o66 hx18), (rdM o66 hx18), rfl, (by decide), rfl, (setE (rdM o66 hx18)), (lenM o4), (by first | exact lnSet _ | exact lnSet2 _ | exact apLn _ (by assumption) | simp only [List.length_map, List.length_set, List.length_cons, List.length_nil]), (renSet (rok (treeM t66)) rfl), (rok (treeM t4)), trivial⟩ (spec_l6Ahead_l2_m hP hn hx p1 v4 v9 x18 hK0 ih FU (a8.set (Int.toNat v4) (x16.set (Int.toNat v9) true)) x18 0 _ h)
    · exact go_to hΘ hm hx hP hn (hs := [⟨3, .br false, none⟩]) (π := [(1, 1)]) (ts := [0, 3, 12, 13]) (kp := []) (ps := [(decide (v9 < v4)) = false, RenOK [(1, 1)] (a8.map o66)]) (by kernel_rfl) ⟨c32, (rok (treeM t66)), trivial⟩ (hK0 a8 (w64 (v4 + 1)) _ h)
noncomputable def spec_l6Ahead_l0  (p1 : (List GEvent)) : Nat → (List (List Bool)) → Int → Option (List (List Bool))
  | 0, _, _ => none
  | n + 1, a3, v4 =>
  if (decide (v4 < (p1.length : Int))) = true then
    Option.bind (mk false (p1.length : Int)) fun l6 =>
    Option.bind (rd a3 v4) fun x7 =>
    spec_l6Ahead_l1 (spec_l6Ahead_l0 p1 n) p1 v4 FU (a3.set (Int.toNat v4) l6) 0
  else
    some a3
theorem spec_l6Ahead_l0_m {E : Env} (hP : E.P = Try.prog) (hn : E.n = 72) (hx : ∀ p, p ∈ E.fx → p.1 ∈ ([] : List Nat)) (p1 : (List GEvent))  : ∀ (n : Nat) (a3 : (List (List Bool))) (v4 : Int) (r : (List (List Bool))), spec_l6Ahead_l0 p1 n a3 v4 = some r → WAt E body34 (FQ (RetE Θ Try.f34.results.toList [] [] (AV.own 66 1 (r.map o66)) E)) [true, true, false, true, false] ⟨[(0, (AV.ro 5 (p1.map o40))), (3, (AV.sl 1 0 (List.length (a3.map o66)))), (12, (I (p1.length : Int))), (13, (I v4))], [(1, some ⟨66, 1, (a3.map o66)⟩)], [1, JJ]⟩ := by
  have hm : E.P.follows .mixedOrders = true := by rw [hP]; exact mixed
  have hΘ : TOK E.P Θ := by rw [hP]; exact Θ_ok
  intro n
  induction n with
  | zero => intro a3 v4 r h; simp only [spec_l6Ahead_l0] at h; cases h
  | succ n ih =>
    intro a3 v4 r h
    simp only [spec_l6Ahead_l0] at h
    rcases itS h with ⟨c5, h⟩ | ⟨c33, h⟩
    · obtain ⟨l6, hl6, h⟩ := bnS h
      obtain ⟨x7, hx7, h⟩ := bnS h
      exact go_to hΘ hm hx hP hn (hs := [⟨1, .br true, none⟩, ⟨7, .no, some (I (p1.length : Int))⟩, ⟨8, .nw 1001 (l6.map o4), some (AV.sl 1001 0 (List.length (l6.map o4)))⟩, ⟨10, .sto [(AV.own 4 1 (x7.map o4))] ((a3.map o66).set (Int.toNat v4) [(AV.sl 1001 0 (List.length (l6.map o4)))]), none⟩, ⟨11, .pack 1 1001 (Int.toNat v4) 0 [(AV.sl 1001 0 (List.length (l6.map o4)))] ((a3.set (Int.toNat v4) l6).map o66), none⟩, ⟨12, .slen 3 (List.length ((a3.set (Int.toNat v4) l6).map o66)), none⟩]) (π := [(1, 1)]) (ts := [0, 3, 4, 5, 12, 13]) (kp := []) (ps := [(decide (v4 < (p1.length : Int))) = true, AV.lit (.int .i64 (((p1.map o40).length : Nat) : Int)) = (I (p1.length : Int)), List.replicate (Int.toNat (p1.length : Int)) [.lit (.bool false)] = (l6.map o4), AV.sl 1001 0 (Int.toNat (p1.length : Int)) = (AV.sl 1001 0 (List.length (l6.map o4))), (p1.length : Int) = (p1.length : Int), (0 : Int) ≤ (p1.length : Int), (p1.length : Int) * ((1 : Nat) : Int) ≤ 140737488355328, (p1.length : Int) ≤ 140737488355328, (0 : Int) ≤ v4, v4 < (((List.length (a3.map o66)) : Nat) : Int), (a3.map o66)[(Int.toNat v4)]? = some [(AV.own 4 1 (x7.map o4))], (a3.map o66).set (Int.toNat v4) (wr [(AV.own 4 1 (x7.map o4))] 0 [(AV.sl 1001 0 (List.length (l6.map o4)))]) = ((a3.map o66).set (Int.toNat v4) [(AV.sl 1001 0 (List.length (l6.map o4)))]), [(AV.sl 1001 0 (List.length (l6.map o4)))].length = 1, 0 + [(AV.sl 1001 0 (List.length (l6.map o4)))].length ≤ [(AV.own 4 1 (x7.map o4))].length, ((a3.map o66).set (Int.toNat v4) [(AV.sl 1001 0 (List.length (l6.map o4)))])[(Int.toNat v4)]? = some [(AV.sl 1001 0 (List.length (l6.map o4)))], [(AV.sl 1001 0 (List.length (l6.map o4)))][0]? = some (AV.sl 1001 0 (List.length (l6.map o4))), treeLL (l6.map o4) = true, ((a3.map o66).set (Int.toNat v4) [(AV.sl 1001 0 (List.length (l6.map o4)))]).set (Int.toNat v4) ([(AV.sl 1001 0 (List.length (l6.map o4)))].set 0 (AV.own 4 1 (l6.map o4))) = ((a3.set (Int.toNat v4) l6).map o66), (List.length (a3.map o66)) = (List.length ((a3.set (Int.toNat v4) l6).map o66)), RenOK [(1, 1)] ((a3.set (Int.toNat v4) l6).map o66)]) (by kernel_rfl) ⟨c5, (lenM o40), (mkM o4 hl6), (mkS o4 hl6), rfl, (mk0 hl6), (mkB hl6 (by decide)), (mkC hl6), (rd0 hx7), (rdL o66 hx7), (rdM o66 hx7), rfl, rfl, (Nat.le_of_ble_eq_true rfl), (setE (rdM o66 hx7)), rfl, (treeM t4), (setP o66), (by first | exact lnSet _ | exact lnSet2 _ | exact apLn _ (by assumption) | simp only [List.length_map, List.length_set, List.length_cons, List.length_nil]), (rok (treeM t66)), trivial⟩ (spec_l6Ahead_l1_m hP hn hx p1 v4 ih FU (a3.set (Int.toNat v4) l6) 0 _ h)
    · have h := Option.some.inj h
      subst h
      exact go_ret hΘ hm hP hn (hs := [⟨1, .br false, none⟩]) (rh := []) (ph := .own) (ps := [(decide (v4 < (p1.length : Int))) = false, treeLL ((a3.map o66).take (List.length (a3.map o66))) = true, (a3.map o66).take (List.length (a3.map o66)) = (a3.map o66), noRoLL (a3.map o66) = true]) (by kernel_rfl) ⟨c33, (treeT t66), takeM, (noRoM n66), trivial⟩
noncomputable def spec_l6Ahead (p1 : (List GEvent)) : Option (List (List Bool)) :=
  Option.bind (mk [] (p1.length : Int)) fun l2 =>
  spec_l6Ahead_l0 p1 FU l2 0
theorem spec_l6Ahead_m {p1 : (List GEvent)} {r : (List (List Bool))} (h : spec_l6Ahead p1 = some r) : Meets Try.prog 34 [(AV.ro 5 (p1.map o40))] (AV.own 66 1 (r.map o66)) := by
  refine meets_ofC Θ_ok Try.func34 rfl (c := body34) (by kernel_rfl) (Nat.le_of_ble_eq_true rfl) ?_
  intro E hP hn hx
  replace hn : E.n = 72 := hn
  have hm : E.P.follows .mixedOrders = true := by rw [hP]; exact mixed
  have hΘ : TOK E.P Θ := by rw [hP]; exact Θ_ok
  unfold spec_l6Ahead at h
  show WAt E body34 (FQ (RetE Θ Try.f34.results.toList [] [] (AV.own 66 1 (r.map o66)) E)) [] ⟨[(0, (AV.ro 5 (p1.map o40)))], [], [JJ]⟩
  obtain ⟨l2, hl2, h⟩ := bnS h
  exact go_to hΘ hm hx hP hn (hs := [⟨2, .no, some (I (p1.length : Int))⟩, ⟨3, .nw 1001 (List.replicate (Int.toNat (p1.length : Int)) [AV.lit (.slice none 0 0)]), some (AV.sl 1001 0 (List.length (l2.map o66)))⟩, ⟨4, .own0 1001 (Int.toNat (p1.length : Int)) [] [] 4 1 (l2.map o66), none⟩, ⟨6, .no, some (I (p1.length : Int))⟩]) (π := [(1001, 1)]) (ts := [0, 3, 12, 13]) (kp := []) (ps := [AV.lit (.int .i64 (((p1.map o40).length : Nat) : Int)) = (I (p1.length : Int)), List.replicate (Int.toNat (p1.length : Int)) [.lit (.slice none 0 0)] = (List.replicate (Int.toNat (p1.length : Int)) [AV.lit (.slice none 0 0)]), AV.sl 1001 0 (Int.toNat (p1.length : Int)) = (AV.sl 1001 0 (List.length (l2.map o66))), (p1.length : Int) = (p1.length : Int), (0 : Int) ≤ (p1.length : Int), (p1.length : Int) * ((24 : Nat) : Int) ≤ 140737488355328, (p1.length : Int) ≤ 140737488355328, (List.replicate (Int.toNat (p1.length : Int)) [AV.lit (.slice none 0 0)]) = List.replicate (Int.toNat (p1.length : Int)) ([] ++ AV.lit (.slice none 0 0) :: []), List.replicate (Int.toNat (p1.length : Int)) ([] ++ AV.own 4 1 [] :: []) = (l2.map o66), AV.lit (.int .i64 (((p1.map o40).length : Nat) : Int)) = (I (p1.length : Int)), RenOK [(1001, 1)] (l2.map o66)]) (by kernel_rfl) ⟨(lenM o40), rfl, (mkS o66 hl2), rfl, (mk0 hl2), (mkB hl2 (by decide)), (mkC hl2), rfl, (mkM o66 hl2), (lenM o40), (rok (treeM t66)), trivial⟩ (spec_l6Ahead_l0_m hP hn hx p1 FU l2 0 _ h)
noncomputable def body17 : Code := match Try.f17.body with | some c => c | none => .skip
noncomputable def spec_l6Clocks_l1 (K0 : (List (List Bool)) → (List (List Int)) → Int → Option (List (List Int))) (p1 : (List GEvent)) (v5 : Int) (x10 : (List Bool)) : Nat → (List (List Bool)) → (List Bool) → (List (List Int)) → (List Int) → Int → Option (List (List Int))
  | 0, _, _, _, _, _ => none
  | n + 1, a11, a12, a13, a14, v15 =>
  if (decide (v15 < (x10.length : Int))) = true then
    Option.bind (rd a12 v15) fun x17 =>
    if x17 = true then
      Option.bind (rd p1 v15) fun x19 =>
      Option.bind (rd a14 x19.Thread) fun x20 =>
      spec_l6Clocks_l1 K0 p1 v5 x10 n a11 a12 a13 (a14.set (Int.toNat x19.Thread) (w64 (x20 + 1))) (w64 (v15 + 1))
    else
      spec_l6Clocks_l1 K0 p1 v5 x10 n a11 a12 a13 a14 (w64 (v15 + 1))
  else
    Option.bind (app a13 [a14]) fun l23 =>
    Option.bind (rd a11 v5) fun x24 =>
    K0 (a11.set (Int.toNat v5) a12) l23 (w64 (v5 + 1))
theorem spec_l6Clocks_l1_m {E : Env} (hP : E.P = Try.prog) (hn : E.n = 55) (hx : ∀ p, p ∈ E.fx → p.1 ∈ ([] : List Nat)) (p1 : (List GEvent)) (v5 : Int) (x10 : (List Bool)) {K0 : (List (List Bool)) → (List (List Int)) → Int → Option (List (List Int))} (hK0 : ∀ (a3 : (List (List Bool))) (a4 : (List (List Int))) (v5 : Int) (r : (List (List Int))), K0 a3 a4 v5 = some r → WAt E body17 (FQ (RetE Θ Try.f17.results.toList [] [] (AV.own 43 1 (r.map o43)) E)) [true, true, true, false, true, false] ⟨[(0, (AV.ro 5 (p1.map o40))), (3, (AV.sl 1 0 (List.length (a3.map o66)))), (4, (AV.sl 2 0 (List.length (a4.map o43)))), (12, (AV.ro 5 (p1.map o40))), (13, (I (p1.length : Int))), (14, (I v5))], [(1, some ⟨66, 1, (a3.map o66)⟩), (2, some ⟨43, 1, (a4.map o43)⟩)], [1, 2, JJ]⟩) : ∀ (n : Nat) (a11 : (List (List Bool))) (a12 : (List Bool)) (a13 : (List (List Int))) (a14 : (List Int)) (v15 : Int) (r : (List (List Int))), spec_l6Clocks_l1 K0 p1 v5 x10 n a11 a12 a13 a14 v15 = some r → WAt E body17 (FQ (RetE Θ Try.f17.results.toList [] [] (AV.own 43 1 (r.map o43)) E)) [true, true, true, false, true, false, false, true, true, false, false, true, true, true, false, true, false] ⟨[(0, (AV.ro 5 (p1.map o40))), (3, (AV.sl 1 0 (List.length ((a11.map o66).set (Int.toNat v5) [(AV.sl 1003 0 (List.length (a12.map o4)))])))), (4, (AV.sl 2 0 (List.length (a13.map o43)))), (7, (AV.sl 3 0 (List.length (a14.map o3)))), (12, (AV.ro 5 (p1.map o40))), (13, (I (p1.length : Int))), (14, (I v5)), (30, (AV.sl 1003 0 (List.length (a12.map o4)))), (31, (I (x10.length : Int))), (32, (I v15))], [(1, some ⟨66, 1, ((a11.map o66).set (Int.toNat v5) [(AV.sl 1003 0 (List.length (a12.map o4)))])⟩), (1003, some ⟨4, 1, (a12.map o4)⟩), (2, some ⟨43, 1, (a13.map o43)⟩), (3, some ⟨3, 1, (a14.map o3)⟩)], [1, 1003, 2, 3, JJ]⟩ := by
  have hm : E.P.follows .mixedOrders = true := by rw [hP]; exact mixed
  have hΘ : TOK E.P Θ := by rw [hP]; exact Θ_ok
  intro n
  induction n with
  | zero => intro a11 a12 a13 a14 v15 r h; simp only [spec_l6Clocks_l1] at h; cases h
  | succ n ih =>
    intro a11 a12 a13 a14 v15 r h
    simp only [spec_l6Clocks_l1] at h
    rcases itS h with ⟨c16, h⟩ | ⟨c22, h⟩
    · obtain ⟨x17, hx17, h⟩ := bnS h
      rcases itS h with ⟨c18, h⟩ | ⟨c21, h⟩
      · obtain ⟨x19, hx19, h⟩ := bnS h
        obtain ⟨x20, hx20, h⟩ := bnS h
        exact go_to hΘ hm hx hP hn (hs := [⟨1, .br true, none⟩, ⟨4, .row [(B x17)], none⟩, ⟨8, .br true, none⟩, ⟨12, .row (o40 x19), none⟩, ⟨16, .row [(I x20)], none⟩, ⟨19, .sto [(I x20)] ((a14.set (Int.toNat x19.Thread) (w64 (x20 + 1))).map o3), none⟩, ⟨22, .slen 7 (List.length ((a14.set (Int.toNat x19.Thread) (w64 (x20 + 1))).map o3)), none⟩]) (π := [(1, 1), (1003, 1003), (2, 2), (3, 3)]) (ts := [0, 3, 4, 7, 12, 13, 14, 30, 31, 32]) (kp := []) (ps := [(decide (v15 < (x10.length : Int))) = true, (0 : Int) ≤ v15, v15 < (((List.length (a12.map o4)) : Nat) : Int), (a12.map o4)[(Int.toNat v15)]? = some [(B x17)], x17 = true, (0 : Int) ≤ v15, (p1.map o40)[(Int.toNat v15)]? = some (o40 x19), (0 : Int) ≤ x19.Thread, x19.Thread < (((List.length (a14.map o3)) : Nat) : Int), (a14.map o3)[(Int.toNat x19.Thread)]? = some [(I x20)], (0 : Int) ≤ x19.Thread, x19.Thread < (((List.length (a14.map o3)) : Nat) : Int), (a14.map o3)[(Int.toNat x19.Thread)]? = some [(I x20)], (a14.map o3).set (Int.toNat x19.Thread) (wr [(I x20)] 0 [(I (w64 (x20 + 1)))]) = ((a14.set (Int.toNat x19.Thread) (w64 (x20 + 1))).map o3), [(I (w64 (x20 + 1)))].length = 1, 0 + [(I (w64 (x20 + 1)))].length ≤ [(I x20)].length, (List.length (a14.map o3)) = (List.length ((a14.set (Int.toNat x19.Thread) (w64 (x20 + 1))).map o3)), RenOK [(1, 1), (1003, 1003), (2, 2), (3, 3)] ((a11.map o66).set (Int.toNat v5) [(AV.sl 1003 0 (List.length (a12.map o4)))]), RenOK [(1, 1), (1003, 1003), (2, 2), (3, 3)] (a12.map o4), RenOK [(1, 1), (1003, 1003), (2, 2), (3, 3)] (a13.map o43), RenOK [(1, 1), (1003, 1003), (2, 2), (3, 3)] ((a14.set (Int.toNat x19.Thread) (w64 (x20 + 1))).map o3)]) (by kernel_rfl) ⟨c16, (rd0 hx17), (rdL o4 hx17), (rdM o4 hx17), c18, (rd0 hx19), (rdM o40 hx19), (rd0 hx20), (rdL o3 hx20), (rdM o3 hx20), (rd0 hx20), (rdL o3 hx20), (rdM o3 hx20), (setM o3), rfl, (Nat.le_of_ble_eq_true rfl), (by first | exact lnSet _ | exact lnSet2 _ | exact apLn _ (by assumption) | simp only [List.length_map, List.length_set, List.length_cons, List.length_nil]), (renSet (rok (treeM t66)) rfl), (rok (treeM t4)), (rok (treeM t43)), (rok (treeM t3)), trivial⟩ (ih a11 a12 a13 (a14.set (Int.toNat x19.Thread) (w64 (x20 + 1))) (w64 (v15 + 1)) _ h)
      · exact go_to hΘ hm hx hP hn (hs := [⟨1, .br true, none⟩, ⟨4, .row [(B x17)], none⟩, ⟨8, .br false, none⟩]) (π := [(1, 1), (1003, 1003), (2, 2), (3, 3)]) (ts := [0, 3, 4, 7, 12, 13, 14, 30, 31, 32]) (kp := []) (ps := [(decide (v15 < (x10.length : Int))) = true, (0 : Int) ≤ v15, v15 < (((List.length (a12.map o4)) : Nat) : Int), (a12.map o4)[(Int.toNat v15)]? = some [(B x17)], x17 = false, RenOK [(1, 1), (1003, 1003), (2, 2), (3, 3)] ((a11.map o66).set (Int.toNat v5) [(AV.sl 1003 0 (List.length (a12.map o4)))]), RenOK [(1, 1), (1003, 1003), (2, 2), (3, 3)] (a12.map o4), RenOK [(1, 1), (1003, 1003), (2, 2), (3, 3)] (a13.map o43), RenOK [(1, 1), (1003, 1003), (2, 2), (3, 3)] (a14.map o3)]) (by kernel_rfl) ⟨c16, (rd0 hx17), (rdL o4 hx17), (rdM o4 hx17), c21, (renSet (rok (treeM t66)) rfl), (rok (treeM t4)), (rok (treeM t43)), (rok (treeM t3)), trivial⟩ (ih a11 a12 a13 a14 (w64 (v15 + 1)) _ h)
    · obtain ⟨l23, hl23, h⟩ := bnS h
      obtain ⟨x24, hx24, h⟩ := bnS h
      exact go_to hΘ hm hx hP hn (hs := [⟨1, .br false, none⟩, ⟨4, .new 1001, none⟩, ⟨5, .app 1002 ((a13.map o43) ++ [[(AV.sl 3 0 (List.length (a14.map o3)))]]), none⟩, ⟨6, .pack 1002 3 (List.length a13) 0 [(AV.sl 3 0 (List.length (a14.map o3)))] (l23.map o43), none⟩, ⟨9, .pack 1 1003 (Int.toNat v5) 0 [(AV.sl 1003 0 (List.length (a12.map o4)))] ((a11.set (Int.toNat v5) a12).map o66), none⟩, ⟨9, .slen 3 (List.length ((a11.set (Int.toNat v5) a12).map o66)), none⟩, ⟨9, .slen 4 (List.length (l23.map o43)), none⟩]) (π := [(1, 1), (1002, 2)]) (ts := [0, 3, 4, 12, 13, 14]) (kp := []) (ps := [(decide (v15 < (x10.length : Int))) = false, (a13.map o43).take (List.length (a13.map o43)) ++ [[(AV.sl 3 0 (List.length (a14.map o3)))]] = ((a13.map o43) ++ [[(AV.sl 3 0 (List.length (a14.map o3)))]]), [[(AV.sl 3 0 (List.length (a14.map o3)))]].all (fun r => r.all AV.plain) = true, (List.length ((a13.map o43) ++ [[(AV.sl 3 0 (List.length (a14.map o3)))]])) * 24 ≤ 140737488355328, (List.length ((a13.map o43) ++ [[(AV.sl 3 0 (List.length (a14.map o3)))]])) ≤ 140737488355328, ((a13.map o43) ++ [[(AV.sl 3 0 (List.length (a14.map o3)))]])[(List.length a13)]? = some [(AV.sl 3 0 (List.length (a14.map o3)))], [(AV.sl 3 0 (List.length (a14.map o3)))][0]? = some (AV.sl 3 0 (List.length (a14.map o3))), treeLL (a14.map o3) = true, ((a13.map o43) ++ [[(AV.sl 3 0 (List.length (a14.map o3)))]]).set (List.length a13) ([(AV.sl 3 0 (List.length (a14.map o3)))].set 0 (AV.own 3 1 (a14.map o3))) = (l23.map o43), ((a11.map o66).set (Int.toNat v5) [(AV.sl 1003 0 (List.length (a12.map o4)))])[(Int.toNat v5)]? = some [(AV.sl 1003 0 (List.length (a12.map o4)))], [(AV.sl 1003 0 (List.length (a12.map o4)))][0]? = some (AV.sl 1003 0 (List.length (a12.map o4))), treeLL (a12.map o4) = true, ((a11.map o66).set (Int.toNat v5) [(AV.sl 1003 0 (List.length (a12.map o4)))]).set (Int.toNat v5) ([(AV.sl 1003 0 (List.length (a12.map o4)))].set 0 (AV.own 4 1 (a12.map o4))) = ((a11.set (Int.toNat v5) a12).map o66), (List.length ((a11.map o66).set (Int.toNat v5) [(AV.sl 1003 0 (List.length (a12.map o4)))])) = (List.length ((a11.set (Int.toNat v5) a12).map o66)), (List.length ((a13.map o43) ++ [[(AV.sl 3 0 (List.length (a14.map o3)))]])) = (List.length (l23.map o43)), RenOK [(1, 1), (1002, 2)] ((a11.set (Int.toNat v5) a12).map o66), RenOK [(1, 1), (1002, 2)] (l23.map o43)]) (by kernel_rfl) ⟨c22, (apT o43), rfl, (apB o43 hl23 (by decide)), (apC o43 hl23), (apG o43), rfl, (treeM t3), (apS o43 hl23), (setE (rdM o66 hx24)), rfl, (treeM t4), (setP o66), (by first | exact lnSet _ | exact lnSet2 _ | exact apLn _ (by assumption) | simp only [List.length_map, List.length_set, List.length_cons, List.length_nil]), (apLn o43 hl23), (rok (treeM t66)), (rok (treeM t43)), trivial⟩ (hK0 (a11.set (Int.toNat v5) a12) l23 (w64 (v5 + 1)) _ h)
noncomputable def spec_l6Clocks_l0  (p1 : (List GEvent)) : Nat → (List (List Bool)) → (List (List Int)) → Int → Option (List (List Int))
  | 0, _, _, _ => none
  | n + 1, a3, a4, v5 =>
  if (decide (v5 < (p1.length : Int))) = true then
    Option.bind (rd p1 v5) fun x7 =>
    Option.bind (mk 0 5) fun l8 =>
    Option.bind (rd l8 x7.Thread) fun x9 =>
    Option.bind (rd a3 v5) fun x10 =>
    spec_l6Clocks_l1 (spec_l6Clocks_l0 p1 n) p1 v5 x10 FU a3 x10 a4 (l8.set (Int.toNat x7.Thread) (w64 (x9 + 1))) 0
  else
    some a4
theorem spec_l6Clocks_l0_m {E : Env} (hP : E.P = Try.prog) (hn : E.n = 55) (hx : ∀ p, p ∈ E.fx → p.1 ∈ ([] : List Nat)) (p1 : (List GEvent))  : ∀ (n : Nat) (a3 : (List (List Bool))) (a4 : (List (List Int))) (v5 : Int) (r : (List (List Int))), spec_l6Clocks_l0 p1 n a3 a4 v5 = some r → WAt E body17 (FQ (RetE Θ Try.f17.results.toList [] [] (AV.own 43 1 (r.map o43)) E)) [true, true, true, false, true, false] ⟨[(0, (AV.ro 5 (p1.map o40))), (3, (AV.sl 1 0 (List.length (a3.map o66)))), (4, (AV.sl 2 0 (List.length (a4.map o43)))), (12, (AV.ro 5 (p1.map o40))), (13, (I (p1.length : Int))), (14, (I v5))], [(1, some ⟨66, 1, (a3.map o66)⟩), (2, some ⟨43, 1, (a4.map o43)⟩)], [1, 2, JJ]⟩ := by
  have hm : E.P.follows .mixedOrders = true := by rw [hP]; exact mixed
  have hΘ : TOK E.P Θ := by rw [hP]; exact Θ_ok
  intro n
  induction n with
  | zero => intro a3 a4 v5 r h; simp only [spec_l6Clocks_l0] at h; cases h
  | succ n ih =>
    intro a3 a4 v5 r h
    simp only [spec_l6Clocks_l0] at h
    rcases itS h with ⟨c6, h⟩ | ⟨c25, h⟩
    · obtain ⟨x7, hx7, h⟩ := bnS h
      obtain ⟨l8, hl8, h⟩ := bnS h
      obtain ⟨x9, hx9, h⟩ := bnS h
      obtain ⟨x10, hx10, h⟩ := bnS h
      exact go_to hΘ hm hx hP hn (hs := [⟨1, .br true, none⟩, ⟨3, .row (o40 x7), none⟩, ⟨5, .new 1001, none⟩, ⟨8, .nw 1002 (l8.map o3), some (AV.sl 1002 0 (List.length (l8.map o3)))⟩, ⟨14, .row [(I x9)], none⟩, ⟨17, .sto [(I x9)] ((l8.set (Int.toNat x7.Thread) (w64 (x9 + 1))).map o3), none⟩, ⟨21, .unpack 1 1003 (Int.toNat v5) 0 [(AV.own 4 1 (x10.map o4))] 4 1 (x10.map o4) ((a3.map o66).set (Int.toNat v5) [(AV.sl 1003 0 (List.length (x10.map o4)))]), none⟩, ⟨21, .row [(AV.sl 1003 0 (List.length (x10.map o4)))], none⟩, ⟨22, .no, some (I (x10.length : Int))⟩, ⟨24, .slen 3 (List.length ((a3.map o66).set (Int.toNat v5) [(AV.sl 1003 0 (List.length (x10.map o4)))])), none⟩, ⟨24, .slen 7 (List.length ((l8.set (Int.toNat x7.Thread) (w64 (x9 + 1))).map o3)), none⟩]) (π := [(1, 1), (1003, 1003), (2, 2), (1002, 3)]) (ts := [0, 3, 4, 7, 12, 13, 14, 30, 31, 32]) (kp := []) (ps := [(decide (v5 < (p1.length : Int))) = true, (0 : Int) ≤ v5, (p1.map o40)[(Int.toNat v5)]? = some (o40 x7), List.replicate (Int.toNat 5) [.lit (.int .i64 0)] = (l8.map o3), AV.sl 1002 0 (Int.toNat 5) = (AV.sl 1002 0 (List.length (l8.map o3))), (5 : Int) = (5 : Int), (0 : Int) ≤ (5 : Int), (5 : Int) * ((8 : Nat) : Int) ≤ 140737488355328, (5 : Int) ≤ 140737488355328, (0 : Int) ≤ x7.Thread, x7.Thread < (((List.length (l8.map o3)) : Nat) : Int), (l8.map o3)[(Int.toNat x7.Thread)]? = some [(I x9)], (0 : Int) ≤ x7.Thread, x7.Thread < (((List.length (l8.map o3)) : Nat) : Int), (l8.map o3)[(Int.toNat x7.Thread)]? = some [(I x9)], (l8.map o3).set (Int.toNat x7.Thread) (wr [(I x9)] 0 [(I (w64 (x9 + 1)))]) = ((l8.set (Int.toNat x7.Thread) (w64 (x9 + 1))).map o3), [(I (w64 (x9 + 1)))].length = 1, 0 + [(I (w64 (x9 + 1)))].length ≤ [(I x9)].length, (0 : Int) ≤ v5, v5 < (((List.length (a3.map o66)) : Nat) : Int), (a3.map o66)[(Int.toNat v5)]? = some [(AV.own 4 1 (x10.map o4))], [(AV.own 4 1 (x10.map o4))][0]? = some (AV.own 4 1 (x10.map o4)), 0 < 1, (a3.map o66).set (Int.toNat v5) ([(AV.own 4 1 (x10.map o4))].set 0 (AV.sl 1003 0 (List.length (x10.map o4)))) = ((a3.map o66).set (Int.toNat v5) [(AV.sl 1003 0 (List.length (x10.map o4)))]), ((a3.map o66).set (Int.toNat v5) [(AV.sl 1003 0 (List.length (x10.map o4)))])[(Int.toNat v5)]? = some [(AV.sl 1003 0 (List.length (x10.map o4)))], AV.lit (.int .i64 (((List.length (x10.map o4)) : Nat) : Int)) = (I (x10.length : Int)), (List.length (a3.map o66)) = (List.length ((a3.map o66).set (Int.toNat v5) [(AV.sl 1003 0 (List.length (x10.map o4)))])), (List.length (l8.map o3)) = (List.length ((l8.set (Int.toNat x7.Thread) (w64 (x9 + 1))).map o3)), RenOK [(1, 1), (1003, 1003), (2, 2), (1002, 3)] ((a3.map o66).set (Int.toNat v5) [(AV.sl 1003 0 (List.length (x10.map o4)))]), RenOK [(1, 1), (1003, 1003), (2, 2), (1002, 3)] (x10.map o4), RenOK [(1, 1), (1003, 1003), (2, 2), (1002, 3)] (a4.map o43), RenOK [(1, 1), (1003, 1003), (2, 2), (1002, 3)] ((l8.set (Int.toNat x7.Thread) (w64 (x9 + 1))).map o3)]) (by kernel_rfl) ⟨c6, (rd0 hx7), (rdM o40 hx7), (mkM o3 hl8), (mkS o3 hl8), rfl, (mk0 hl8), (mkB hl8 (by decide)), (mkC hl8), (rd0 hx9), (rdL o3 hx9), (rdM o3 hx9), (rd0 hx9), (rdL o3 hx9), (rdM o3 hx9), (setM o3), rfl, (Nat.le_of_ble_eq_true rfl), (rd0 hx10), (rdL o66 hx10), (rdM o66 hx10), rfl, (by decide), rfl, (setE (rdM o66 hx10)), (lenM o4), (by first | exact lnSet _ | exact lnSet2 _ | exact apLn _ (by assumption) | simp only [List.length_map, List.length_set, List.length_cons, List.length_nil]), (by first | exact lnSet _ | exact lnSet2 _ | exact apLn _ (by assumption) | simp only [List.length_map, List.length_set, List.length_cons, List.length_nil]), (renSet (rok (treeM t66)) rfl), (rok (treeM t4)), (rok (treeM t43)), (rok (treeM t3)), trivial⟩ (spec_l6Clocks_l1_m hP hn hx p1 v5 x10 ih FU a3 x10 a4 (l8.set (Int.toNat x7.Thread) (w64 (x9 + 1))) 0 _ h)
    · have h := Option.some.inj h
      subst h
      exact go_ret hΘ hm hP hn (hs := [⟨1, .br false, none⟩]) (rh := []) (ph := .own) (ps := [(decide (v5 < (p1.length : Int))) = false, treeLL ((a4.map o43).take (List.length (a4.map o43))) = true, (a4.map o43).take (List.length (a4.map o43)) = (a4.map o43), noRoLL (a4.map o43) = true]) (by kernel_rfl) ⟨c25, (treeT t43), takeM, (noRoM n43), trivial⟩
noncomputable def spec_l6Clocks (p1 : (List GEvent)) : Option (List (List Int)) :=
  Option.bind (spec_l6Ahead p1) fun r2 =>
  spec_l6Clocks_l0 p1 FU r2 [] 0
theorem spec_l6Clocks_m {p1 : (List GEvent)} {r : (List (List Int))} (h : spec_l6Clocks p1 = some r) : Meets Try.prog 17 [(AV.ro 5 (p1.map o40))] (AV.own 43 1 (r.map o43)) := by
  refine meets_ofC Θ_ok Try.func17 rfl (c := body17) (by kernel_rfl) (Nat.le_of_ble_eq_true rfl) ?_
  intro E hP hn hx
  replace hn : E.n = 55 := hn
  have hm : E.P.follows .mixedOrders = true := by rw [hP]; exact mixed
  have hΘ : TOK E.P Θ := by rw [hP]; exact Θ_ok
  unfold spec_l6Clocks at h
  show WAt E body17 (FQ (RetE Θ Try.f17.results.toList [] [] (AV.own 43 1 (r.map o43)) E)) [] ⟨[(0, (AV.ro 5 (p1.map o40)))], [], [JJ]⟩
  obtain ⟨r2, hr2, h⟩ := bnS h
  exact go_to hΘ hm hx hP hn (hs := [⟨2, .call [] (AV.own 66 1 (r2.map o66)) [1001], none⟩, ⟨6, .no, some (I (p1.length : Int))⟩, ⟨8, .nil 4 1002 43 1, none⟩]) (π := [(1001, 1), (1002, 2)]) (ts := [0, 3, 4, 12, 13, 14]) (kp := []) (ps := [Meets Try.prog 34 [(AV.ro 5 (p1.map o40))] (AV.own 66 1 (r2.map o66)), noRo (AV.own 66 1 (r2.map o66)) = true, AV.lit (.int .i64 (((p1.map o40).length : Nat) : Int)) = (I (p1.length : Int)), RenOK [(1001, 1), (1002, 2)] (r2.map o66), RenOK [(1001, 1), (1002, 2)] ([].map o43)]) (by kernel_rfl) ⟨(spec_l6Ahead_m hr2), (by simp only [noRo, noRoL, noRoM n66, Bool.and_self]), (lenM o40), (rok (treeM t66)), (rok (treeM t43)), trivial⟩ (spec_l6Clocks_l0_m hP hn hx p1 FU r2 [] 0 _ h)
noncomputable def body46 : Code := match Try.f46.body with | some c => c | none => .skip
noncomputable def spec_l1In (p1 : Int) (p2 : Int) (p3 : Int) : Option Bool :=
  if (decide (p1 ≥ p2)) = true then
    some (decide (p1 ≤ p3))
  else
    some false
theorem spec_l1In_m {p1 : Int} {p2 : Int} {p3 : Int} {r : Bool} (h : spec_l1In p1 p2 p3 = some r) : Meets Try.prog 46 [(I p1), (I p2), (I p3)] (B r) := by
  refine meets_ofC Θ_ok Try.func46 rfl (c := body46) (by kernel_rfl) (Nat.le_of_ble_eq_true rfl) ?_
  intro E hP hn hx
  replace hn : E.n = 15 := hn
  have hm : E.P.follows .mixedOrders = true := by rw [hP]; exact mixed
  have hΘ : TOK E.P Θ := by rw [hP]; exact Θ_ok
  unfold spec_l1In at h
  show WAt E body46 (FQ (RetE Θ Try.f46.results.toList [] [] (B r) E)) [] ⟨[(0, (I p1)), (1, (I p2)), (2, (I p3))], [], [JJ]⟩
  rcases itS h with ⟨c4, h⟩ | ⟨c5, h⟩
  · have h := Option.some.inj h
    subst h
    exact go_ret hΘ hm hP hn (hs := [⟨4, .no, some (B true)⟩]) (rh := []) (ph := .raw) (ps := [(B (decide (p1 ≥ p2))) = (B true), (B (decide (p1 ≤ p3))) = (B (decide (p1 ≤ p3))), litA (B (decide (p1 ≤ p3))) = true]) (by kernel_rfl) ⟨(litB c4), rfl, rfl, trivial⟩
  · have h := Option.some.inj h
    subst h
    exact go_ret hΘ hm hP hn (hs := [⟨4, .no, some (B false)⟩]) (rh := []) (ph := .raw) (ps := [(B (decide (p1 ≥ p2))) = (B false), (B false) = (B false), litA (B false) = true]) (by kernel_rfl) ⟨(litB c5), rfl, rfl, trivial⟩
noncomputable def body33 : Code := match Try.f33.body with | some c => c | none => .skip
noncomputable def spec_l6Event_j0  (p1 : GEvent)  : Option Bool :=
  Option.bind (spec_l1In p1.Thread 0 4) fun r9 =>
  if r9 = true then
    Option.bind (spec_l1In p1.Kind 1 12) fun r11 =>
    if r11 = true then
      Option.bind (spec_l1In p1.Obj (-1) 99) fun r13 =>
      if r13 = true then
        Option.bind (spec_l1In p1.Lock (-1) 99) fun r15 =>
        if r15 = true then
          Option.bind (spec_l1In p1.Pc 0 99) fun r17 =>
          some r17
        else
          some false
      else
        some false
    else
      some false
  else
    some false
theorem spec_l6Event_j0_m {E : Env} (hP : E.P = Try.prog) (hn : E.n = 49) (hx : ∀ p, p ∈ E.fx → p.1 ∈ ([] : List Nat)) (p1 : GEvent)   (r : Bool) (h : spec_l6Event_j0 p1  = some r) : WAt E body33 (FQ (RetE Θ Try.f33.results.toList [] [] (B r) E)) [true, false, true, true] ⟨[(1, (AV.ptr 1 0 0))], [(1, some ⟨40, 5, [((o40 p1))]⟩)], [1, JJ]⟩ := by
  have hm : E.P.follows .mixedOrders = true := by rw [hP]; exact mixed
  have hΘ : TOK E.P Θ := by rw [hP]; exact Θ_ok
  unfold spec_l6Event_j0 at h
  obtain ⟨r9, hr9, h⟩ := bnS h
  rcases itS h with ⟨c10, h⟩ | ⟨c21, h⟩
  · obtain ⟨r11, hr11, h⟩ := bnS h
    rcases itS h with ⟨c12, h⟩ | ⟨c20, h⟩
    · obtain ⟨r13, hr13, h⟩ := bnS h
      rcases itS h with ⟨c14, h⟩ | ⟨c19, h⟩
      · obtain ⟨r15, hr15, h⟩ := bnS h
        rcases itS h with ⟨c16, h⟩ | ⟨c18, h⟩
        · obtain ⟨r17, hr17, h⟩ := bnS h
          have h := Option.some.inj h
          subst h
          exact go_ret hΘ hm hP hn (hs := [⟨2, .callV [] (B r9), none⟩, ⟨3, .no, some (B true)⟩, ⟨6, .callV [] (B r11), none⟩, ⟨8, .no, some (B true)⟩, ⟨11, .callV [] (B r13), none⟩, ⟨13, .no, some (B true)⟩, ⟨16, .callV [] (B r15), none⟩, ⟨18, .no, some (B true)⟩, ⟨21, .callV [] (B r17), none⟩]) (rh := []) (ph := .raw) (ps := [Meets Try.prog 46 [(I p1.Thread), (I 0), (I 4)] (B r9), litA (B r9) = true, (B r9) = (B true), Meets Try.prog 46 [(I p1.Kind), (I 1), (I 12)] (B r11), litA (B r11) = true, (B r11) = (B true), Meets Try.prog 46 [(I p1.Obj), (I (-1)), (I 99)] (B r13), litA (B r13) = true, (B r13) = (B true), Meets Try.prog 46 [(I p1.Lock), (I (-1)), (I 99)] (B r15), litA (B r15) = true, (B r15) = (B true), Meets Try.prog 46 [(I p1.Pc), (I 0), (I 99)] (B r17), litA (B r17) = true, (B r17) = (B r17), litA (B r17) = true]) (by kernel_rfl) ⟨(spec_l1In_m hr9), rfl, (litB c10), (spec_l1In_m hr11), rfl, (litB c12), (spec_l1In_m hr13), rfl, (litB c14), (spec_l1In_m hr15), rfl, (litB c16), (spec_l1In_m hr17), rfl, rfl, rfl, trivial⟩
        · have h := Option.some.inj h
          subst h
          exact go_ret hΘ hm hP hn (hs := [⟨2, .callV [] (B r9), none⟩, ⟨3, .no, some (B true)⟩, ⟨6, .callV [] (B r11), none⟩, ⟨8, .no, some (B true)⟩, ⟨11, .callV [] (B r13), none⟩, ⟨13, .no, some (B true)⟩, ⟨16, .callV [] (B r15), none⟩, ⟨18, .no, some (B false)⟩]) (rh := []) (ph := .raw) (ps := [Meets Try.prog 46 [(I p1.Thread), (I 0), (I 4)] (B r9), litA (B r9) = true, (B r9) = (B true), Meets Try.prog 46 [(I p1.Kind), (I 1), (I 12)] (B r11), litA (B r11) = true, (B r11) = (B true), Meets Try.prog 46 [(I p1.Obj), (I (-1)), (I 99)] (B r13), litA (B r13) = true, (B r13) = (B true), Meets Try.prog 46 [(I p1.Lock), (I (-1)), (I 99)] (B r15), litA (B r15) = true, (B r15) = (B false), (B false) = (B false), litA (B false) = true]) (by kernel_rfl) ⟨(spec_l1In_m hr9), rfl, (litB c10), (spec_l1In_m hr11), rfl, (litB c12), (spec_l1In_m hr13), rfl, (litB c14), (spec_l1In_m hr15), rfl, (litB c18), rfl, rfl, trivial⟩
      · have h := Option.some.inj h
        subst h
        exact go_ret hΘ hm hP hn (hs := [⟨2, .callV [] (B r9), none⟩, ⟨3, .no, some (B true)⟩, ⟨6, .callV [] (B r11), none⟩, ⟨8, .no, some (B true)⟩, ⟨11, .callV [] (B r13), none⟩, ⟨13, .no, some (B false)⟩]) (rh := []) (ph := .raw) (ps := [Meets Try.prog 46 [(I p1.Thread), (I 0), (I 4)] (B r9), litA (B r9) = true, (B r9) = (B true), Meets Try.prog 46 [(I p1.Kind), (I 1), (I 12)] (B r11), litA (B r11) = true, (B r11) = (B true), Meets Try.prog 46 [(I p1.Obj), (I (-1)), (I 99)] (B r13), litA (B r13) = true, (B r13) = (B false), (B false) = (B false), litA (B false) = true]) (by kernel_rfl) ⟨(spec_l1In_m hr9), rfl, (litB c10), (spec_l1In_m hr11), rfl, (litB c12), (spec_l1In_m hr13), rfl, (litB c19), rfl, rfl, trivial⟩
    · have h := Option.some.inj h
      subst h
      exact go_ret hΘ hm hP hn (hs := [⟨2, .callV [] (B r9), none⟩, ⟨3, .no, some (B true)⟩, ⟨6, .callV [] (B r11), none⟩, ⟨8, .no, some (B false)⟩]) (rh := []) (ph := .raw) (ps := [Meets Try.prog 46 [(I p1.Thread), (I 0), (I 4)] (B r9), litA (B r9) = true, (B r9) = (B true), Meets Try.prog 46 [(I p1.Kind), (I 1), (I 12)] (B r11), litA (B r11) = true, (B r11) = (B false), (B false) = (B false), litA (B false) = true]) (by kernel_rfl) ⟨(spec_l1In_m hr9), rfl, (litB c10), (spec_l1In_m hr11), rfl, (litB c20), rfl, rfl, trivial⟩
  · have h := Option.some.inj h
    subst h
    exact go_ret hΘ hm hP hn (hs := [⟨2, .callV [] (B r9), none⟩, ⟨3, .no, some (B false)⟩]) (rh := []) (ph := .raw) (ps := [Meets Try.prog 46 [(I p1.Thread), (I 0), (I 4)] (B r9), litA (B r9) = true, (B r9) = (B false), (B false) = (B false), litA (B false) = true]) (by kernel_rfl) ⟨(spec_l1In_m hr9), rfl, (litB c21), rfl, rfl, trivial⟩
noncomputable def spec_l6Event (p1 : GEvent) : Option Bool :=
  Option.bind (spec_l1In p1.Kind 2 10) fun r2 =>
  if r2 = true then
    if (decide (p1.Obj < 0)) = true then
      some false
    else
      if (p1.Kind == 8) = true then
        if (decide (p1.Lock < 0)) = true then
          some false
        else
          spec_l6Event_j0 p1
      else
        if (p1.Kind == 9) = true then
          if (decide (p1.Lock < 0)) = true then
            some false
          else
            spec_l6Event_j0 p1
        else
          spec_l6Event_j0 p1
  else
    if (p1.Kind == 8) = true then
      if (decide (p1.Lock < 0)) = true then
        some false
      else
        spec_l6Event_j0 p1
    else
      if (p1.Kind == 9) = true then
        if (decide (p1.Lock < 0)) = true then
          some false
        else
          spec_l6Event_j0 p1
      else
        spec_l6Event_j0 p1
theorem spec_l6Event_m {p1 : GEvent} {r : Bool} (h : spec_l6Event p1 = some r) : Meets Try.prog 33 [(AV.agg ((o40 p1)))] (B r) := by
  refine meets_ofC Θ_ok Try.func33 rfl (c := body33) (by kernel_rfl) (Nat.le_of_ble_eq_true rfl) ?_
  intro E hP hn hx
  replace hn : E.n = 49 := hn
  have hm : E.P.follows .mixedOrders = true := by rw [hP]; exact mixed
  have hΘ : TOK E.P Θ := by rw [hP]; exact Θ_ok
  unfold spec_l6Event at h
  show WAt E body33 (FQ (RetE Θ Try.f33.results.toList [] [] (B r) E)) [] ⟨[(0, (AV.agg ((o40 p1))))], [], [JJ]⟩
  obtain ⟨r2, hr2, h⟩ := bnS h
  rcases itS h with ⟨c3, h⟩ | ⟨c27, h⟩
  · rcases itS h with ⟨c4, h⟩ | ⟨c5, h⟩
    · have h := Option.some.inj h
      subst h
      exact go_ret hΘ hm hP hn (hs := [⟨0, .new 1001, none⟩, ⟨4, .callV [] (B r2), none⟩, ⟨5, .no, some (B true)⟩, ⟨10, .no, some (B true)⟩]) (rh := []) (ph := .raw) (ps := [Meets Try.prog 46 [(I p1.Kind), (I 2), (I 10)] (B r2), litA (B r2) = true, (B r2) = (B true), (B (decide (p1.Obj < 0))) = (B true), (B false) = (B false), litA (B false) = true]) (by kernel_rfl) ⟨(spec_l1In_m hr2), rfl, (litB c3), (litB c4), rfl, rfl, trivial⟩
    · rcases itS h with ⟨c6, h⟩ | ⟨c22, h⟩
      · rcases itS h with ⟨c7, h⟩ | ⟨c8, h⟩
        · have h := Option.some.inj h
          subst h
          exact go_ret hΘ hm hP hn (hs := [⟨0, .new 1001, none⟩, ⟨4, .callV [] (B r2), none⟩, ⟨5, .no, some (B true)⟩, ⟨10, .no, some (B false)⟩, ⟨14, .no, some (B true)⟩, ⟨25, .br true, none⟩]) (rh := []) (ph := .raw) (ps := [Meets Try.prog 46 [(I p1.Kind), (I 2), (I 10)] (B r2), litA (B r2) = true, (B r2) = (B true), (B (decide (p1.Obj < 0))) = (B false), (B (p1.Kind == 8)) = (B true), (decide (p1.Lock < 0)) = true, (B false) = (B false), litA (B false) = true]) (by kernel_rfl) ⟨(spec_l1In_m hr2), rfl, (litB c3), (litB c5), (litB c6), c7, rfl, rfl, trivial⟩
        · exact go_to hΘ hm hx hP hn (hs := [⟨0, .new 1001, none⟩, ⟨4, .callV [] (B r2), none⟩, ⟨5, .no, some (B true)⟩, ⟨10, .no, some (B false)⟩, ⟨14, .no, some (B true)⟩, ⟨25, .br false, none⟩]) (π := [(1001, 1)]) (ts := [1]) (kp := []) (ps := [Meets Try.prog 46 [(I p1.Kind), (I 2), (I 10)] (B r2), litA (B r2) = true, (B r2) = (B true), (B (decide (p1.Obj < 0))) = (B false), (B (p1.Kind == 8)) = (B true), (decide (p1.Lock < 0)) = false, RenOK [(1001, 1)] [((o40 p1))]]) (by kernel_rfl) ⟨(spec_l1In_m hr2), rfl, (litB c3), (litB c5), (litB c6), c8, (rok rfl), trivial⟩ (spec_l6Event_j0_m hP hn hx p1  _ h)
      · rcases itS h with ⟨c23, h⟩ | ⟨c26, h⟩
        · rcases itS h with ⟨c24, h⟩ | ⟨c25, h⟩
          · have h := Option.some.inj h
            subst h
            exact go_ret hΘ hm hP hn (hs := [⟨0, .new 1001, none⟩, ⟨4, .callV [] (B r2), none⟩, ⟨5, .no, some (B true)⟩, ⟨10, .no, some (B false)⟩, ⟨14, .no, some (B false)⟩, ⟨19, .no, some (B true)⟩, ⟨25, .br true, none⟩]) (rh := []) (ph := .raw) (ps := [Meets Try.prog 46 [(I p1.Kind), (I 2), (I 10)] (B r2), litA (B r2) = true, (B r2) = (B true), (B (decide (p1.Obj < 0))) = (B false), (B (p1.Kind == 8)) = (B false), (B (p1.Kind == 9)) = (B true), (decide (p1.Lock < 0)) = true, (B false) = (B false), litA (B false) = true]) (by kernel_rfl) ⟨(spec_l1In_m hr2), rfl, (litB c3), (litB c5), (litB c22), (litB c23), c24, rfl, rfl, trivial⟩
          · exact go_to hΘ hm hx hP hn (hs := [⟨0, .new 1001, none⟩, ⟨4, .callV [] (B r2), none⟩, ⟨5, .no, some (B true)⟩, ⟨10, .no, some (B false)⟩, ⟨14, .no, some (B false)⟩, ⟨19, .no, some (B true)⟩, ⟨25, .br false, none⟩]) (π := [(1001, 1)]) (ts := [1]) (kp := []) (ps := [Meets Try.prog 46 [(I p1.Kind), (I 2), (I 10)] (B r2), litA (B r2) = true, (B r2) = (B true), (B (decide (p1.Obj < 0))) = (B false), (B (p1.Kind == 8)) = (B false), (B (p1.Kind == 9)) = (B true), (decide (p1.Lock < 0)) = false, RenOK [(1001, 1)] [((o40 p1))]]) (by kernel_rfl) ⟨(spec_l1In_m hr2), rfl, (litB c3), (litB c5), (litB c22), (litB c23), c25, (rok rfl), trivial⟩ (spec_l6Event_j0_m hP hn hx p1  _ h)
        · exact go_to hΘ hm hx hP hn (hs := [⟨0, .new 1001, none⟩, ⟨4, .callV [] (B r2), none⟩, ⟨5, .no, some (B true)⟩, ⟨10, .no, some (B false)⟩, ⟨14, .no, some (B false)⟩, ⟨19, .no, some (B false)⟩]) (π := [(1001, 1)]) (ts := [1]) (kp := []) (ps := [Meets Try.prog 46 [(I p1.Kind), (I 2), (I 10)] (B r2), litA (B r2) = true, (B r2) = (B true), (B (decide (p1.Obj < 0))) = (B false), (B (p1.Kind == 8)) = (B false), (B (p1.Kind == 9)) = (B false), RenOK [(1001, 1)] [((o40 p1))]]) (by kernel_rfl) ⟨(spec_l1In_m hr2), rfl, (litB c3), (litB c5), (litB c22), (litB c26), (rok rfl), trivial⟩ (spec_l6Event_j0_m hP hn hx p1  _ h)
  · rcases itS h with ⟨c28, h⟩ | ⟨c31, h⟩
    · rcases itS h with ⟨c29, h⟩ | ⟨c30, h⟩
      · have h := Option.some.inj h
        subst h
        exact go_ret hΘ hm hP hn (hs := [⟨0, .new 1001, none⟩, ⟨4, .callV [] (B r2), none⟩, ⟨5, .no, some (B false)⟩, ⟨14, .no, some (B true)⟩, ⟨25, .br true, none⟩]) (rh := []) (ph := .raw) (ps := [Meets Try.prog 46 [(I p1.Kind), (I 2), (I 10)] (B r2), litA (B r2) = true, (B r2) = (B false), (B (p1.Kind == 8)) = (B true), (decide (p1.Lock < 0)) = true, (B false) = (B false), litA (B false) = true]) (by kernel_rfl) ⟨(spec_l1In_m hr2), rfl, (litB c27), (litB c28), c29, rfl, rfl, trivial⟩
      · exact go_to hΘ hm hx hP hn (hs := [⟨0, .new 1001, none⟩, ⟨4, .callV [] (B r2), none⟩, ⟨5, .no, some (B false)⟩, ⟨14, .no, some (B true)⟩, ⟨25, .br false, none⟩]) (π := [(1001, 1)]) (ts := [1]) (kp := []) (ps := [Meets Try.prog 46 [(I p1.Kind), (I 2), (I 10)] (B r2), litA (B r2) = true, (B r2) = (B false), (B (p1.Kind == 8)) = (B true), (decide (p1.Lock < 0)) = false, RenOK [(1001, 1)] [((o40 p1))]]) (by kernel_rfl) ⟨(spec_l1In_m hr2), rfl, (litB c27), (litB c28), c30, (rok rfl), trivial⟩ (spec_l6Event_j0_m hP hn hx p1  _ h)
    · rcases itS h with ⟨c32, h⟩ | ⟨c35, h⟩
      · rcases itS h with ⟨c33, h⟩ | ⟨c34, h⟩
        · have h := Option.some.inj h
          subst h
          exact go_ret hΘ hm hP hn (hs := [⟨0, .new 1001, none⟩, ⟨4, .callV [] (B r2), none⟩, ⟨5, .no, some (B false)⟩, ⟨14, .no, some (B false)⟩, ⟨19, .no, some (B true)⟩, ⟨25, .br true, none⟩]) (rh := []) (ph := .raw) (ps := [Meets Try.prog 46 [(I p1.Kind), (I 2), (I 10)] (B r2), litA (B r2) = true, (B r2) = (B false), (B (p1.Kind == 8)) = (B false), (B (p1.Kind == 9)) = (B true), (decide (p1.Lock < 0)) = true, (B false) = (B false), litA (B false) = true]) (by kernel_rfl) ⟨(spec_l1In_m hr2), rfl, (litB c27), (litB c31), (litB c32), c33, rfl, rfl, trivial⟩
        · exact go_to hΘ hm hx hP hn (hs := [⟨0, .new 1001, none⟩, ⟨4, .callV [] (B r2), none⟩, ⟨5, .no, some (B false)⟩, ⟨14, .no, some (B false)⟩, ⟨19, .no, some (B true)⟩, ⟨25, .br false, none⟩]) (π := [(1001, 1)]) (ts := [1]) (kp := []) (ps := [Meets Try.prog 46 [(I p1.Kind), (I 2), (I 10)] (B r2), litA (B r2) = true, (B r2) = (B false), (B (p1.Kind == 8)) = (B false), (B (p1.Kind == 9)) = (B true), (decide (p1.Lock < 0)) = false, RenOK [(1001, 1)] [((o40 p1))]]) (by kernel_rfl) ⟨(spec_l1In_m hr2), rfl, (litB c27), (litB c31), (litB c32), c34, (rok rfl), trivial⟩ (spec_l6Event_j0_m hP hn hx p1  _ h)
      · exact go_to hΘ hm hx hP hn (hs := [⟨0, .new 1001, none⟩, ⟨4, .callV [] (B r2), none⟩, ⟨5, .no, some (B false)⟩, ⟨14, .no, some (B false)⟩, ⟨19, .no, some (B false)⟩]) (π := [(1001, 1)]) (ts := [1]) (kp := []) (ps := [Meets Try.prog 46 [(I p1.Kind), (I 2), (I 10)] (B r2), litA (B r2) = true, (B r2) = (B false), (B (p1.Kind == 8)) = (B false), (B (p1.Kind == 9)) = (B false), RenOK [(1001, 1)] [((o40 p1))]]) (by kernel_rfl) ⟨(spec_l1In_m hr2), rfl, (litB c27), (litB c31), (litB c35), (rok rfl), trivial⟩ (spec_l6Event_j0_m hP hn hx p1  _ h)
noncomputable def body16 : Code := match Try.f16.body with | some c => c | none => .skip
noncomputable def spec_l6Trace_l0  (p1 : (List GEvent)) : Nat → Int → Option Bool
  | 0, _ => none
  | n + 1, v2 =>
  if (decide (v2 < (p1.length : Int))) = true then
    Option.bind (rd p1 v2) fun x4 =>
    Option.bind (spec_l6Event x4) fun r5 =>
    if (!r5) = true then
      some false
    else
      spec_l6Trace_l0 p1 n (w64 (v2 + 1))
  else
    some (decide ((p1.length : Int) ≤ 200))
theorem spec_l6Trace_l0_m {E : Env} (hP : E.P = Try.prog) (hn : E.n = 18) (hx : ∀ p, p ∈ E.fx → p.1 ∈ ([] : List Nat)) (p1 : (List GEvent))  : ∀ (n : Nat) (v2 : Int) (r : Bool), spec_l6Trace_l0 p1 n v2 = some r → WAt E body16 (FQ (RetE Θ Try.f16.results.toList [] [] (B r) E)) [true, false, true, false] ⟨[(0, (AV.ro 5 (p1.map o40))), (5, (AV.ro 5 (p1.map o40))), (6, (I (p1.length : Int))), (7, (I v2))], [], [JJ]⟩ := by
  have hm : E.P.follows .mixedOrders = true := by rw [hP]; exact mixed
  have hΘ : TOK E.P Θ := by rw [hP]; exact Θ_ok
  intro n
  induction n with
  | zero => intro v2 r h; simp only [spec_l6Trace_l0] at h; cases h
  | succ n ih =>
    intro v2 r h
    simp only [spec_l6Trace_l0] at h
    rcases itS h with ⟨c3, h⟩ | ⟨c8, h⟩
    · obtain ⟨x4, hx4, h⟩ := bnS h
      obtain ⟨r5, hr5, h⟩ := bnS h
      rcases itS h with ⟨c6, h⟩ | ⟨c7, h⟩
      · have h := Option.some.inj h
        subst h
        exact go_ret hΘ hm hP hn (hs := [⟨1, .br true, none⟩, ⟨2, .row (o40 x4), none⟩, ⟨4, .new 1001, none⟩, ⟨7, .callV [[]] (B r5), none⟩, ⟨9, .br true, none⟩]) (rh := []) (ph := .raw) (ps := [(decide (v2 < (p1.length : Int))) = true, (0 : Int) ≤ v2, (p1.map o40)[(Int.toNat v2)]? = some (o40 x4), Meets Try.prog 33 [(AV.agg ((o40 x4)))] (B r5), litA (B r5) = true, (!r5) = true, (B false) = (B false), litA (B false) = true]) (by kernel_rfl) ⟨c3, (rd0 hx4), (rdM o40 hx4), (spec_l6Event_m hr5), rfl, c6, rfl, rfl, trivial⟩
      · exact go_to hΘ hm hx hP hn (hs := [⟨1, .br true, none⟩, ⟨2, .row (o40 x4), none⟩, ⟨4, .new 1001, none⟩, ⟨7, .callV [[]] (B r5), none⟩, ⟨9, .br false, none⟩]) (π := []) (ts := [0, 5, 6, 7]) (kp := []) (ps := [(decide (v2 < (p1.length : Int))) = true, (0 : Int) ≤ v2, (p1.map o40)[(Int.toNat v2)]? = some (o40 x4), Meets Try.prog 33 [(AV.agg ((o40 x4)))] (B r5), litA (B r5) = true, (!r5) = false]) (by kernel_rfl) ⟨c3, (rd0 hx4), (rdM o40 hx4), (spec_l6Event_m hr5), rfl, c7, trivial⟩ (ih (w64 (v2 + 1)) _ h)
    · have h := Option.some.inj h
      subst h
      exact go_ret hΘ hm hP hn (hs := [⟨1, .br false, none⟩, ⟨3, .no, some (I (p1.length : Int))⟩]) (rh := []) (ph := .raw) (ps := [(decide (v2 < (p1.length : Int))) = false, AV.lit (.int .i64 (((p1.map o40).length : Nat) : Int)) = (I (p1.length : Int)), (B (decide ((p1.length : Int) ≤ 200))) = (B (decide ((p1.length : Int) ≤ 200))), litA (B (decide ((p1.length : Int) ≤ 200))) = true]) (by kernel_rfl) ⟨c8, (lenM o40), rfl, rfl, trivial⟩
noncomputable def spec_l6Trace (p1 : (List GEvent)) : Option Bool :=
  spec_l6Trace_l0 p1 FU 0
theorem spec_l6Trace_m {p1 : (List GEvent)} {r : Bool} (h : spec_l6Trace p1 = some r) : Meets Try.prog 16 [(AV.ro 5 (p1.map o40))] (B r) := by
  refine meets_ofC Θ_ok Try.func16 rfl (c := body16) (by kernel_rfl) (Nat.le_of_ble_eq_true rfl) ?_
  intro E hP hn hx
  replace hn : E.n = 18 := hn
  have hm : E.P.follows .mixedOrders = true := by rw [hP]; exact mixed
  have hΘ : TOK E.P Θ := by rw [hP]; exact Θ_ok
  unfold spec_l6Trace at h
  show WAt E body16 (FQ (RetE Θ Try.f16.results.toList [] [] (B r) E)) [] ⟨[(0, (AV.ro 5 (p1.map o40)))], [], [JJ]⟩
  exact go_to hΘ hm hx hP hn (hs := [⟨2, .no, some (I (p1.length : Int))⟩]) (π := []) (ts := [0, 5, 6, 7]) (kp := []) (ps := [AV.lit (.int .i64 (((p1.map o40).length : Nat) : Int)) = (I (p1.length : Int))]) (by kernel_rfl) ⟨(lenM o40), trivial⟩ (spec_l6Trace_l0_m hP hn hx p1 FU 0 _ h)
noncomputable def body19 : Code := match Try.f19.body with | some c => c | none => .skip
noncomputable def spec_l7Find_l0  (p1 : (List Gl7Cell)) (p2 : Int) : Nat → Int → Option Int
  | 0, _ => none
  | n + 1, v3 =>
  if (decide (v3 < (p1.length : Int))) = true then
    Option.bind (rd p1 v3) fun x5 =>
    if (x5.cell == p2) = true then
      some v3
    else
      spec_l7Find_l0 p1 p2 n (w64 (v3 + 1))
  else
    some (-1)
theorem spec_l7Find_l0_m {E : Env} (hP : E.P = Try.prog) (hn : E.n = 20) (hx : ∀ p, p ∈ E.fx → p.1 ∈ ([] : List Nat)) (p1 : (List Gl7Cell)) (p2 : Int)  : ∀ (n : Nat) (v3 : Int) (r : Int), spec_l7Find_l0 p1 p2 n v3 = some r → WAt E body19 (FQ (RetE Θ Try.f19.results.toList [] [] (I r) E)) [true, false, true, false] ⟨[(1, (I p2)), (7, (AV.ro 4 (p1.map r45))), (8, (I (p1.length : Int))), (9, (I v3))], [], [JJ]⟩ := by
  have hm : E.P.follows .mixedOrders = true := by rw [hP]; exact mixed
  have hΘ : TOK E.P Θ := by rw [hP]; exact Θ_ok
  intro n
  induction n with
  | zero => intro v3 r h; simp only [spec_l7Find_l0] at h; cases h
  | succ n ih =>
    intro v3 r h
    simp only [spec_l7Find_l0] at h
    rcases itS h with ⟨c4, h⟩ | ⟨c8, h⟩
    · obtain ⟨x5, hx5, h⟩ := bnS h
      rcases itS h with ⟨c6, h⟩ | ⟨c7, h⟩
      · have h := Option.some.inj h
        subst h
        exact go_ret hΘ hm hP hn (hs := [⟨1, .br true, none⟩, ⟨3, .row (r45 x5), none⟩, ⟨5, .new 1001, none⟩, ⟨12, .br true, none⟩]) (rh := []) (ph := .raw) (ps := [(decide (v3 < (p1.length : Int))) = true, (0 : Int) ≤ v3, (p1.map r45)[(Int.toNat v3)]? = some (r45 x5), (x5.cell == p2) = true, (I v3) = (I v3), litA (I v3) = true]) (by kernel_rfl) ⟨c4, (rd0 hx5), (rdM r45 hx5), c6, rfl, rfl, trivial⟩
      · exact go_to hΘ hm hx hP hn (hs := [⟨1, .br true, none⟩, ⟨3, .row (r45 x5), none⟩, ⟨5, .new 1001, none⟩, ⟨12, .br false, none⟩]) (π := []) (ts := [1, 7, 8, 9]) (kp := []) (ps := [(decide (v3 < (p1.length : Int))) = true, (0 : Int) ≤ v3, (p1.map r45)[(Int.toNat v3)]? = some (r45 x5), (x5.cell == p2) = false]) (by kernel_rfl) ⟨c4, (rd0 hx5), (rdM r45 hx5), c7, trivial⟩ (ih (w64 (v3 + 1)) _ h)
    · have h := Option.some.inj h
      subst h
      exact go_ret hΘ hm hP hn (hs := [⟨1, .br false, none⟩]) (rh := []) (ph := .raw) (ps := [(decide (v3 < (p1.length : Int))) = false, (I (-1)) = (I (-1)), litA (I (-1)) = true]) (by kernel_rfl) ⟨c8, rfl, rfl, trivial⟩
noncomputable def spec_l7Find (p1 : (List Gl7Cell)) (p2 : Int) : Option Int :=
  spec_l7Find_l0 p1 p2 FU 0
theorem spec_l7Find_m {p1 : (List Gl7Cell)} {p2 : Int} {r : Int} (h : spec_l7Find p1 p2 = some r) : Meets Try.prog 19 [(AV.ro 4 (p1.map r45)), (I p2)] (I r) := by
  refine meets_ofC Θ_ok Try.func19 rfl (c := body19) (by kernel_rfl) (Nat.le_of_ble_eq_true rfl) ?_
  intro E hP hn hx
  replace hn : E.n = 20 := hn
  have hm : E.P.follows .mixedOrders = true := by rw [hP]; exact mixed
  have hΘ : TOK E.P Θ := by rw [hP]; exact Θ_ok
  unfold spec_l7Find at h
  show WAt E body19 (FQ (RetE Θ Try.f19.results.toList [] [] (I r) E)) [] ⟨[(0, (AV.ro 4 (p1.map r45))), (1, (I p2))], [], [JJ]⟩
  exact go_to hΘ hm hx hP hn (hs := [⟨2, .no, some (I (p1.length : Int))⟩]) (π := []) (ts := [1, 7, 8, 9]) (kp := []) (ps := [AV.lit (.int .i64 (((p1.map r45).length : Nat) : Int)) = (I (p1.length : Int))]) (by kernel_rfl) ⟨(lenM r45), trivial⟩ (spec_l7Find_l0_m hP hn hx p1 p2 FU 0 _ h)
noncomputable def body18 : Code := match Try.f18.body with | some c => c | none => .skip
noncomputable def spec_l7Touch (p1 : GEvent) : Option Bool :=
  if (p1.Kind == 2) = true then
    some true
  else
    some (p1.Kind == 3)
theorem spec_l7Touch_m {p1 : GEvent} {r : Bool} (h : spec_l7Touch p1 = some r) : Meets Try.prog 18 [(AV.agg ((o40 p1)))] (B r) := by
  refine meets_ofC Θ_ok Try.func18 rfl (c := body18) (by kernel_rfl) (Nat.le_of_ble_eq_true rfl) ?_
  intro E hP hn hx
  replace hn : E.n = 11 := hn
  have hm : E.P.follows .mixedOrders = true := by rw [hP]; exact mixed
  have hΘ : TOK E.P Θ := by rw [hP]; exact Θ_ok
  unfold spec_l7Touch at h
  show WAt E body18 (FQ (RetE Θ Try.f18.results.toList [] [] (B r) E)) [] ⟨[(0, (AV.agg ((o40 p1))))], [], [JJ]⟩
  rcases itS h with ⟨c2, h⟩ | ⟨c3, h⟩
  · have h := Option.some.inj h
    subst h
    exact go_ret hΘ hm hP hn (hs := [⟨0, .new 1001, none⟩, ⟨5, .no, some (B true)⟩]) (rh := []) (ph := .raw) (ps := [(B (p1.Kind == 2)) = (B true), (B true) = (B true), litA (B true) = true]) (by kernel_rfl) ⟨(litB c2), rfl, rfl, trivial⟩
  · have h := Option.some.inj h
    subst h
    exact go_ret hΘ hm hP hn (hs := [⟨0, .new 1001, none⟩, ⟨5, .no, some (B false)⟩]) (rh := []) (ph := .raw) (ps := [(B (p1.Kind == 2)) = (B false), (B (p1.Kind == 3)) = (B (p1.Kind == 3)), litA (B (p1.Kind == 3)) = true]) (by kernel_rfl) ⟨(litB c3), rfl, rfl, trivial⟩
end Go.Proofs.Ythhcnmideecfpaa
