/- Functions as plain data, and that the code comes to them; no condition. -/

import Derived.Test.YthhcnmideecfpaaGT
set_option linter.unusedVariables false
set_option maxRecDepth 100000
namespace Go.Proofs.Ythhcnmideecfpaa
open Go Go.T
noncomputable def body23 : Code := match Try.f23.body with | some c => c | none => .skip
noncomputable def impl_Event_touches (p1 : GEvent) : Option Bool :=
  if (p1.Kind == 2) = true then
    some true
  else
    some (p1.Kind == 3)
theorem impl_Event_touches_m {p1 : GEvent} {r : Bool} (h : impl_Event_touches p1 = some r) : Meets Try.prog 23 [(AV.agg ((o40 p1)))] (B r) := by
  refine meets_ofC Θ_ok Try.func23 rfl (c := body23) (by kernel_rfl) (Nat.le_of_ble_eq_true rfl) ?_
  intro E hP hn hx
  replace hn : E.n = 11 := hn
  have hm : E.P.follows .mixedOrders = true := by rw [hP]; exact mixed
  have hΘ : TOK E.P Θ := by rw [hP]; exact Θ_ok
  unfold impl_Event_touches at h
  show WAt E body23 (FQ (RetE Θ Try.f23.results.toList [] [] (B r) E)) [] ⟨[(0, (AV.agg ((o40 p1))))], [], [JJ]⟩
  rcases itS h with ⟨c2, h⟩ | ⟨c3, h⟩
  · have h := Option.some.inj h
    subst h
    exact go_ret hΘ hm hP hn (hs := [⟨0, .new 1001, none⟩, ⟨5, .no, some (B true)⟩]) (rh := []) (ph := .raw) (ps := [(B (p1.Kind == 2)) = (B true), (B true) = (B true), litA (B true) = true]) (by kernel_rfl) ⟨(litB c2), rfl, rfl, trivial⟩
  · have h := Option.some.inj h
    subst h
    exact go_ret hΘ hm hP hn (hs := [⟨0, .new 1001, none⟩, ⟨5, .no, some (B false)⟩]) (rh := []) (ph := .raw) (ps := [(B (p1.Kind == 2)) = (B false), (B (p1.Kind == 3)) = (B (p1.Kind == 3)), litA (B (p1.Kind == 3)) = true]) (by kernel_rfl) ⟨(litB c3), rfl, rfl, trivial⟩
noncomputable def body49 : Code := match Try.f49.body with | some c => c | none => .skip
noncomputable def impl_in (p1 : Int) (p2 : Int) (p3 : Int) : Option Bool :=
  if (decide (p2 ≤ p1)) = true then
    some (decide (p1 ≤ p3))
  else
    some false
theorem impl_in_m {p1 : Int} {p2 : Int} {p3 : Int} {r : Bool} (h : impl_in p1 p2 p3 = some r) : Meets Try.prog 49 [(I p1), (I p2), (I p3)] (B r) := by
  refine meets_ofC Θ_ok Try.func49 rfl (c := body49) (by kernel_rfl) (Nat.le_of_ble_eq_true rfl) ?_
  intro E hP hn hx
  replace hn : E.n = 15 := hn
  have hm : E.P.follows .mixedOrders = true := by rw [hP]; exact mixed
  have hΘ : TOK E.P Θ := by rw [hP]; exact Θ_ok
  unfold impl_in at h
  show WAt E body49 (FQ (RetE Θ Try.f49.results.toList [] [] (B r) E)) [] ⟨[(0, (I p1)), (1, (I p2)), (2, (I p3))], [], [JJ]⟩
  rcases itS h with ⟨c4, h⟩ | ⟨c5, h⟩
  · have h := Option.some.inj h
    subst h
    exact go_ret hΘ hm hP hn (hs := [⟨4, .no, some (B true)⟩]) (rh := []) (ph := .raw) (ps := [(B (decide (p2 ≤ p1))) = (B true), (B (decide (p1 ≤ p3))) = (B (decide (p1 ≤ p3))), litA (B (decide (p1 ≤ p3))) = true]) (by kernel_rfl) ⟨(litB c4), rfl, rfl, trivial⟩
  · have h := Option.some.inj h
    subst h
    exact go_ret hΘ hm hP hn (hs := [⟨4, .no, some (B false)⟩]) (rh := []) (ph := .raw) (ps := [(B (decide (p2 ≤ p1))) = (B false), (B false) = (B false), litA (B false) = true]) (by kernel_rfl) ⟨(litB c5), rfl, rfl, trivial⟩
noncomputable def body37 : Code := match Try.f37.body with | some c => c | none => .skip
noncomputable def impl_Event_isGood_j0  (p1 : GEvent)  : Option Bool :=
  if (decide (p1.Obj ≥ 0)) = true then
    if (decide (p1.Lock ≥ 0)) = true then
      some true
    else
      if (p1.Kind != 8) = true then
        some (p1.Kind != 9)
      else
        some false
  else
    Option.bind (impl_in p1.Kind 2 10) fun r23 =>
    if (!r23) = true then
      if (decide (p1.Lock ≥ 0)) = true then
        some true
      else
        if (p1.Kind != 8) = true then
          some (p1.Kind != 9)
        else
          some false
    else
      some false
theorem impl_Event_isGood_j0_m {E : Env} (hP : E.P = Try.prog) (hn : E.n = 55) (hx : ∀ p, p ∈ E.fx → p.1 ∈ ([] : List Nat)) (p1 : GEvent)   (r : Bool) (h : impl_Event_isGood_j0 p1  = some r) : WAt E body37 (FQ (RetE Θ Try.f37.results.toList [] [] (B r) E)) [true, false, true, true] ⟨[(1, (AV.ptr 1 0 0))], [(1, some ⟨40, 5, [((o40 p1))]⟩)], [1, JJ]⟩ := by
  have hm : E.P.follows .mixedOrders = true := by rw [hP]; exact mixed
  have hΘ : TOK E.P Θ := by rw [hP]; exact Θ_ok
  unfold impl_Event_isGood_j0 at h
  rcases itS h with ⟨c17, h⟩ | ⟨c22, h⟩
  · rcases itS h with ⟨c18, h⟩ | ⟨c19, h⟩
    · have h := Option.some.inj h
      subst h
      exact go_ret hΘ hm hP hn (hs := [⟨3, .no, some (B true)⟩, ⟨13, .no, some (B true)⟩]) (rh := []) (ph := .raw) (ps := [(B (decide (p1.Obj ≥ 0))) = (B true), (B (decide (p1.Lock ≥ 0))) = (B true), (B true) = (B true), litA (B true) = true]) (by kernel_rfl) ⟨(litB c17), (litB c18), rfl, rfl, trivial⟩
    · rcases itS h with ⟨c20, h⟩ | ⟨c21, h⟩
      · have h := Option.some.inj h
        subst h
        exact go_ret hΘ hm hP hn (hs := [⟨3, .no, some (B true)⟩, ⟨13, .no, some (B false)⟩, ⟨17, .no, some (B true)⟩]) (rh := []) (ph := .raw) (ps := [(B (decide (p1.Obj ≥ 0))) = (B true), (B (decide (p1.Lock ≥ 0))) = (B false), (B (p1.Kind != 8)) = (B true), (B (p1.Kind != 9)) = (B (p1.Kind != 9)), litA (B (p1.Kind != 9)) = true]) (by kernel_rfl) ⟨(litB c17), (litB c19), (litB c20), rfl, rfl, trivial⟩
      · have h := Option.some.inj h
        subst h
        exact go_ret hΘ hm hP hn (hs := [⟨3, .no, some (B true)⟩, ⟨13, .no, some (B false)⟩, ⟨17, .no, some (B false)⟩]) (rh := []) (ph := .raw) (ps := [(B (decide (p1.Obj ≥ 0))) = (B true), (B (decide (p1.Lock ≥ 0))) = (B false), (B (p1.Kind != 8)) = (B false), (B false) = (B false), litA (B false) = true]) (by kernel_rfl) ⟨(litB c17), (litB c19), (litB c21), rfl, rfl, trivial⟩
  · obtain ⟨r23, hr23, h⟩ := bnS h
    rcases itS h with ⟨c24, h⟩ | ⟨c29, h⟩
    · rcases itS h with ⟨c25, h⟩ | ⟨c26, h⟩
      · have h := Option.some.inj h
        subst h
        exact go_ret hΘ hm hP hn (hs := [⟨3, .no, some (B false)⟩, ⟨6, .callV [] (B r23), none⟩, ⟨9, .no, some (B true)⟩, ⟨13, .no, some (B true)⟩]) (rh := []) (ph := .raw) (ps := [(B (decide (p1.Obj ≥ 0))) = (B false), Meets Try.prog 49 [(I p1.Kind), (I 2), (I 10)] (B r23), litA (B r23) = true, (B (!r23)) = (B true), (B (decide (p1.Lock ≥ 0))) = (B true), (B true) = (B true), litA (B true) = true]) (by kernel_rfl) ⟨(litB c22), (impl_in_m hr23), rfl, (litB c24), (litB c25), rfl, rfl, trivial⟩
      · rcases itS h with ⟨c27, h⟩ | ⟨c28, h⟩
        · have h := Option.some.inj h
          subst h
          exact go_ret hΘ hm hP hn (hs := [⟨3, .no, some (B false)⟩, ⟨6, .callV [] (B r23), none⟩, ⟨9, .no, some (B true)⟩, ⟨13, .no, some (B false)⟩, ⟨17, .no, some (B true)⟩]) (rh := []) (ph := .raw) (ps := [(B (decide (p1.Obj ≥ 0))) = (B false), Meets Try.prog 49 [(I p1.Kind), (I 2), (I 10)] (B r23), litA (B r23) = true, (B (!r23)) = (B true), (B (decide (p1.Lock ≥ 0))) = (B false), (B (p1.Kind != 8)) = (B true), (B (p1.Kind != 9)) = (B (p1.Kind != 9)), litA (B (p1.Kind != 9)) = true]) (by kernel_rfl) ⟨(litB c22), (impl_in_m hr23), rfl, (litB c24), (litB c26), (litB c27), rfl, rfl, trivial⟩
        · have h := Option.some.inj h
          subst h
          exact go_ret hΘ hm hP hn (hs := [⟨3, .no, some (B false)⟩, ⟨6, .callV [] (B r23), none⟩, ⟨9, .no, some (B true)⟩, ⟨13, .no, some (B false)⟩, ⟨17, .no, some (B false)⟩]) (rh := []) (ph := .raw) (ps := [(B (decide (p1.Obj ≥ 0))) = (B false), Meets Try.prog 49 [(I p1.Kind), (I 2), (I 10)] (B r23), litA (B r23) = true, (B (!r23)) = (B true), (B (decide (p1.Lock ≥ 0))) = (B false), (B (p1.Kind != 8)) = (B false), (B false) = (B false), litA (B false) = true]) (by kernel_rfl) ⟨(litB c22), (impl_in_m hr23), rfl, (litB c24), (litB c26), (litB c28), rfl, rfl, trivial⟩
    · have h := Option.some.inj h
      subst h
      exact go_ret hΘ hm hP hn (hs := [⟨3, .no, some (B false)⟩, ⟨6, .callV [] (B r23), none⟩, ⟨9, .no, some (B false)⟩]) (rh := []) (ph := .raw) (ps := [(B (decide (p1.Obj ≥ 0))) = (B false), Meets Try.prog 49 [(I p1.Kind), (I 2), (I 10)] (B r23), litA (B r23) = true, (B (!r23)) = (B false), (B false) = (B false), litA (B false) = true]) (by kernel_rfl) ⟨(litB c22), (impl_in_m hr23), rfl, (litB c29), rfl, rfl, trivial⟩
noncomputable def impl_Event_isGood (p1 : GEvent) : Option Bool :=
  Option.bind (impl_in p1.Thread 0 4) fun r2 =>
  if (!r2) = true then
    some false
  else
    Option.bind (impl_in p1.Kind 1 12) fun r5 =>
    if (!r5) = true then
      some false
    else
      Option.bind (impl_in p1.Obj (-1) 99) fun r8 =>
      if (!r8) = true then
        some false
      else
        Option.bind (impl_in p1.Lock (-1) 99) fun r11 =>
        if (!r11) = true then
          some false
        else
          Option.bind (impl_in p1.Pc 0 99) fun r14 =>
          if (!r14) = true then
            some false
          else
            impl_Event_isGood_j0 p1
theorem impl_Event_isGood_m {p1 : GEvent} {r : Bool} (h : impl_Event_isGood p1 = some r) : Meets Try.prog 37 [(AV.agg ((o40 p1)))] (B r) := by
  refine meets_ofC Θ_ok Try.func37 rfl (c := body37) (by kernel_rfl) (Nat.le_of_ble_eq_true rfl) ?_
  intro E hP hn hx
  replace hn : E.n = 55 := hn
  have hm : E.P.follows .mixedOrders = true := by rw [hP]; exact mixed
  have hΘ : TOK E.P Θ := by rw [hP]; exact Θ_ok
  unfold impl_Event_isGood at h
  show WAt E body37 (FQ (RetE Θ Try.f37.results.toList [] [] (B r) E)) [] ⟨[(0, (AV.agg ((o40 p1))))], [], [JJ]⟩
  obtain ⟨r2, hr2, h⟩ := bnS h
  rcases itS h with ⟨c3, h⟩ | ⟨c4, h⟩
  · have h := Option.some.inj h
    subst h
    exact go_ret hΘ hm hP hn (hs := [⟨0, .new 1001, none⟩, ⟨4, .callV [] (B r2), none⟩, ⟨6, .no, some (B true)⟩]) (rh := []) (ph := .raw) (ps := [Meets Try.prog 49 [(I p1.Thread), (I 0), (I 4)] (B r2), litA (B r2) = true, (B (!r2)) = (B true), (B false) = (B false), litA (B false) = true]) (by kernel_rfl) ⟨(impl_in_m hr2), rfl, (litB c3), rfl, rfl, trivial⟩
  · obtain ⟨r5, hr5, h⟩ := bnS h
    rcases itS h with ⟨c6, h⟩ | ⟨c7, h⟩
    · have h := Option.some.inj h
      subst h
      exact go_ret hΘ hm hP hn (hs := [⟨0, .new 1001, none⟩, ⟨4, .callV [] (B r2), none⟩, ⟨6, .no, some (B false)⟩, ⟨9, .callV [] (B r5), none⟩, ⟨12, .no, some (B true)⟩]) (rh := []) (ph := .raw) (ps := [Meets Try.prog 49 [(I p1.Thread), (I 0), (I 4)] (B r2), litA (B r2) = true, (B (!r2)) = (B false), Meets Try.prog 49 [(I p1.Kind), (I 1), (I 12)] (B r5), litA (B r5) = true, (B (!r5)) = (B true), (B false) = (B false), litA (B false) = true]) (by kernel_rfl) ⟨(impl_in_m hr2), rfl, (litB c4), (impl_in_m hr5), rfl, (litB c6), rfl, rfl, trivial⟩
    · obtain ⟨r8, hr8, h⟩ := bnS h
      rcases itS h with ⟨c9, h⟩ | ⟨c10, h⟩
      · have h := Option.some.inj h
        subst h
        exact go_ret hΘ hm hP hn (hs := [⟨0, .new 1001, none⟩, ⟨4, .callV [] (B r2), none⟩, ⟨6, .no, some (B false)⟩, ⟨9, .callV [] (B r5), none⟩, ⟨12, .no, some (B false)⟩, ⟨15, .callV [] (B r8), none⟩, ⟨18, .no, some (B true)⟩]) (rh := []) (ph := .raw) (ps := [Meets Try.prog 49 [(I p1.Thread), (I 0), (I 4)] (B r2), litA (B r2) = true, (B (!r2)) = (B false), Meets Try.prog 49 [(I p1.Kind), (I 1), (I 12)] (B r5), litA (B r5) = true, (B (!r5)) = (B false), Meets Try.prog 49 [(I p1.Obj), (I (-1)), (I 99)] (B r8), litA (B r8) = true, (B (!r8)) = (B true), (B false) = (B false), litA (B false) = true]) (by kernel_rfl) ⟨(impl_in_m hr2), rfl, (litB c4), (impl_in_m hr5), rfl, (litB c7), (impl_in_m hr8), rfl, (litB c9), rfl, rfl, trivial⟩
      · obtain ⟨r11, hr11, h⟩ := bnS h
        rcases itS h with ⟨c12, h⟩ | ⟨c13, h⟩
        · have h := Option.some.inj h
          subst h
          exact go_ret hΘ hm hP hn (hs := [⟨0, .new 1001, none⟩, ⟨4, .callV [] (B r2), none⟩, ⟨6, .no, some (B false)⟩, ⟨9, .callV [] (B r5), none⟩, ⟨12, .no, some (B false)⟩, ⟨15, .callV [] (B r8), none⟩, ⟨18, .no, some (B false)⟩, ⟨21, .callV [] (B r11), none⟩, ⟨24, .no, some (B true)⟩]) (rh := []) (ph := .raw) (ps := [Meets Try.prog 49 [(I p1.Thread), (I 0), (I 4)] (B r2), litA (B r2) = true, (B (!r2)) = (B false), Meets Try.prog 49 [(I p1.Kind), (I 1), (I 12)] (B r5), litA (B r5) = true, (B (!r5)) = (B false), Meets Try.prog 49 [(I p1.Obj), (I (-1)), (I 99)] (B r8), litA (B r8) = true, (B (!r8)) = (B false), Meets Try.prog 49 [(I p1.Lock), (I (-1)), (I 99)] (B r11), litA (B r11) = true, (B (!r11)) = (B true), (B false) = (B false), litA (B false) = true]) (by kernel_rfl) ⟨(impl_in_m hr2), rfl, (litB c4), (impl_in_m hr5), rfl, (litB c7), (impl_in_m hr8), rfl, (litB c10), (impl_in_m hr11), rfl, (litB c12), rfl, rfl, trivial⟩
        · obtain ⟨r14, hr14, h⟩ := bnS h
          rcases itS h with ⟨c15, h⟩ | ⟨c16, h⟩
          · have h := Option.some.inj h
            subst h
            exact go_ret hΘ hm hP hn (hs := [⟨0, .new 1001, none⟩, ⟨4, .callV [] (B r2), none⟩, ⟨6, .no, some (B false)⟩, ⟨9, .callV [] (B r5), none⟩, ⟨12, .no, some (B false)⟩, ⟨15, .callV [] (B r8), none⟩, ⟨18, .no, some (B false)⟩, ⟨21, .callV [] (B r11), none⟩, ⟨24, .no, some (B false)⟩, ⟨27, .callV [] (B r14), none⟩, ⟨30, .br true, none⟩]) (rh := []) (ph := .raw) (ps := [Meets Try.prog 49 [(I p1.Thread), (I 0), (I 4)] (B r2), litA (B r2) = true, (B (!r2)) = (B false), Meets Try.prog 49 [(I p1.Kind), (I 1), (I 12)] (B r5), litA (B r5) = true, (B (!r5)) = (B false), Meets Try.prog 49 [(I p1.Obj), (I (-1)), (I 99)] (B r8), litA (B r8) = true, (B (!r8)) = (B false), Meets Try.prog 49 [(I p1.Lock), (I (-1)), (I 99)] (B r11), litA (B r11) = true, (B (!r11)) = (B false), Meets Try.prog 49 [(I p1.Pc), (I 0), (I 99)] (B r14), litA (B r14) = true, (!r14) = true, (B false) = (B false), litA (B false) = true]) (by kernel_rfl) ⟨(impl_in_m hr2), rfl, (litB c4), (impl_in_m hr5), rfl, (litB c7), (impl_in_m hr8), rfl, (litB c10), (impl_in_m hr11), rfl, (litB c13), (impl_in_m hr14), rfl, c15, rfl, rfl, trivial⟩
          · exact go_to hΘ hm hx hP hn (hs := [⟨0, .new 1001, none⟩, ⟨4, .callV [] (B r2), none⟩, ⟨6, .no, some (B false)⟩, ⟨9, .callV [] (B r5), none⟩, ⟨12, .no, some (B false)⟩, ⟨15, .callV [] (B r8), none⟩, ⟨18, .no, some (B false)⟩, ⟨21, .callV [] (B r11), none⟩, ⟨24, .no, some (B false)⟩, ⟨27, .callV [] (B r14), none⟩, ⟨30, .br false, none⟩]) (π := [(1001, 1)]) (ts := [1]) (kp := []) (ps := [Meets Try.prog 49 [(I p1.Thread), (I 0), (I 4)] (B r2), litA (B r2) = true, (B (!r2)) = (B false), Meets Try.prog 49 [(I p1.Kind), (I 1), (I 12)] (B r5), litA (B r5) = true, (B (!r5)) = (B false), Meets Try.prog 49 [(I p1.Obj), (I (-1)), (I 99)] (B r8), litA (B r8) = true, (B (!r8)) = (B false), Meets Try.prog 49 [(I p1.Lock), (I (-1)), (I 99)] (B r11), litA (B r11) = true, (B (!r11)) = (B false), Meets Try.prog 49 [(I p1.Pc), (I 0), (I 99)] (B r14), litA (B r14) = true, (!r14) = false, RenOK [(1001, 1)] [((o40 p1))]]) (by kernel_rfl) ⟨(impl_in_m hr2), rfl, (litB c4), (impl_in_m hr5), rfl, (litB c7), (impl_in_m hr8), rfl, (litB c10), (impl_in_m hr11), rfl, (litB c13), (impl_in_m hr14), rfl, c16, (rok rfl), trivial⟩ (impl_Event_isGood_j0_m hP hn hx p1  _ h)
noncomputable def body36 : Code := match Try.f36.body with | some c => c | none => .skip
noncomputable def impl_GoodTrace_1 (p1 : GEvent) : Option Bool :=
  Option.bind (impl_Event_isGood p1) fun r2 =>
  some (!r2)
theorem impl_GoodTrace_1_m {p1 : GEvent} {r : Bool} (h : impl_GoodTrace_1 p1 = some r) : Meets Try.prog 36 [(AV.agg ((o40 p1)))] (B r) := by
  refine meets_ofC Θ_ok Try.func36 rfl (c := body36) (by kernel_rfl) (Nat.le_of_ble_eq_true rfl) ?_
  intro E hP hn hx
  replace hn : E.n = 6 := hn
  have hm : E.P.follows .mixedOrders = true := by rw [hP]; exact mixed
  have hΘ : TOK E.P Θ := by rw [hP]; exact Θ_ok
  unfold impl_GoodTrace_1 at h
  show WAt E body36 (FQ (RetE Θ Try.f36.results.toList [] [] (B r) E)) [] ⟨[(0, (AV.agg ((o40 p1))))], [], [JJ]⟩
  obtain ⟨r2, hr2, h⟩ := bnS h
  have h := Option.some.inj h
  subst h
  exact go_ret hΘ hm hP hn (hs := [⟨0, .new 1001, none⟩, ⟨3, .callV [[]] (B r2), none⟩]) (rh := []) (ph := .raw) (ps := [Meets Try.prog 37 [(AV.agg ((o40 p1)))] (B r2), litA (B r2) = true, (B (!r2)) = (B (!r2)), litA (B (!r2)) = true]) (by kernel_rfl) ⟨(impl_Event_isGood_m hr2), rfl, rfl, rfl, trivial⟩
noncomputable def body48 : Code := match Try.f48.body with | some c => c | none => .skip
noncomputable def slices_IndexFunc_Event_Event__impl_GoodTrace_1_l0  (p1 : (List GEvent)) : Nat → Int → Option Int
  | 0, _ => none
  | n + 1, v2 =>
  if (decide (v2 < (p1.length : Int))) = true then
    Option.bind (rd p1 v2) fun x4 =>
    Option.bind (impl_GoodTrace_1 x4) fun r5 =>
    if r5 = true then
      some v2
    else
      slices_IndexFunc_Event_Event__impl_GoodTrace_1_l0 p1 n (w64 (v2 + 1))
  else
    some (-1)
theorem slices_IndexFunc_Event_Event__impl_GoodTrace_1_l0_m {E : Env} (hP : E.P = Try.prog) (hn : E.n = 19) (hx : ∀ p, p ∈ E.fx → p.1 ∈ ([] : List Nat)) (p1 : (List GEvent))  : ∀ (n : Nat) (v2 : Int) (r : Int), slices_IndexFunc_Event_Event__impl_GoodTrace_1_l0 p1 n v2 = some r → WAt E body48 (FQ (RetE Θ Try.f48.results.toList [] [] (I r) E)) [true, false, true, false] ⟨[(0, (AV.ro 5 (p1.map o40))), (1, (AV.fn 36 [])), (7, (I (p1.length : Int))), (8, (I v2))], [], [JJ]⟩ := by
  have hm : E.P.follows .mixedOrders = true := by rw [hP]; exact mixed
  have hΘ : TOK E.P Θ := by rw [hP]; exact Θ_ok
  intro n
  induction n with
  | zero => intro v2 r h; simp only [slices_IndexFunc_Event_Event__impl_GoodTrace_1_l0] at h; cases h
  | succ n ih =>
    intro v2 r h
    simp only [slices_IndexFunc_Event_Event__impl_GoodTrace_1_l0] at h
    rcases itS h with ⟨c3, h⟩ | ⟨c8, h⟩
    · obtain ⟨x4, hx4, h⟩ := bnS h
      obtain ⟨r5, hr5, h⟩ := bnS h
      rcases itS h with ⟨c6, h⟩ | ⟨c7, h⟩
      · have h := Option.some.inj h
        subst h
        exact go_ret hΘ hm hP hn (hs := [⟨1, .br true, none⟩, ⟨7, .row (o40 x4), none⟩, ⟨9, .callV [[]] (B r5), none⟩, ⟨10, .br true, none⟩]) (rh := []) (ph := .raw) (ps := [(decide (v2 < (p1.length : Int))) = true, (0 : Int) ≤ v2, (p1.map o40)[(Int.toNat v2)]? = some (o40 x4), Meets Try.prog 36 [(AV.agg ((o40 x4)))] (B r5), litA (B r5) = true, r5 = true, (I v2) = (I v2), litA (I v2) = true]) (by kernel_rfl) ⟨c3, (rd0 hx4), (rdM o40 hx4), (impl_GoodTrace_1_m hr5), rfl, c6, rfl, rfl, trivial⟩
      · exact go_to hΘ hm hx hP hn (hs := [⟨1, .br true, none⟩, ⟨7, .row (o40 x4), none⟩, ⟨9, .callV [[]] (B r5), none⟩, ⟨10, .br false, none⟩]) (π := []) (ts := [0, 1, 7, 8]) (kp := []) (ps := [(decide (v2 < (p1.length : Int))) = true, (0 : Int) ≤ v2, (p1.map o40)[(Int.toNat v2)]? = some (o40 x4), Meets Try.prog 36 [(AV.agg ((o40 x4)))] (B r5), litA (B r5) = true, r5 = false]) (by kernel_rfl) ⟨c3, (rd0 hx4), (rdM o40 hx4), (impl_GoodTrace_1_m hr5), rfl, c7, trivial⟩ (ih (w64 (v2 + 1)) _ h)
    · have h := Option.some.inj h
      subst h
      exact go_ret hΘ hm hP hn (hs := [⟨1, .br false, none⟩]) (rh := []) (ph := .raw) (ps := [(decide (v2 < (p1.length : Int))) = false, (I (-1)) = (I (-1)), litA (I (-1)) = true]) (by kernel_rfl) ⟨c8, rfl, rfl, trivial⟩
noncomputable def slices_IndexFunc_Event_Event__impl_GoodTrace_1 (p1 : (List GEvent)) : Option Int :=
  slices_IndexFunc_Event_Event__impl_GoodTrace_1_l0 p1 FU 0
theorem slices_IndexFunc_Event_Event__impl_GoodTrace_1_m {p1 : (List GEvent)} {r : Int} (h : slices_IndexFunc_Event_Event__impl_GoodTrace_1 p1 = some r) : Meets Try.prog 48 [(AV.ro 5 (p1.map o40)), (AV.fn 36 [])] (I r) := by
  refine meets_ofC Θ_ok Try.func48 rfl (c := body48) (by kernel_rfl) (Nat.le_of_ble_eq_true rfl) ?_
  intro E hP hn hx
  replace hn : E.n = 19 := hn
  have hm : E.P.follows .mixedOrders = true := by rw [hP]; exact mixed
  have hΘ : TOK E.P Θ := by rw [hP]; exact Θ_ok
  unfold slices_IndexFunc_Event_Event__impl_GoodTrace_1 at h
  show WAt E body48 (FQ (RetE Θ Try.f48.results.toList [] [] (I r) E)) [] ⟨[(0, (AV.ro 5 (p1.map o40))), (1, (AV.fn 36 []))], [], [JJ]⟩
  exact go_to hΘ hm hx hP hn (hs := [⟨2, .no, some (I (p1.length : Int))⟩]) (π := []) (ts := [0, 1, 7, 8]) (kp := []) (ps := [AV.lit (.int .i64 (((p1.map o40).length : Nat) : Int)) = (I (p1.length : Int))]) (by kernel_rfl) ⟨(lenM o40), trivial⟩ (slices_IndexFunc_Event_Event__impl_GoodTrace_1_l0_m hP hn hx p1 FU 0 _ h)
noncomputable def body35 : Code := match Try.f35.body with | some c => c | none => .skip
noncomputable def slices_ContainsFunc_Event_Event__impl_GoodTrace_1 (p1 : (List GEvent)) : Option Bool :=
  Option.bind (slices_IndexFunc_Event_Event__impl_GoodTrace_1 p1) fun r2 =>
  some (decide (r2 ≥ 0))
theorem slices_ContainsFunc_Event_Event__impl_GoodTrace_1_m {p1 : (List GEvent)} {r : Bool} (h : slices_ContainsFunc_Event_Event__impl_GoodTrace_1 p1 = some r) : Meets Try.prog 35 [(AV.ro 5 (p1.map o40)), (AV.fn 36 [])] (B r) := by
  refine meets_ofC Θ_ok Try.func35 rfl (c := body35) (by kernel_rfl) (Nat.le_of_ble_eq_true rfl) ?_
  intro E hP hn hx
  replace hn : E.n = 9 := hn
  have hm : E.P.follows .mixedOrders = true := by rw [hP]; exact mixed
  have hΘ : TOK E.P Θ := by rw [hP]; exact Θ_ok
  unfold slices_ContainsFunc_Event_Event__impl_GoodTrace_1 at h
  show WAt E body35 (FQ (RetE Θ Try.f35.results.toList [] [] (B r) E)) [] ⟨[(0, (AV.ro 5 (p1.map o40))), (1, (AV.fn 36 []))], [], [JJ]⟩
  obtain ⟨r2, hr2, h⟩ := bnS h
  have h := Option.some.inj h
  subst h
  exact go_ret hΘ hm hP hn (hs := [⟨3, .callV [] (I r2), none⟩]) (rh := []) (ph := .raw) (ps := [Meets Try.prog 48 [(AV.ro 5 (p1.map o40)), (AV.fn 36 [])] (I r2), litA (I r2) = true, (B (decide (r2 ≥ 0))) = (B (decide (r2 ≥ 0))), litA (B (decide (r2 ≥ 0))) = true]) (by kernel_rfl) ⟨(slices_IndexFunc_Event_Event__impl_GoodTrace_1_m hr2), rfl, rfl, rfl, trivial⟩
noncomputable def body21 : Code := match Try.f21.body with | some c => c | none => .skip
noncomputable def impl_GoodTrace (p1 : (List GEvent)) : Option Bool :=
  if (decide ((p1.length : Int) ≤ 200)) = true then
    Option.bind (slices_ContainsFunc_Event_Event__impl_GoodTrace_1 p1) fun r3 =>
    some (!r3)
  else
    some false
theorem impl_GoodTrace_m {p1 : (List GEvent)} {r : Bool} (h : impl_GoodTrace p1 = some r) : Meets Try.prog 21 [(AV.ro 5 (p1.map o40))] (B r) := by
  refine meets_ofC Θ_ok Try.func21 rfl (c := body21) (by kernel_rfl) (Nat.le_of_ble_eq_true rfl) ?_
  intro E hP hn hx
  replace hn : E.n = 11 := hn
  have hm : E.P.follows .mixedOrders = true := by rw [hP]; exact mixed
  have hΘ : TOK E.P Θ := by rw [hP]; exact Θ_ok
  unfold impl_GoodTrace at h
  show WAt E body21 (FQ (RetE Θ Try.f21.results.toList [] [] (B r) E)) [] ⟨[(0, (AV.ro 5 (p1.map o40)))], [], [JJ]⟩
  rcases itS h with ⟨c2, h⟩ | ⟨c4, h⟩
  · obtain ⟨r3, hr3, h⟩ := bnS h
    have h := Option.some.inj h
    subst h
    exact go_ret hΘ hm hP hn (hs := [⟨2, .no, some (I (p1.length : Int))⟩, ⟨4, .no, some (B true)⟩, ⟨6, .callV [] (B r3), none⟩]) (rh := []) (ph := .raw) (ps := [AV.lit (.int .i64 (((p1.map o40).length : Nat) : Int)) = (I (p1.length : Int)), (B (decide ((p1.length : Int) ≤ 200))) = (B true), Meets Try.prog 35 [(AV.ro 5 (p1.map o40)), (AV.fn 36 [])] (B r3), litA (B r3) = true, (B (!r3)) = (B (!r3)), litA (B (!r3)) = true]) (by kernel_rfl) ⟨(lenM o40), (litB c2), (slices_ContainsFunc_Event_Event__impl_GoodTrace_1_m hr3), rfl, rfl, rfl, trivial⟩
  · have h := Option.some.inj h
    subst h
    exact go_ret hΘ hm hP hn (hs := [⟨2, .no, some (I (p1.length : Int))⟩, ⟨4, .no, some (B false)⟩]) (rh := []) (ph := .raw) (ps := [AV.lit (.int .i64 (((p1.map o40).length : Nat) : Int)) = (I (p1.length : Int)), (B (decide ((p1.length : Int) ≤ 200))) = (B false), (B false) = (B false), litA (B false) = true]) (by kernel_rfl) ⟨(lenM o40), (litB c4), rfl, rfl, trivial⟩
noncomputable def body53 : Code := match Try.f53.body with | some c => c | none => .skip
noncomputable def slices_Index_int_int_l0  (p1 : (List Int)) (p2 : Int) : Nat → Int → Option Int
  | 0, _ => none
  | n + 1, v3 =>
  if (decide (v3 < (p1.length : Int))) = true then
    Option.bind (rd p1 v3) fun x5 =>
    if (p2 == x5) = true then
      some v3
    else
      slices_Index_int_int_l0 p1 p2 n (w64 (v3 + 1))
  else
    some (-1)
theorem slices_Index_int_int_l0_m {E : Env} (hP : E.P = Try.prog) (hn : E.n = 19) (hx : ∀ p, p ∈ E.fx → p.1 ∈ ([] : List Nat)) (p1 : (List Int)) (p2 : Int)  : ∀ (n : Nat) (v3 : Int) (r : Int), slices_Index_int_int_l0 p1 p2 n v3 = some r → WAt E body53 (FQ (RetE Θ Try.f53.results.toList [] [] (I r) E)) [true, false, true, false] ⟨[(0, (AV.ro 1 (p1.map o3))), (1, (I p2)), (7, (I (p1.length : Int))), (8, (I v3))], [], [JJ]⟩ := by
  have hm : E.P.follows .mixedOrders = true := by rw [hP]; exact mixed
  have hΘ : TOK E.P Θ := by rw [hP]; exact Θ_ok
  intro n
  induction n with
  | zero => intro v3 r h; simp only [slices_Index_int_int_l0] at h; cases h
  | succ n ih =>
    intro v3 r h
    simp only [slices_Index_int_int_l0] at h
    rcases itS h with ⟨c4, h⟩ | ⟨c8, h⟩
    · obtain ⟨x5, hx5, h⟩ := bnS h
      rcases itS h with ⟨c6, h⟩ | ⟨c7, h⟩
      · have h := Option.some.inj h
        subst h
        exact go_ret hΘ hm hP hn (hs := [⟨1, .br true, none⟩, ⟨7, .row (o3 x5), none⟩, ⟨10, .br true, none⟩]) (rh := []) (ph := .raw) (ps := [(decide (v3 < (p1.length : Int))) = true, (0 : Int) ≤ v3, (p1.map o3)[(Int.toNat v3)]? = some (o3 x5), (p2 == x5) = true, (I v3) = (I v3), litA (I v3) = true]) (by kernel_rfl) ⟨c4, (rd0 hx5), (rdM o3 hx5), c6, rfl, rfl, trivial⟩
      · exact go_to hΘ hm hx hP hn (hs := [⟨1, .br true, none⟩, ⟨7, .row (o3 x5), none⟩, ⟨10, .br false, none⟩]) (π := []) (ts := [0, 1, 7, 8]) (kp := []) (ps := [(decide (v3 < (p1.length : Int))) = true, (0 : Int) ≤ v3, (p1.map o3)[(Int.toNat v3)]? = some (o3 x5), (p2 == x5) = false]) (by kernel_rfl) ⟨c4, (rd0 hx5), (rdM o3 hx5), c7, trivial⟩ (ih (w64 (v3 + 1)) _ h)
    · have h := Option.some.inj h
      subst h
      exact go_ret hΘ hm hP hn (hs := [⟨1, .br false, none⟩]) (rh := []) (ph := .raw) (ps := [(decide (v3 < (p1.length : Int))) = false, (I (-1)) = (I (-1)), litA (I (-1)) = true]) (by kernel_rfl) ⟨c8, rfl, rfl, trivial⟩
noncomputable def slices_Index_int_int (p1 : (List Int)) (p2 : Int) : Option Int :=
  slices_Index_int_int_l0 p1 p2 FU 0
theorem slices_Index_int_int_m {p1 : (List Int)} {p2 : Int} {r : Int} (h : slices_Index_int_int p1 p2 = some r) : Meets Try.prog 53 [(AV.ro 1 (p1.map o3)), (I p2)] (I r) := by
  refine meets_ofC Θ_ok Try.func53 rfl (c := body53) (by kernel_rfl) (Nat.le_of_ble_eq_true rfl) ?_
  intro E hP hn hx
  replace hn : E.n = 19 := hn
  have hm : E.P.follows .mixedOrders = true := by rw [hP]; exact mixed
  have hΘ : TOK E.P Θ := by rw [hP]; exact Θ_ok
  unfold slices_Index_int_int at h
  show WAt E body53 (FQ (RetE Θ Try.f53.results.toList [] [] (I r) E)) [] ⟨[(0, (AV.ro 1 (p1.map o3))), (1, (I p2))], [], [JJ]⟩
  exact go_to hΘ hm hx hP hn (hs := [⟨2, .no, some (I (p1.length : Int))⟩]) (π := []) (ts := [0, 1, 7, 8]) (kp := []) (ps := [AV.lit (.int .i64 (((p1.map o3).length : Nat) : Int)) = (I (p1.length : Int))]) (by kernel_rfl) ⟨(lenM o3), trivial⟩ (slices_Index_int_int_l0_m hP hn hx p1 p2 FU 0 _ h)
noncomputable def body45 : Code := match Try.f45.body with | some c => c | none => .skip
noncomputable def slices_Contains_int_int (p1 : (List Int)) (p2 : Int) : Option Bool :=
  Option.bind (slices_Index_int_int p1 p2) fun r3 =>
  some (decide (r3 ≥ 0))
theorem slices_Contains_int_int_m {p1 : (List Int)} {p2 : Int} {r : Bool} (h : slices_Contains_int_int p1 p2 = some r) : Meets Try.prog 45 [(AV.ro 1 (p1.map o3)), (I p2)] (B r) := by
  refine meets_ofC Θ_ok Try.func45 rfl (c := body45) (by kernel_rfl) (Nat.le_of_ble_eq_true rfl) ?_
  intro E hP hn hx
  replace hn : E.n = 9 := hn
  have hm : E.P.follows .mixedOrders = true := by rw [hP]; exact mixed
  have hΘ : TOK E.P Θ := by rw [hP]; exact Θ_ok
  unfold slices_Contains_int_int at h
  show WAt E body45 (FQ (RetE Θ Try.f45.results.toList [] [] (B r) E)) [] ⟨[(0, (AV.ro 1 (p1.map o3))), (1, (I p2))], [], [JJ]⟩
  obtain ⟨r3, hr3, h⟩ := bnS h
  have h := Option.some.inj h
  subst h
  exact go_ret hΘ hm hP hn (hs := [⟨3, .callV [] (I r3), none⟩]) (rh := []) (ph := .raw) (ps := [Meets Try.prog 53 [(AV.ro 1 (p1.map o3)), (I p2)] (I r3), litA (I r3) = true, (B (decide (r3 ≥ 0))) = (B (decide (r3 ≥ 0))), litA (B (decide (r3 ≥ 0))) = true]) (by kernel_rfl) ⟨(slices_Index_int_int_m hr3), rfl, rfl, rfl, trivial⟩
noncomputable def body29 : Code := match Try.f29.body with | some c => c | none => .skip
noncomputable def impl_common_l0  (p1 : (List Int)) (p2 : (List Int)) : Nat → (List Int) → Int → Option (List Int)
  | 0, _, _ => none
  | n + 1, a3, v4 =>
  if (decide (v4 < (p1.length : Int))) = true then
    Option.bind (rd p1 v4) fun x6 =>
    Option.bind (slices_Contains_int_int p2 x6) fun r7 =>
    if r7 = true then
      Option.bind (app a3 [x6]) fun l9 =>
      impl_common_l0 p1 p2 n l9 (w64 (v4 + 1))
    else
      impl_common_l0 p1 p2 n a3 (w64 (v4 + 1))
  else
    some a3
theorem impl_common_l0_m {E : Env} (hP : E.P = Try.prog) (hn : E.n = 24) (hx : ∀ p, p ∈ E.fx → p.1 ∈ ([] : List Nat)) (p1 : (List Int)) (p2 : (List Int))  : ∀ (n : Nat) (a3 : (List Int)) (v4 : Int) (r : (List Int)), impl_common_l0 p1 p2 n a3 v4 = some r → WAt E body29 (FQ (RetE Θ Try.f29.results.toList [] [] (AV.own 3 1 (r.map o3)) E)) [true, true, false, true, false] ⟨[(1, (AV.ro 1 (p2.map o3))), (5, (AV.sl 1 0 (List.length (a3.map o3)))), (9, (AV.ro 1 (p1.map o3))), (10, (I (p1.length : Int))), (11, (I v4))], [(1, some ⟨3, 1, (a3.map o3)⟩)], [1, JJ]⟩ := by
  have hm : E.P.follows .mixedOrders = true := by rw [hP]; exact mixed
  have hΘ : TOK E.P Θ := by rw [hP]; exact Θ_ok
  intro n
  induction n with
  | zero => intro a3 v4 r h; simp only [impl_common_l0] at h; cases h
  | succ n ih =>
    intro a3 v4 r h
    simp only [impl_common_l0] at h
    rcases itS h with ⟨c5, h⟩ | ⟨c11, h⟩
    · obtain ⟨x6, hx6, h⟩ := bnS h
      obtain ⟨r7, hr7, h⟩ := bnS h
      rcases itS h with ⟨c8, h⟩ | ⟨c10, h⟩
      · obtain ⟨l9, hl9, h⟩ := bnS h
        exact go_to hΘ hm hx hP hn (hs := [⟨1, .br true, none⟩, ⟨2, .row (o3 x6), none⟩, ⟨7, .callV [] (B r7), none⟩, ⟨8, .br true, none⟩, ⟨11, .new 1001, none⟩, ⟨12, .app 1002 (l9.map o3), none⟩]) (π := [(1002, 1)]) (ts := [1, 5, 9, 10, 11]) (kp := []) (ps := [(decide (v4 < (p1.length : Int))) = true, (0 : Int) ≤ v4, (p1.map o3)[(Int.toNat v4)]? = some (o3 x6), Meets Try.prog 45 [(AV.ro 1 (p2.map o3)), (I x6)] (B r7), litA (B r7) = true, r7 = true, (a3.map o3).take (List.length (a3.map o3)) ++ ((([x6].map o3).drop 0).take (List.length ([x6].map o3))) = (l9.map o3), ((([x6].map o3).drop 0).take (List.length ([x6].map o3))).all (fun r => r.all AV.plain) = true, (List.length (l9.map o3)) * 8 ≤ 140737488355328, (List.length (l9.map o3)) ≤ 140737488355328, RenOK [(1002, 1)] (l9.map o3)]) (by kernel_rfl) ⟨c5, (rd0 hx6), (rdM o3 hx6), (slices_Contains_int_int_m hr7), rfl, c8, (appTD o3 hl9), (plD p3), (appB o3 hl9 (by decide)), (appC o3 hl9), (rok (treeM t3)), trivial⟩ (ih l9 (w64 (v4 + 1)) _ h)
      · exact go_to hΘ hm hx hP hn (hs := [⟨1, .br true, none⟩, ⟨2, .row (o3 x6), none⟩, ⟨7, .callV [] (B r7), none⟩, ⟨8, .br false, none⟩]) (π := [(1, 1)]) (ts := [1, 5, 9, 10, 11]) (kp := []) (ps := [(decide (v4 < (p1.length : Int))) = true, (0 : Int) ≤ v4, (p1.map o3)[(Int.toNat v4)]? = some (o3 x6), Meets Try.prog 45 [(AV.ro 1 (p2.map o3)), (I x6)] (B r7), litA (B r7) = true, r7 = false, RenOK [(1, 1)] (a3.map o3)]) (by kernel_rfl) ⟨c5, (rd0 hx6), (rdM o3 hx6), (slices_Contains_int_int_m hr7), rfl, c10, (rok (treeM t3)), trivial⟩ (ih a3 (w64 (v4 + 1)) _ h)
    · have h := Option.some.inj h
      subst h
      exact go_ret hΘ hm hP hn (hs := [⟨1, .br false, none⟩]) (rh := []) (ph := .own) (ps := [(decide (v4 < (p1.length : Int))) = false, treeLL ((a3.map o3).take (List.length (a3.map o3))) = true, (a3.map o3).take (List.length (a3.map o3)) = (a3.map o3), noRoLL (a3.map o3) = true]) (by kernel_rfl) ⟨c11, (treeT t3), takeM, (noRoM n3), trivial⟩
noncomputable def impl_common (p1 : (List Int)) (p2 : (List Int)) : Option (List Int) :=
  impl_common_l0 p1 p2 FU [] 0
theorem impl_common_m {p1 : (List Int)} {p2 : (List Int)} {r : (List Int)} (h : impl_common p1 p2 = some r) : Meets Try.prog 29 [(AV.ro 1 (p1.map o3)), (AV.ro 1 (p2.map o3))] (AV.own 3 1 (r.map o3)) := by
  refine meets_ofC Θ_ok Try.func29 rfl (c := body29) (by kernel_rfl) (Nat.le_of_ble_eq_true rfl) ?_
  intro E hP hn hx
  replace hn : E.n = 24 := hn
  have hm : E.P.follows .mixedOrders = true := by rw [hP]; exact mixed
  have hΘ : TOK E.P Θ := by rw [hP]; exact Θ_ok
  unfold impl_common at h
  show WAt E body29 (FQ (RetE Θ Try.f29.results.toList [] [] (AV.own 3 1 (r.map o3)) E)) [] ⟨[(0, (AV.ro 1 (p1.map o3))), (1, (AV.ro 1 (p2.map o3)))], [], [JJ]⟩
  exact go_to hΘ hm hx hP hn (hs := [⟨1, .new 1001, none⟩, ⟨4, .no, some (I (p1.length : Int))⟩]) (π := [(1001, 1)]) (ts := [1, 5, 9, 10, 11]) (kp := []) (ps := [AV.lit (.int .i64 (((p1.map o3).length : Nat) : Int)) = (I (p1.length : Int)), RenOK [(1001, 1)] ([].map o3)]) (by kernel_rfl) ⟨(lenM o3), (rok (treeM t3)), trivial⟩ (impl_common_l0_m hP hn hx p1 p2 FU [] 0 _ h)
noncomputable def body44 : Code := match Try.f44.body with | some c => c | none => .skip
noncomputable def impl_Event_gives (p1 : GEvent) : Option Int :=
  if (p1.Kind == 5) = true then
    some p1.Obj
  else
    if (p1.Kind == 8) = true then
      some p1.Lock
    else
      some (-1)
theorem impl_Event_gives_m {p1 : GEvent} {r : Int} (h : impl_Event_gives p1 = some r) : Meets Try.prog 44 [(AV.agg ((o40 p1)))] (I r) := by
  refine meets_ofC Θ_ok Try.func44 rfl (c := body44) (by kernel_rfl) (Nat.le_of_ble_eq_true rfl) ?_
  intro E hP hn hx
  replace hn : E.n = 13 := hn
  have hm : E.P.follows .mixedOrders = true := by rw [hP]; exact mixed
  have hΘ : TOK E.P Θ := by rw [hP]; exact Θ_ok
  unfold impl_Event_gives at h
  show WAt E body44 (FQ (RetE Θ Try.f44.results.toList [] [] (I r) E)) [] ⟨[(0, (AV.agg ((o40 p1))))], [], [JJ]⟩
  rcases itS h with ⟨c2, h⟩ | ⟨c3, h⟩
  · have h := Option.some.inj h
    subst h
    exact go_ret hΘ hm hP hn (hs := [⟨0, .new 1001, none⟩, ⟨6, .br true, none⟩]) (rh := []) (ph := .raw) (ps := [(p1.Kind == 5) = true, (I p1.Obj) = (I p1.Obj), litA (I p1.Obj) = true]) (by kernel_rfl) ⟨c2, rfl, rfl, trivial⟩
  · rcases itS h with ⟨c4, h⟩ | ⟨c5, h⟩
    · have h := Option.some.inj h
      subst h
      exact go_ret hΘ hm hP hn (hs := [⟨0, .new 1001, none⟩, ⟨6, .br false, none⟩, ⟨9, .br true, none⟩]) (rh := []) (ph := .raw) (ps := [(p1.Kind == 5) = false, (p1.Kind == 8) = true, (I p1.Lock) = (I p1.Lock), litA (I p1.Lock) = true]) (by kernel_rfl) ⟨c3, c4, rfl, rfl, trivial⟩
    · have h := Option.some.inj h
      subst h
      exact go_ret hΘ hm hP hn (hs := [⟨0, .new 1001, none⟩, ⟨6, .br false, none⟩, ⟨9, .br false, none⟩]) (rh := []) (ph := .raw) (ps := [(p1.Kind == 5) = false, (p1.Kind == 8) = false, (I (-1)) = (I (-1)), litA (I (-1)) = true]) (by kernel_rfl) ⟨c3, c5, rfl, rfl, trivial⟩
noncomputable def body43 : Code := match Try.f43.body with | some c => c | none => .skip
noncomputable def impl_Event_takes (p1 : GEvent) : Option Int :=
  if (p1.Kind == 4) = true then
    some p1.Obj
  else
    if (p1.Kind == 9) = true then
      some p1.Lock
    else
      some (-1)
theorem impl_Event_takes_m {p1 : GEvent} {r : Int} (h : impl_Event_takes p1 = some r) : Meets Try.prog 43 [(AV.agg ((o40 p1)))] (I r) := by
  refine meets_ofC Θ_ok Try.func43 rfl (c := body43) (by kernel_rfl) (Nat.le_of_ble_eq_true rfl) ?_
  intro E hP hn hx
  replace hn : E.n = 13 := hn
  have hm : E.P.follows .mixedOrders = true := by rw [hP]; exact mixed
  have hΘ : TOK E.P Θ := by rw [hP]; exact Θ_ok
  unfold impl_Event_takes at h
  show WAt E body43 (FQ (RetE Θ Try.f43.results.toList [] [] (I r) E)) [] ⟨[(0, (AV.agg ((o40 p1))))], [], [JJ]⟩
  rcases itS h with ⟨c2, h⟩ | ⟨c3, h⟩
  · have h := Option.some.inj h
    subst h
    exact go_ret hΘ hm hP hn (hs := [⟨0, .new 1001, none⟩, ⟨6, .br true, none⟩]) (rh := []) (ph := .raw) (ps := [(p1.Kind == 4) = true, (I p1.Obj) = (I p1.Obj), litA (I p1.Obj) = true]) (by kernel_rfl) ⟨c2, rfl, rfl, trivial⟩
  · rcases itS h with ⟨c4, h⟩ | ⟨c5, h⟩
    · have h := Option.some.inj h
      subst h
      exact go_ret hΘ hm hP hn (hs := [⟨0, .new 1001, none⟩, ⟨6, .br false, none⟩, ⟨9, .br true, none⟩]) (rh := []) (ph := .raw) (ps := [(p1.Kind == 4) = false, (p1.Kind == 9) = true, (I p1.Lock) = (I p1.Lock), litA (I p1.Lock) = true]) (by kernel_rfl) ⟨c3, c4, rfl, rfl, trivial⟩
    · have h := Option.some.inj h
      subst h
      exact go_ret hΘ hm hP hn (hs := [⟨0, .new 1001, none⟩, ⟨6, .br false, none⟩, ⟨9, .br false, none⟩]) (rh := []) (ph := .raw) (ps := [(p1.Kind == 4) = false, (p1.Kind == 9) = false, (I (-1)) = (I (-1)), litA (I (-1)) = true]) (by kernel_rfl) ⟨c3, c5, rfl, rfl, trivial⟩
noncomputable def body28 : Code := match Try.f28.body with | some c => c | none => .skip
noncomputable def impl_held_j1 (K0 : (Vector Bool 100) → Int → Option (List Int)) (p2 : Int) (l4 : (List GEvent)) (v6 : Int) (a14 : (Vector Bool 100)) (a15 : GEvent) : Option (List Int) :=
  Option.bind (impl_Event_gives a15) fun r16 =>
  if (decide (r16 ≥ 0)) = true then
    Option.bind (rdv a14 r16) fun x18 =>
    K0 (a14.setIfInBounds (Int.toNat r16) false) (w64 (v6 + 1))
  else
    K0 a14 (w64 (v6 + 1))
theorem impl_held_j1_m {E : Env} (hP : E.P = Try.prog) (hn : E.n = 54) (hx : ∀ p, p ∈ E.fx → p.1 ∈ ([] : List Nat)) (p2 : Int) (l4 : (List GEvent)) (v6 : Int) {K0 : (Vector Bool 100) → Int → Option (List Int)} (hK0 : ∀ (a5 : (Vector Bool 100)) (v6 : Int) (r : (List Int)), K0 a5 v6 = some r → WAt E body28 (FQ (RetE Θ Try.f28.results.toList [] [] (AV.own 3 1 (r.map o3)) E)) [true, true, false, true, false] ⟨[(1, (I p2)), (7, (AV.ptr 1 0 0)), (18, (AV.ro 5 (l4.map o40))), (19, (I (l4.length : Int))), (20, (I v6))], [(1, some ⟨59, 100, [((o59 a5))]⟩)], [1, JJ]⟩) (a14 : (Vector Bool 100)) (a15 : GEvent) (r : (List Int)) (h : impl_held_j1 K0 p2 l4 v6 a14 a15 = some r) : WAt E body28 (FQ (RetE Θ Try.f28.results.toList [] [] (AV.own 3 1 (r.map o3)) E)) [true, true, false, true, false, false, true, true, false, false, true, true, true] ⟨[(1, (I p2)), (7, (AV.ptr 1 0 0)), (9, (AV.ptr 2 0 0)), (18, (AV.ro 5 (l4.map o40))), (19, (I (l4.length : Int))), (20, (I v6))], [(1, some ⟨59, 100, [((o59 a14))]⟩), (2, some ⟨40, 5, [((o40 a15))]⟩)], [1, 2, JJ]⟩ := by
  have hm : E.P.follows .mixedOrders = true := by rw [hP]; exact mixed
  have hΘ : TOK E.P Θ := by rw [hP]; exact Θ_ok
  unfold impl_held_j1 at h
  obtain ⟨r16, hr16, h⟩ := bnS h
  rcases itS h with ⟨c17, h⟩ | ⟨c19, h⟩
  · obtain ⟨x18, hx18, h⟩ := bnS h
    exact go_to hΘ hm hx hP hn (hs := [⟨1, .callV [[]] (I r16), none⟩, ⟨5, .br true, none⟩, ⟨8, .sto ((o59 a14)) [((o59 (a14.setIfInBounds (Int.toNat r16) false)))], none⟩]) (π := [(1, 1)]) (ts := [1, 7, 18, 19, 20]) (kp := []) (ps := [Meets Try.prog 44 [(AV.agg ((o40 a15)))] (I r16), litA (I r16) = true, (decide (r16 ≥ 0)) = true, (0 : Int) ≤ r16, r16 < ((100 : Nat) : Int), [((o59 a14))][0]? = some ((o59 a14)), [((o59 a14))].set 0 (wr ((o59 a14)) (Int.toNat r16) [(B false)]) = [((o59 (a14.setIfInBounds (Int.toNat r16) false)))], [(B false)].length = 1, (Int.toNat r16) + [(B false)].length ≤ ((o59 a14)).length, RenOK [(1, 1)] [((o59 (a14.setIfInBounds (Int.toNat r16) false)))]]) (by kernel_rfl) ⟨(impl_Event_gives_m hr16), rfl, c17, (rv0 hx18), (rvL hx18), rfl, (vecWr k4 _ (rvLt hx18)), rfl, (vecLe k4 hx18), (rok (treeB t59 (a14.setIfInBounds (Int.toNat r16) false))), trivial⟩ (hK0 (a14.setIfInBounds (Int.toNat r16) false) (w64 (v6 + 1)) _ h)
  · exact go_to hΘ hm hx hP hn (hs := [⟨1, .callV [[]] (I r16), none⟩, ⟨5, .br false, none⟩]) (π := [(1, 1)]) (ts := [1, 7, 18, 19, 20]) (kp := []) (ps := [Meets Try.prog 44 [(AV.agg ((o40 a15)))] (I r16), litA (I r16) = true, (decide (r16 ≥ 0)) = false, RenOK [(1, 1)] [((o59 a14))]]) (by kernel_rfl) ⟨(impl_Event_gives_m hr16), rfl, c19, (rok (treeB t59 a14)), trivial⟩ (hK0 a14 (w64 (v6 + 1)) _ h)
noncomputable def impl_held_l2  (a5 : (Vector Bool 100)) : Nat → (List Int) → Int → Option (List Int)
  | 0, _, _ => none
  | n + 1, a22, v23 =>
  if (decide (v23 < 100)) = true then
    Option.bind (rdv a5 v23) fun x25 =>
    if x25 = true then
      Option.bind (app a22 [v23]) fun l27 =>
      impl_held_l2 a5 n l27 (w64 (v23 + 1))
    else
      impl_held_l2 a5 n a22 (w64 (v23 + 1))
  else
    some a22
theorem impl_held_l2_m {E : Env} (hP : E.P = Try.prog) (hn : E.n = 54) (hx : ∀ p, p ∈ E.fx → p.1 ∈ ([] : List Nat)) (a5 : (Vector Bool 100))  : ∀ (n : Nat) (a22 : (List Int)) (v23 : Int) (r : (List Int)), impl_held_l2 a5 n a22 v23 = some r → WAt E body28 (FQ (RetE Θ Try.f28.results.toList [] [] (AV.own 3 1 (r.map o3)) E)) [true, true, true, true, false, true, false] ⟨[(12, (AV.sl 1 0 (List.length (a22.map o3)))), (42, (AV.agg ((o59 a5)))), (43, (I v23))], [(1, some ⟨3, 1, (a22.map o3)⟩)], [1, JJ]⟩ := by
  have hm : E.P.follows .mixedOrders = true := by rw [hP]; exact mixed
  have hΘ : TOK E.P Θ := by rw [hP]; exact Θ_ok
  intro n
  induction n with
  | zero => intro a22 v23 r h; simp only [impl_held_l2] at h; cases h
  | succ n ih =>
    intro a22 v23 r h
    simp only [impl_held_l2] at h
    rcases itS h with ⟨c24, h⟩ | ⟨c29, h⟩
    · obtain ⟨x25, hx25, h⟩ := bnS h
      rcases itS h with ⟨c26, h⟩ | ⟨c28, h⟩
      · obtain ⟨l27, hl27, h⟩ := bnS h
        exact go_to hΘ hm hx hP hn (hs := [⟨1, .br true, none⟩, ⟨3, .cel [] (B x25), none⟩, ⟨7, .br true, none⟩, ⟨10, .new 1001, none⟩, ⟨11, .app 1002 (l27.map o3), none⟩]) (π := [(1002, 1)]) (ts := [12, 42, 43]) (kp := [42]) (ps := [(decide (v23 < 100)) = true, (0 : Int) ≤ v23, v23 < ((100 : Nat) : Int), ((o59 a5))[(Int.toNat v23)]? = some (B x25), x25 = true, (a22.map o3).take (List.length (a22.map o3)) ++ ((([v23].map o3).drop 0).take (List.length ([v23].map o3))) = (l27.map o3), ((([v23].map o3).drop 0).take (List.length ([v23].map o3))).all (fun r => r.all AV.plain) = true, (List.length (l27.map o3)) * 8 ≤ 140737488355328, (List.length (l27.map o3)) ≤ 140737488355328, RenOK [(1002, 1)] (l27.map o3), tree (AV.agg ((o59 a5))) = true]) (by kernel_rfl) ⟨c24, (rv0 hx25), (rvL hx25), (rvM k4 hx25), c26, (appTD o3 hl27), (plD p3), (appB o3 hl27 (by decide)), (appC o3 hl27), (rok (treeM t3)), (t59 a5), trivial⟩ (ih l27 (w64 (v23 + 1)) _ h)
      · exact go_to hΘ hm hx hP hn (hs := [⟨1, .br true, none⟩, ⟨3, .cel [] (B x25), none⟩, ⟨7, .br false, none⟩]) (π := [(1, 1)]) (ts := [12, 42, 43]) (kp := [42]) (ps := [(decide (v23 < 100)) = true, (0 : Int) ≤ v23, v23 < ((100 : Nat) : Int), ((o59 a5))[(Int.toNat v23)]? = some (B x25), x25 = false, RenOK [(1, 1)] (a22.map o3), tree (AV.agg ((o59 a5))) = true]) (by kernel_rfl) ⟨c24, (rv0 hx25), (rvL hx25), (rvM k4 hx25), c28, (rok (treeM t3)), (t59 a5), trivial⟩ (ih a22 (w64 (v23 + 1)) _ h)
    · have h := Option.some.inj h
      subst h
      exact go_ret hΘ hm hP hn (hs := [⟨1, .br false, none⟩]) (rh := []) (ph := .own) (ps := [(decide (v23 < 100)) = false, treeLL ((a22.map o3).take (List.length (a22.map o3))) = true, (a22.map o3).take (List.length (a22.map o3)) = (a22.map o3), noRoLL (a22.map o3) = true]) (by kernel_rfl) ⟨c29, (treeT t3), takeM, (noRoM n3), trivial⟩
noncomputable def impl_held_l0  (p2 : Int) (l4 : (List GEvent)) : Nat → (Vector Bool 100) → Int → Option (List Int)
  | 0, _, _ => none
  | n + 1, a5, v6 =>
  if (decide (v6 < (l4.length : Int))) = true then
    Option.bind (rd l4 v6) fun x8 =>
    if (x8.Thread != p2) = true then
      impl_held_l0 p2 l4 n a5 (w64 (v6 + 1))
    else
      Option.bind (impl_Event_takes x8) fun r11 =>
      if (decide (r11 ≥ 0)) = true then
        Option.bind (rdv a5 r11) fun x13 =>
        impl_held_j1 (impl_held_l0 p2 l4 n) p2 l4 v6 (a5.setIfInBounds (Int.toNat r11) true) x8
      else
        impl_held_j1 (impl_held_l0 p2 l4 n) p2 l4 v6 a5 x8
  else
    impl_held_l2 a5 FU [] 0
theorem impl_held_l0_m {E : Env} (hP : E.P = Try.prog) (hn : E.n = 54) (hx : ∀ p, p ∈ E.fx → p.1 ∈ ([] : List Nat)) (p2 : Int) (l4 : (List GEvent))  : ∀ (n : Nat) (a5 : (Vector Bool 100)) (v6 : Int) (r : (List Int)), impl_held_l0 p2 l4 n a5 v6 = some r → WAt E body28 (FQ (RetE Θ Try.f28.results.toList [] [] (AV.own 3 1 (r.map o3)) E)) [true, true, false, true, false] ⟨[(1, (I p2)), (7, (AV.ptr 1 0 0)), (18, (AV.ro 5 (l4.map o40))), (19, (I (l4.length : Int))), (20, (I v6))], [(1, some ⟨59, 100, [((o59 a5))]⟩)], [1, JJ]⟩ := by
  have hm : E.P.follows .mixedOrders = true := by rw [hP]; exact mixed
  have hΘ : TOK E.P Θ := by rw [hP]; exact Θ_ok
  intro n
  induction n with
  | zero => intro a5 v6 r h; simp only [impl_held_l0] at h; cases h
  | succ n ih =>
    intro a5 v6 r h
    simp only [impl_held_l0] at h
    rcases itS h with ⟨c7, h⟩ | ⟨c21, h⟩
    · obtain ⟨x8, hx8, h⟩ := bnS h
      rcases itS h with ⟨c9, h⟩ | ⟨c10, h⟩
      · exact go_to hΘ hm hx hP hn (hs := [⟨1, .br true, none⟩, ⟨2, .row (o40 x8), none⟩, ⟨4, .new 1001, none⟩, ⟨10, .br true, none⟩]) (π := [(1, 1)]) (ts := [1, 7, 18, 19, 20]) (kp := []) (ps := [(decide (v6 < (l4.length : Int))) = true, (0 : Int) ≤ v6, (l4.map o40)[(Int.toNat v6)]? = some (o40 x8), (x8.Thread != p2) = true, RenOK [(1, 1)] [((o59 a5))]]) (by kernel_rfl) ⟨c7, (rd0 hx8), (rdM o40 hx8), c9, (rok (treeB t59 a5)), trivial⟩ (ih a5 (w64 (v6 + 1)) _ h)
      · obtain ⟨r11, hr11, h⟩ := bnS h
        rcases itS h with ⟨c12, h⟩ | ⟨c20, h⟩
        · obtain ⟨x13, hx13, h⟩ := bnS h
          exact go_to hΘ hm hx hP hn (hs := [⟨1, .br true, none⟩, ⟨2, .row (o40 x8), none⟩, ⟨4, .new 1001, none⟩, ⟨10, .br false, none⟩, ⟨12, .callV [[]] (I r11), none⟩, ⟨16, .br true, none⟩, ⟨19, .sto ((o59 a5)) [((o59 (a5.setIfInBounds (Int.toNat r11) true)))], none⟩]) (π := [(1, 1), (1001, 2)]) (ts := [1, 7, 9, 18, 19, 20]) (kp := []) (ps := [(decide (v6 < (l4.length : Int))) = true, (0 : Int) ≤ v6, (l4.map o40)[(Int.toNat v6)]? = some (o40 x8), (x8.Thread != p2) = false, Meets Try.prog 43 [(AV.agg ((o40 x8)))] (I r11), litA (I r11) = true, (decide (r11 ≥ 0)) = true, (0 : Int) ≤ r11, r11 < ((100 : Nat) : Int), [((o59 a5))][0]? = some ((o59 a5)), [((o59 a5))].set 0 (wr ((o59 a5)) (Int.toNat r11) [(B true)]) = [((o59 (a5.setIfInBounds (Int.toNat r11) true)))], [(B true)].length = 1, (Int.toNat r11) + [(B true)].length ≤ ((o59 a5)).length, RenOK [(1, 1), (1001, 2)] [((o59 (a5.setIfInBounds (Int.toNat r11) true)))], RenOK [(1, 1), (1001, 2)] [((o40 x8))]]) (by kernel_rfl) ⟨c7, (rd0 hx8), (rdM o40 hx8), c10, (impl_Event_takes_m hr11), rfl, c12, (rv0 hx13), (rvL hx13), rfl, (vecWr k4 _ (rvLt hx13)), rfl, (vecLe k4 hx13), (rok (treeB t59 (a5.setIfInBounds (Int.toNat r11) true))), (rok rfl), trivial⟩ (impl_held_j1_m hP hn hx p2 l4 v6 ih (a5.setIfInBounds (Int.toNat r11) true) x8 _ h)
        · exact go_to hΘ hm hx hP hn (hs := [⟨1, .br true, none⟩, ⟨2, .row (o40 x8), none⟩, ⟨4, .new 1001, none⟩, ⟨10, .br false, none⟩, ⟨12, .callV [[]] (I r11), none⟩, ⟨16, .br false, none⟩]) (π := [(1, 1), (1001, 2)]) (ts := [1, 7, 9, 18, 19, 20]) (kp := []) (ps := [(decide (v6 < (l4.length : Int))) = true, (0 : Int) ≤ v6, (l4.map o40)[(Int.toNat v6)]? = some (o40 x8), (x8.Thread != p2) = false, Meets Try.prog 43 [(AV.agg ((o40 x8)))] (I r11), litA (I r11) = true, (decide (r11 ≥ 0)) = false, RenOK [(1, 1), (1001, 2)] [((o59 a5))], RenOK [(1, 1), (1001, 2)] [((o40 x8))]]) (by kernel_rfl) ⟨c7, (rd0 hx8), (rdM o40 hx8), c10, (impl_Event_takes_m hr11), rfl, c20, (rok (treeB t59 a5)), (rok rfl), trivial⟩ (impl_held_j1_m hP hn hx p2 l4 v6 ih a5 x8 _ h)
    · exact go_to hΘ hm hx hP hn (hs := [⟨1, .br false, none⟩, ⟨2, .new 1001, none⟩, ⟨4, .agg ((o59 a5)) ((o59 a5)), none⟩]) (π := [(1001, 1)]) (ts := [12, 42, 43]) (kp := [42]) (ps := [(decide (v6 < (l4.length : Int))) = false, 0 + 100 ≤ ((o59 a5)).length, (((o59 a5)).drop 0).take 100 = ((o59 a5)), ((o59 a5)).all AV.plain = true, [((o59 a5))][0]? = some ((o59 a5)), RenOK [(1001, 1)] ([].map o3), tree (AV.agg ((o59 a5))) = true]) (by kernel_rfl) ⟨c21, (vecLe0 k4), (vecAgg k4), (p59 _), rfl, (rok (treeM t3)), (t59 a5), trivial⟩ (impl_held_l2_m hP hn hx a5 FU [] 0 _ h)
noncomputable def impl_held (p1 : (List GEvent)) (p2 : Int) (p3 : Int) : Option (List Int) :=
  Option.bind (slc p1 0 p3) fun l4 =>
  impl_held_l0 p2 l4 FU (Vector.replicate 100 false) 0
theorem impl_held_m {p1 : (List GEvent)} {p2 : Int} {p3 : Int} {r : (List Int)} (h : impl_held p1 p2 p3 = some r) : Meets Try.prog 28 [(AV.ro 5 (p1.map o40)), (I p2), (I p3)] (AV.own 3 1 (r.map o3)) := by
  refine meets_ofC Θ_ok Try.func28 rfl (c := body28) (by kernel_rfl) (Nat.le_of_ble_eq_true rfl) ?_
  intro E hP hn hx
  replace hn : E.n = 54 := hn
  have hm : E.P.follows .mixedOrders = true := by rw [hP]; exact mixed
  have hΘ : TOK E.P Θ := by rw [hP]; exact Θ_ok
  unfold impl_held at h
  show WAt E body28 (FQ (RetE Θ Try.f28.results.toList [] [] (AV.own 3 1 (r.map o3)) E)) [] ⟨[(0, (AV.ro 5 (p1.map o40))), (1, (I p2)), (2, (I p3))], [], [JJ]⟩
  obtain ⟨l4, hl4, h⟩ := bnS h
  exact go_to hΘ hm hx hP hn (hs := [⟨1, .no, some (AV.agg ((o59 (Vector.replicate 100 false))))⟩, ⟨2, .nw 1001 [((o59 (Vector.replicate 100 false)))], none⟩, ⟨3, .stoS ((o59 (Vector.replicate 100 false))) [((o59 (Vector.replicate 100 false)))], none⟩, ⟨6, .no, some (AV.ro 5 (l4.map o40))⟩, ⟨7, .no, some (I (l4.length : Int))⟩]) (π := [(1001, 1)]) (ts := [1, 7, 18, 19, 20]) (kp := []) (ps := [AV.agg (litL (List.replicate 100 (.bool false))) = (AV.agg ((o59 (Vector.replicate 100 false)))), [litL (List.replicate 100 (.bool false))] = [((o59 (Vector.replicate 100 false)))], [((o59 (Vector.replicate 100 false)))][0]? = some ((o59 (Vector.replicate 100 false))), [((o59 (Vector.replicate 100 false)))].set 0 (wr ((o59 (Vector.replicate 100 false))) 0 ((o59 (Vector.replicate 100 false)))) = [((o59 (Vector.replicate 100 false)))], ((o59 (Vector.replicate 100 false))).length = 100, 0 + ((o59 (Vector.replicate 100 false))).length ≤ ((o59 (Vector.replicate 100 false))).length, ((o59 (Vector.replicate 100 false))).all okLit = true, AV.ro 5 (((p1.map o40).drop (Int.toNat 0)).take (subO (Int.toNat p3) (Int.toNat 0))) = (AV.ro 5 (l4.map o40)), (0 : Int) ≤ 0, 0 ≤ p3, p3 ≤ (((p1.map o40).length : Nat) : Int), AV.lit (.int .i64 (((l4.map o40).length : Nat) : Int)) = (I (l4.length : Int)), RenOK [(1001, 1)] [((o59 (Vector.replicate 100 false)))]]) (by kernel_rfl) ⟨(vecZeroA k4 rfl), (vecZero k4 rfl), rfl, (vecSt k4 k4), (vecLen k4), (vecLL k4 k4), (vecAll k4 (fun _ => rfl)), (slM 5 o40 hl4), (sl0 hl4), (sl1 hl4), (sl2 o40 hl4), (lenM o40), (rok (treeB t59 (Vector.replicate 100 false))), trivial⟩ (impl_held_l0_m hP hn hx p2 l4 FU (Vector.replicate 100 false) 0 _ h)
noncomputable def body11 : Code := match Try.f11.body with | some c => c | none => .skip
noncomputable def impl_SharedLocks_j1 (K0 : (Vector (List Int) 100) → (Vector Bool 100) → Int → Option ((List (List Int)) × Bool)) (p1 : (List GEvent)) (a5 : (Vector (List Int) 100)) (a6 : (Vector Bool 100)) (v7 : Int) (x9 : GEvent) (a18 : (List Int)) : Option ((List (List Int)) × Bool) :=
  Option.bind (rdv a5 x9.Obj) fun x19 =>
  Option.bind (rdv a6 x9.Obj) fun x20 =>
  K0 (a5.setIfInBounds (Int.toNat x9.Obj) a18) (a6.setIfInBounds (Int.toNat x9.Obj) true) (w64 (v7 + 1))
theorem impl_SharedLocks_j1_m {E : Env} (hP : E.P = Try.prog) (hn : E.n = 69) (hx : ∀ p, p ∈ E.fx → p.1 ∈ ([] : List Nat)) (p1 : (List GEvent)) (a5 : (Vector (List Int) 100)) (a6 : (Vector Bool 100)) (v7 : Int) (x9 : GEvent) {K0 : (Vector (List Int) 100) → (Vector Bool 100) → Int → Option ((List (List Int)) × Bool)} (hK0 : ∀ (a5 : (Vector (List Int) 100)) (a6 : (Vector Bool 100)) (v7 : Int) (r : ((List (List Int)) × Bool)), K0 a5 a6 v7 = some r → WAt E body11 (FQ (RetE Θ Try.f11.results.toList [] [] (AV.tup [(AV.own 43 1 (r.1.map o43)), (B r.2)]) E)) [true, true, true, false, true, false] ⟨[(0, (AV.ro 5 (p1.map o40))), (4, (AV.ptr 1 0 0)), (5, (AV.ptr 2 0 0)), (17, (AV.ro 5 (p1.map o40))), (18, (I (p1.length : Int))), (19, (I v7))], [(1, some ⟨58, 100, [((o58 a5))]⟩), (2, some ⟨59, 100, [((o59 a6))]⟩)], [1, 2, JJ]⟩) (a18 : (List Int)) (r : ((List (List Int)) × Bool)) (h : impl_SharedLocks_j1 K0 p1 a5 a6 v7 x9 a18 = some r) : WAt E body11 (FQ (RetE Θ Try.f11.results.toList [] [] (AV.tup [(AV.own 43 1 (r.1.map o43)), (B r.2)]) E)) [true, true, true, false, true, false, false, true, true, false, false, true, true, true, true] ⟨[(0, (AV.ro 5 (p1.map o40))), (4, (AV.ptr 1 0 0)), (5, (AV.ptr 2 0 0)), (7, (AV.ptr 3 0 0)), (8, (AV.sl 4 0 (List.length (a18.map o3)))), (17, (AV.ro 5 (p1.map o40))), (18, (I (p1.length : Int))), (19, (I v7))], [(1, some ⟨58, 100, [((o58 a5))]⟩), (2, some ⟨59, 100, [((o59 a6))]⟩), (3, some ⟨40, 5, [((o40 x9))]⟩), (4, some ⟨3, 1, (a18.map o3)⟩)], [1, 2, 3, 4, JJ]⟩ := by
  have hm : E.P.follows .mixedOrders = true := by rw [hP]; exact mixed
  have hΘ : TOK E.P Θ := by rw [hP]; exact Θ_ok
  unfold impl_SharedLocks_j1 at h
  obtain ⟨x19, hx19, h⟩ := bnS h
  obtain ⟨x20, hx20, h⟩ := bnS h
  exact go_to hΘ hm hx hP hn (hs := [⟨6, .sto ((o58 a5)) [(((a5.toList.map k43).set (Int.toNat x9.Obj) (AV.sl 4 0 (List.length (a18.map o3)))))], none⟩, ⟨8, .sto ((o59 a6)) [((o59 (a6.setIfInBounds (Int.toNat x9.Obj) true)))], none⟩, ⟨11, .pack 1 4 0 (Int.toNat x9.Obj) (((a5.toList.map k43).set (Int.toNat x9.Obj) (AV.sl 4 0 (List.length (a18.map o3))))) [((o58 (a5.setIfInBounds (Int.toNat x9.Obj) a18)))], none⟩]) (π := [(1, 1), (2, 2)]) (ts := [0, 4, 5, 17, 18, 19]) (kp := []) (ps := [(AV.ptr 3 0 2) = (AV.ptr 3 0 2), (I x9.Obj) = (I x9.Obj), (AV.ptr 3 0 2) = (AV.ptr 3 0 2), (AV.ptr 3 0 2) = (AV.ptr 3 0 2), (I x9.Obj) = (I x9.Obj), (I x9.Obj) = (I x9.Obj), (AV.sl 4 0 (List.length (a18.map o3))) = (AV.sl 4 0 (List.length (a18.map o3))), (AV.ptr 1 0 (Int.toNat x9.Obj)) = (AV.ptr 1 0 (Int.toNat x9.Obj)), (0 : Int) ≤ x9.Obj, x9.Obj < ((100 : Nat) : Int), [(1, some (⟨58, 100, [(((a5.toList.map k43).set (Int.toNat x9.Obj) (AV.sl 4 0 (List.length (a18.map o3)))))]⟩ : Root))] = [(1, some (⟨58, 100, [(((a5.toList.map k43).set (Int.toNat x9.Obj) (AV.sl 4 0 (List.length (a18.map o3)))))]⟩ : Root))], [((o58 a5))][0]? = some ((o58 a5)), [((o58 a5))].set 0 (wr ((o58 a5)) (Int.toNat x9.Obj) [(AV.sl 4 0 (List.length (a18.map o3)))]) = [(((a5.toList.map k43).set (Int.toNat x9.Obj) (AV.sl 4 0 (List.length (a18.map o3)))))], [(AV.sl 4 0 (List.length (a18.map o3)))].length = 1, (Int.toNat x9.Obj) + [(AV.sl 4 0 (List.length (a18.map o3)))].length ≤ ((o58 a5)).length, (0 : Int) ≤ x9.Obj, x9.Obj < ((100 : Nat) : Int), [((o59 a6))][0]? = some ((o59 a6)), [((o59 a6))].set 0 (wr ((o59 a6)) (Int.toNat x9.Obj) [(B true)]) = [((o59 (a6.setIfInBounds (Int.toNat x9.Obj) true)))], [(B true)].length = 1, (Int.toNat x9.Obj) + [(B true)].length ≤ ((o59 a6)).length, [(((a5.toList.map k43).set (Int.toNat x9.Obj) (AV.sl 4 0 (List.length (a18.map o3)))))][0]? = some (((a5.toList.map k43).set (Int.toNat x9.Obj) (AV.sl 4 0 (List.length (a18.map o3))))), (((a5.toList.map k43).set (Int.toNat x9.Obj) (AV.sl 4 0 (List.length (a18.map o3)))))[(Int.toNat x9.Obj)]? = some (AV.sl 4 0 (List.length (a18.map o3))), treeLL (a18.map o3) = true, [(((a5.toList.map k43).set (Int.toNat x9.Obj) (AV.sl 4 0 (List.length (a18.map o3)))))].set 0 ((((a5.toList.map k43).set (Int.toNat x9.Obj) (AV.sl 4 0 (List.length (a18.map o3))))).set (Int.toNat x9.Obj) (AV.own 3 1 (a18.map o3))) = [((o58 (a5.setIfInBounds (Int.toNat x9.Obj) a18)))], RenOK [(1, 1), (2, 2)] [((o58 (a5.setIfInBounds (Int.toNat x9.Obj) a18)))], RenOK [(1, 1), (2, 2)] [((o59 (a6.setIfInBounds (Int.toNat x9.Obj) true)))]]) (by kernel_rfl) ⟨rfl, rfl, rfl, rfl, rfl, rfl, rfl, rfl, (rv0 hx19), (rvL hx19), rfl, rfl, (vecWr1 k43 (AV.sl 4 0 (List.length (a18.map o3))) (rvLt hx19)), rfl, (vecLe k43 hx19), (rv0 hx20), (rvL hx20), rfl, (vecWr k4 _ (rvLt hx20)), rfl, (vecLe k4 hx20), rfl, (rvS k43 hx19), (treeM t3), (vecPk k43 a18), (rok (treeB t58 (a5.setIfInBounds (Int.toNat x9.Obj) a18))), (rok (treeB t59 (a6.setIfInBounds (Int.toNat x9.Obj) true))), trivial⟩ (hK0 (a5.setIfInBounds (Int.toNat x9.Obj) a18) (a6.setIfInBounds (Int.toNat x9.Obj) true) (w64 (v7 + 1)) _ h)
noncomputable def impl_SharedLocks_l2  (a6 : (Vector Bool 100)) : Nat → (Vector (List Int) 100) → (List (List Int)) → Int → Option ((List (List Int)) × Bool)
  | 0, _, _, _ => none
  | n + 1, a23, a24, v25 =>
  if (decide (v25 < 100)) = true then
    Option.bind (rdv a6 v25) fun x27 =>
    if x27 = true then
      Option.bind (rdv a23 v25) fun x29 =>
      Option.bind (app [v25] x29) fun l30 =>
      Option.bind (app a24 [l30]) fun l31 =>
      impl_SharedLocks_l2 a6 n a23 l31 (w64 (v25 + 1))
    else
      impl_SharedLocks_l2 a6 n a23 a24 (w64 (v25 + 1))
  else
    some (a24, true)
theorem impl_SharedLocks_l2_m {E : Env} (hP : E.P = Try.prog) (hn : E.n = 69) (hx : ∀ p, p ∈ E.fx → p.1 ∈ ([] : List Nat)) (a6 : (Vector Bool 100))  : ∀ (n : Nat) (a23 : (Vector (List Int) 100)) (a24 : (List (List Int))) (v25 : Int) (r : ((List (List Int)) × Bool)), impl_SharedLocks_l2 a6 n a23 a24 v25 = some r → WAt E body11 (FQ (RetE Θ Try.f11.results.toList [] [] (AV.tup [(AV.own 43 1 (r.1.map o43)), (B r.2)]) E)) [true, true, true, true, true, false, true, false] ⟨[(4, (AV.ptr 1 0 0)), (9, (AV.sl 2 0 (List.length (a24.map o43)))), (52, (AV.agg ((o59 a6)))), (53, (I v25))], [(1, some ⟨58, 100, [((o58 a23))]⟩), (2, some ⟨43, 1, (a24.map o43)⟩)], [1, 2, JJ]⟩ := by
  have hm : E.P.follows .mixedOrders = true := by rw [hP]; exact mixed
  have hΘ : TOK E.P Θ := by rw [hP]; exact Θ_ok
  intro n
  induction n with
  | zero => intro a23 a24 v25 r h; simp only [impl_SharedLocks_l2] at h; cases h
  | succ n ih =>
    intro a23 a24 v25 r h
    simp only [impl_SharedLocks_l2] at h
    rcases itS h with ⟨c26, h⟩ | ⟨c33, h⟩
    · obtain ⟨x27, hx27, h⟩ := bnS h
      rcases itS h with ⟨c28, h⟩ | ⟨c32, h⟩
      · obtain ⟨x29, hx29, h⟩ := bnS h
        obtain ⟨l30, hl30, h⟩ := bnS h
        obtain ⟨l31, hl31, h⟩ := bnS h
        exact go_to hΘ hm hx hP hn (hs := [⟨1, .br true, none⟩, ⟨3, .cel [] (B x27), none⟩, ⟨7, .br true, none⟩, ⟨10, .new 1001, none⟩, ⟨13, .unpack 1 1002 0 (Int.toNat v25) ((o58 a23)) 3 1 (x29.map o3) [(((a23.toList.map k43).set (Int.toNat v25) (AV.sl 1002 0 (List.length (x29.map o3)))))], none⟩, ⟨13, .cel (((a23.toList.map k43).set (Int.toNat v25) (AV.sl 1002 0 (List.length (x29.map o3))))) (AV.sl 1002 0 (List.length (x29.map o3))), none⟩, ⟨14, .app 1003 (l30.map o3), none⟩, ⟨15, .new 1004, none⟩, ⟨16, .app 1005 ((a24.map o43) ++ [[(AV.sl 1003 0 (List.length (l30.map o3)))]]), none⟩, ⟨17, .pack 1005 1003 (List.length a24) 0 [(AV.sl 1003 0 (List.length (l30.map o3)))] (l31.map o43), none⟩, ⟨20, .pack 1 1002 0 (Int.toNat v25) (((a23.toList.map k43).set (Int.toNat v25) (AV.sl 1002 0 (List.length (x29.map o3))))) [((o58 a23))], none⟩, ⟨20, .slen 9 (List.length (l31.map o43)), none⟩]) (π := [(1, 1), (1005, 2)]) (ts := [4, 9, 52, 53]) (kp := [52]) (ps := [(decide (v25 < 100)) = true, (0 : Int) ≤ v25, v25 < ((100 : Nat) : Int), ((o59 a6))[(Int.toNat v25)]? = some (B x27), x27 = true, (0 : Int) ≤ v25, v25 < ((100 : Nat) : Int), [((o58 a23))][0]? = some ((o58 a23)), ((o58 a23))[(Int.toNat v25)]? = some (AV.own 3 1 (x29.map o3)), 0 < 1, [((o58 a23))].set 0 (((o58 a23)).set (Int.toNat v25) (AV.sl 1002 0 (List.length (x29.map o3)))) = [(((a23.toList.map k43).set (Int.toNat v25) (AV.sl 1002 0 (List.length (x29.map o3)))))], (((a23.toList.map k43).set (Int.toNat v25) (AV.sl 1002 0 (List.length (x29.map o3)))))[(Int.toNat v25)]? = some (AV.sl 1002 0 (List.length (x29.map o3))), [(((a23.toList.map k43).set (Int.toNat v25) (AV.sl 1002 0 (List.length (x29.map o3)))))][0]? = some (((a23.toList.map k43).set (Int.toNat v25) (AV.sl 1002 0 (List.length (x29.map o3))))), ([v25].map o3).take (List.length ([v25].map o3)) ++ (((x29.map o3).drop 0).take (List.length (x29.map o3))) = (l30.map o3), (((x29.map o3).drop 0).take (List.length (x29.map o3))).all (fun r => r.all AV.plain) = true, (List.length (l30.map o3)) * 8 ≤ 140737488355328, (List.length (l30.map o3)) ≤ 140737488355328, (a24.map o43).take (List.length (a24.map o43)) ++ [[(AV.sl 1003 0 (List.length (l30.map o3)))]] = ((a24.map o43) ++ [[(AV.sl 1003 0 (List.length (l30.map o3)))]]), [[(AV.sl 1003 0 (List.length (l30.map o3)))]].all (fun r => r.all AV.plain) = true, (List.length ((a24.map o43) ++ [[(AV.sl 1003 0 (List.length (l30.map o3)))]])) * 24 ≤ 140737488355328, (List.length ((a24.map o43) ++ [[(AV.sl 1003 0 (List.length (l30.map o3)))]])) ≤ 140737488355328, ((a24.map o43) ++ [[(AV.sl 1003 0 (List.length (l30.map o3)))]])[(List.length a24)]? = some [(AV.sl 1003 0 (List.length (l30.map o3)))], [(AV.sl 1003 0 (List.length (l30.map o3)))][0]? = some (AV.sl 1003 0 (List.length (l30.map o3))), treeLL (l30.map o3) = true, ((a24.map o43) ++ [[(AV.sl 1003 0 (List.length (l30.map o3)))]]).set (List.length a24) ([(AV.sl 1003 0 (List.length (l30.map o3)))].set 0 (AV.own 3 1 (l30.map o3))) = (l31.map o43), [(((a23.toList.map k43).set (Int.toNat v25) (AV.sl 1002 0 (List.length (x29.map o3)))))][0]? = some (((a23.toList.map k43).set (Int.toNat v25) (AV.sl 1002 0 (List.length (x29.map o3))))), (((a23.toList.map k43).set (Int.toNat v25) (AV.sl 1002 0 (List.length (x29.map o3)))))[(Int.toNat v25)]? = some (AV.sl 1002 0 (List.length (x29.map o3))), treeLL (x29.map o3) = true, [(((a23.toList.map k43).set (Int.toNat v25) (AV.sl 1002 0 (List.length (x29.map o3)))))].set 0 ((((a23.toList.map k43).set (Int.toNat v25) (AV.sl 1002 0 (List.length (x29.map o3))))).set (Int.toNat v25) (AV.own 3 1 (x29.map o3))) = [((o58 a23))], (List.length ((a24.map o43) ++ [[(AV.sl 1003 0 (List.length (l30.map o3)))]])) = (List.length (l31.map o43)), RenOK [(1, 1), (1005, 2)] [((o58 a23))], RenOK [(1, 1), (1005, 2)] (l31.map o43), tree (AV.agg ((o59 a6))) = true]) (by kernel_rfl) ⟨c26, (rv0 hx27), (rvL hx27), (rvM k4 hx27), c28, (rv0 hx29), (rvL hx29), rfl, (rvM k43 hx29), (by decide), rfl, (rvS k43 hx29), rfl, (appTD o3 hl30), (plD p3), (appB o3 hl30 (by decide)), (appC o3 hl30), (apT o43), rfl, (apB o43 hl31 (by decide)), (apC o43 hl31), (apG o43), rfl, (treeM t3), (apS o43 hl31), rfl, (rvS k43 hx29), (treeM t3), (vecPi k43 hx29), (apLn o43 hl31), (rok (treeB t58 a23)), (rok (treeM t43)), (t59 a6), trivial⟩ (ih a23 l31 (w64 (v25 + 1)) _ h)
      · exact go_to hΘ hm hx hP hn (hs := [⟨1, .br true, none⟩, ⟨3, .cel [] (B x27), none⟩, ⟨7, .br false, none⟩]) (π := [(1, 1), (2, 2)]) (ts := [4, 9, 52, 53]) (kp := [52]) (ps := [(decide (v25 < 100)) = true, (0 : Int) ≤ v25, v25 < ((100 : Nat) : Int), ((o59 a6))[(Int.toNat v25)]? = some (B x27), x27 = false, RenOK [(1, 1), (2, 2)] [((o58 a23))], RenOK [(1, 1), (2, 2)] (a24.map o43), tree (AV.agg ((o59 a6))) = true]) (by kernel_rfl) ⟨c26, (rv0 hx27), (rvL hx27), (rvM k4 hx27), c32, (rok (treeB t58 a23)), (rok (treeM t43)), (t59 a6), trivial⟩ (ih a23 a24 (w64 (v25 + 1)) _ h)
    · have h := Option.some.inj h
      subst h
      exact go_ret hΘ hm hP hn (hs := [⟨1, .br false, none⟩]) (rh := []) (ph := .agg [.own, .raw]) (ps := [(decide (v25 < 100)) = false, treeLL ((a24.map o43).take (List.length (a24.map o43))) = true, (a24.map o43).take (List.length (a24.map o43)) = (a24.map o43), noRoLL (a24.map o43) = true, (B true) = (B true), litA (B true) = true]) (by kernel_rfl) ⟨c33, (treeT t43), takeM, (noRoM n43), rfl, rfl, trivial⟩
noncomputable def impl_SharedLocks_l0  (p1 : (List GEvent)) : Nat → (Vector (List Int) 100) → (Vector Bool 100) → Int → Option ((List (List Int)) × Bool)
  | 0, _, _, _ => none
  | n + 1, a5, a6, v7 =>
  if (decide (v7 < (p1.length : Int))) = true then
    Option.bind (rd p1 v7) fun x9 =>
    Option.bind (impl_Event_touches x9) fun r10 =>
    if (!r10) = true then
      impl_SharedLocks_l0 p1 n a5 a6 (w64 (v7 + 1))
    else
      Option.bind (impl_held p1 x9.Thread (w64 (v7 + 1))) fun r13 =>
      Option.bind (rdv a6 x9.Obj) fun x14 =>
      if x14 = true then
        Option.bind (rdv a5 x9.Obj) fun x16 =>
        Option.bind (impl_common x16 r13) fun r17 =>
        impl_SharedLocks_j1 (impl_SharedLocks_l0 p1 n) p1 a5 a6 v7 x9 r17
      else
        impl_SharedLocks_j1 (impl_SharedLocks_l0 p1 n) p1 a5 a6 v7 x9 r13
  else
    impl_SharedLocks_l2 a6 FU a5 [] 0
theorem impl_SharedLocks_l0_m {E : Env} (hP : E.P = Try.prog) (hn : E.n = 69) (hx : ∀ p, p ∈ E.fx → p.1 ∈ ([] : List Nat)) (p1 : (List GEvent))  : ∀ (n : Nat) (a5 : (Vector (List Int) 100)) (a6 : (Vector Bool 100)) (v7 : Int) (r : ((List (List Int)) × Bool)), impl_SharedLocks_l0 p1 n a5 a6 v7 = some r → WAt E body11 (FQ (RetE Θ Try.f11.results.toList [] [] (AV.tup [(AV.own 43 1 (r.1.map o43)), (B r.2)]) E)) [true, true, true, false, true, false] ⟨[(0, (AV.ro 5 (p1.map o40))), (4, (AV.ptr 1 0 0)), (5, (AV.ptr 2 0 0)), (17, (AV.ro 5 (p1.map o40))), (18, (I (p1.length : Int))), (19, (I v7))], [(1, some ⟨58, 100, [((o58 a5))]⟩), (2, some ⟨59, 100, [((o59 a6))]⟩)], [1, 2, JJ]⟩ := by
  have hm : E.P.follows .mixedOrders = true := by rw [hP]; exact mixed
  have hΘ : TOK E.P Θ := by rw [hP]; exact Θ_ok
  intro n
  induction n with
  | zero => intro a5 a6 v7 r h; simp only [impl_SharedLocks_l0] at h; cases h
  | succ n ih =>
    intro a5 a6 v7 r h
    simp only [impl_SharedLocks_l0] at h
    rcases itS h with ⟨c8, h⟩ | ⟨c22, h⟩
    · obtain ⟨x9, hx9, h⟩ := bnS h
      obtain ⟨r10, hr10, h⟩ := bnS h
      rcases itS h with ⟨c11, h⟩ | ⟨c12, h⟩
      · exact go_to hΘ hm hx hP hn (hs := [⟨1, .br true, none⟩, ⟨3, .row (o40 x9), none⟩, ⟨5, .new 1001, none⟩, ⟨9, .callV [[]] (B r10), none⟩, ⟨11, .br true, none⟩]) (π := [(1, 1), (2, 2)]) (ts := [0, 4, 5, 17, 18, 19]) (kp := []) (ps := [(decide (v7 < (p1.length : Int))) = true, (0 : Int) ≤ v7, (p1.map o40)[(Int.toNat v7)]? = some (o40 x9), Meets Try.prog 23 [(AV.agg ((o40 x9)))] (B r10), litA (B r10) = true, (!r10) = true, RenOK [(1, 1), (2, 2)] [((o58 a5))], RenOK [(1, 1), (2, 2)] [((o59 a6))]]) (by kernel_rfl) ⟨c8, (rd0 hx9), (rdM o40 hx9), (impl_Event_touches_m hr10), rfl, c11, (rok (treeB t58 a5)), (rok (treeB t59 a6)), trivial⟩ (ih a5 a6 (w64 (v7 + 1)) _ h)
      · obtain ⟨r13, hr13, h⟩ := bnS h
        obtain ⟨x14, hx14, h⟩ := bnS h
        rcases itS h with ⟨c15, h⟩ | ⟨c21, h⟩
        · obtain ⟨x16, hx16, h⟩ := bnS h
          obtain ⟨r17, hr17, h⟩ := bnS h
          exact go_to hΘ hm hx hP hn (hs := [⟨1, .br true, none⟩, ⟨3, .row (o40 x9), none⟩, ⟨5, .new 1001, none⟩, ⟨9, .callV [[]] (B r10), none⟩, ⟨11, .br false, none⟩, ⟨17, .call [] (AV.own 3 1 (r13.map o3)) [1002], none⟩, ⟨22, .cel ((o59 a6)) (B x14), none⟩, ⟨23, .br true, none⟩, ⟨27, .unpack 1 1003 0 (Int.toNat x9.Obj) ((o58 a5)) 3 1 (x16.map o3) [(((a5.toList.map k43).set (Int.toNat x9.Obj) (AV.sl 1003 0 (List.length (x16.map o3)))))], none⟩, ⟨27, .cel (((a5.toList.map k43).set (Int.toNat x9.Obj) (AV.sl 1003 0 (List.length (x16.map o3))))) (AV.sl 1003 0 (List.length (x16.map o3))), none⟩, ⟨29, .call [(x16.map o3), (r13.map o3)] (AV.own 3 1 (r17.map o3)) [1004], none⟩, ⟨31, .pack 1 1003 0 (Int.toNat x9.Obj) (((a5.toList.map k43).set (Int.toNat x9.Obj) (AV.sl 1003 0 (List.length (x16.map o3))))) [((o58 a5))], none⟩]) (π := [(1, 1), (2, 2), (1001, 3), (1004, 4)]) (ts := [0, 4, 5, 7, 8, 17, 18, 19]) (kp := []) (ps := [(decide (v7 < (p1.length : Int))) = true, (0 : Int) ≤ v7, (p1.map o40)[(Int.toNat v7)]? = some (o40 x9), Meets Try.prog 23 [(AV.agg ((o40 x9)))] (B r10), litA (B r10) = true, (!r10) = false, Meets Try.prog 28 [(AV.ro 5 (p1.map o40)), (I x9.Thread), (I (w64 (v7 + 1)))] (AV.own 3 1 (r13.map o3)), noRo (AV.own 3 1 (r13.map o3)) = true, (0 : Int) ≤ x9.Obj, x9.Obj < ((100 : Nat) : Int), ((o59 a6))[(Int.toNat x9.Obj)]? = some (B x14), [((o59 a6))][0]? = some ((o59 a6)), x14 = true, (0 : Int) ≤ x9.Obj, x9.Obj < ((100 : Nat) : Int), [((o58 a5))][0]? = some ((o58 a5)), ((o58 a5))[(Int.toNat x9.Obj)]? = some (AV.own 3 1 (x16.map o3)), 0 < 1, [((o58 a5))].set 0 (((o58 a5)).set (Int.toNat x9.Obj) (AV.sl 1003 0 (List.length (x16.map o3)))) = [(((a5.toList.map k43).set (Int.toNat x9.Obj) (AV.sl 1003 0 (List.length (x16.map o3)))))], (((a5.toList.map k43).set (Int.toNat x9.Obj) (AV.sl 1003 0 (List.length (x16.map o3)))))[(Int.toNat x9.Obj)]? = some (AV.sl 1003 0 (List.length (x16.map o3))), [(((a5.toList.map k43).set (Int.toNat x9.Obj) (AV.sl 1003 0 (List.length (x16.map o3)))))][0]? = some (((a5.toList.map k43).set (Int.toNat x9.Obj) (AV.sl 1003 0 (List.length (x16.map o3))))), Meets Try.prog 29 [(AV.ro 1 (x16.map o3)), (AV.ro 1 (r13.map o3))] (AV.own 3 1 (r17.map o3)), noRo (AV.own 3 1 (r17.map o3)) = true, Frz (((x16.map o3).drop 0).take (List.length (x16.map o3))) (x16.map o3), Frz (((r13.map o3).drop 0).take (List.length (r13.map o3))) (r13.map o3), [(((a5.toList.map k43).set (Int.toNat x9.Obj) (AV.sl 1003 0 (List.length (x16.map o3)))))][0]? = some (((a5.toList.map k43).set (Int.toNat x9.Obj) (AV.sl 1003 0 (List.length (x16.map o3))))), (((a5.toList.map k43).set (Int.toNat x9.Obj) (AV.sl 1003 0 (List.length (x16.map o3)))))[(Int.toNat x9.Obj)]? = some (AV.sl 1003 0 (List.length (x16.map o3))), treeLL (x16.map o3) = true, [(((a5.toList.map k43).set (Int.toNat x9.Obj) (AV.sl 1003 0 (List.length (x16.map o3)))))].set 0 ((((a5.toList.map k43).set (Int.toNat x9.Obj) (AV.sl 1003 0 (List.length (x16.map o3))))).set (Int.toNat x9.Obj) (AV.own 3 1 (x16.map o3))) = [((o58 a5))], RenOK [(1, 1), (2, 2), (1001, 3), (1004, 4)] [((o58 a5))], RenOK [(1, 1), (2, 2), (1001, 3), (1004, 4)] [((o59 a6))], RenOK [(1, 1), (2, 2), (1001, 3), (1004, 4)] [((o40 x9))], RenOK [(1, 1), (2, 2), (1001, 3), (1004, 4)] (r17.map o3)]) (by kernel_rfl) ⟨c8, (rd0 hx9), (rdM o40 hx9), (impl_Event_touches_m hr10), rfl, c12, (impl_held_m hr13), (by simp only [noRo, noRoL, noRoM n3, Bool.and_self]), (rv0 hx14), (rvL hx14), (rvM k4 hx14), rfl, c15, (rv0 hx16), (rvL hx16), rfl, (rvM k43 hx16), (by decide), rfl, (rvS k43 hx16), rfl, (impl_common_m hr17), (by simp only [noRo, noRoL, noRoM n3, Bool.and_self]), (frzF t3 z3), (frzF t3 z3), rfl, (rvS k43 hx16), (treeM t3), (vecPi k43 hx16), (rok (treeB t58 a5)), (rok (treeB t59 a6)), (rok rfl), (rok (treeM t3)), trivial⟩ (impl_SharedLocks_j1_m hP hn hx p1 a5 a6 v7 x9 ih r17 _ h)
        · exact go_to hΘ hm hx hP hn (hs := [⟨1, .br true, none⟩, ⟨3, .row (o40 x9), none⟩, ⟨5, .new 1001, none⟩, ⟨9, .callV [[]] (B r10), none⟩, ⟨11, .br false, none⟩, ⟨17, .call [] (AV.own 3 1 (r13.map o3)) [1002], none⟩, ⟨22, .cel ((o59 a6)) (B x14), none⟩, ⟨23, .br false, none⟩]) (π := [(1, 1), (2, 2), (1001, 3), (1002, 4)]) (ts := [0, 4, 5, 7, 8, 17, 18, 19]) (kp := []) (ps := [(decide (v7 < (p1.length : Int))) = true, (0 : Int) ≤ v7, (p1.map o40)[(Int.toNat v7)]? = some (o40 x9), Meets Try.prog 23 [(AV.agg ((o40 x9)))] (B r10), litA (B r10) = true, (!r10) = false, Meets Try.prog 28 [(AV.ro 5 (p1.map o40)), (I x9.Thread), (I (w64 (v7 + 1)))] (AV.own 3 1 (r13.map o3)), noRo (AV.own 3 1 (r13.map o3)) = true, (0 : Int) ≤ x9.Obj, x9.Obj < ((100 : Nat) : Int), ((o59 a6))[(Int.toNat x9.Obj)]? = some (B x14), [((o59 a6))][0]? = some ((o59 a6)), x14 = false, RenOK [(1, 1), (2, 2), (1001, 3), (1002, 4)] [((o58 a5))], RenOK [(1, 1), (2, 2), (1001, 3), (1002, 4)] [((o59 a6))], RenOK [(1, 1), (2, 2), (1001, 3), (1002, 4)] [((o40 x9))], RenOK [(1, 1), (2, 2), (1001, 3), (1002, 4)] (r13.map o3)]) (by kernel_rfl) ⟨c8, (rd0 hx9), (rdM o40 hx9), (impl_Event_touches_m hr10), rfl, c12, (impl_held_m hr13), (by simp only [noRo, noRoL, noRoM n3, Bool.and_self]), (rv0 hx14), (rvL hx14), (rvM k4 hx14), rfl, c21, (rok (treeB t58 a5)), (rok (treeB t59 a6)), (rok rfl), (rok (treeM t3)), trivial⟩ (impl_SharedLocks_j1_m hP hn hx p1 a5 a6 v7 x9 ih r13 _ h)
    · exact go_to hΘ hm hx hP hn (hs := [⟨1, .br false, none⟩, ⟨2, .new 1001, none⟩, ⟨4, .agg ((o59 a6)) ((o59 a6)), none⟩]) (π := [(1, 1), (1001, 2)]) (ts := [4, 9, 52, 53]) (kp := [52]) (ps := [(decide (v7 < (p1.length : Int))) = false, 0 + 100 ≤ ((o59 a6)).length, (((o59 a6)).drop 0).take 100 = ((o59 a6)), ((o59 a6)).all AV.plain = true, [((o59 a6))][0]? = some ((o59 a6)), RenOK [(1, 1), (1001, 2)] [((o58 a5))], RenOK [(1, 1), (1001, 2)] ([].map o43), tree (AV.agg ((o59 a6))) = true]) (by kernel_rfl) ⟨c22, (vecLe0 k4), (vecAgg k4), (p59 _), rfl, (rok (treeB t58 a5)), (rok (treeM t43)), (t59 a6), trivial⟩ (impl_SharedLocks_l2_m hP hn hx a6 FU a5 [] 0 _ h)
noncomputable def impl_SharedLocks (p1 : (List GEvent)) : Option ((List (List Int)) × Bool) :=
  Option.bind (impl_GoodTrace p1) fun r2 =>
  if (!r2) = true then
    some ([], false)
  else
    impl_SharedLocks_l0 p1 FU (Vector.replicate 100 []) (Vector.replicate 100 false) 0
theorem impl_SharedLocks_m {p1 : (List GEvent)} {r : ((List (List Int)) × Bool)} (h : impl_SharedLocks p1 = some r) : Meets Try.prog 11 [(AV.ro 5 (p1.map o40))] (AV.tup [(AV.own 43 1 (r.1.map o43)), (B r.2)]) := by
  refine meets_ofC Θ_ok Try.func11 rfl (c := body11) (by kernel_rfl) (Nat.le_of_ble_eq_true rfl) ?_
  intro E hP hn hx
  replace hn : E.n = 69 := hn
  have hm : E.P.follows .mixedOrders = true := by rw [hP]; exact mixed
  have hΘ : TOK E.P Θ := by rw [hP]; exact Θ_ok
  unfold impl_SharedLocks at h
  show WAt E body11 (FQ (RetE Θ Try.f11.results.toList [] [] (AV.tup [(AV.own 43 1 (r.1.map o43)), (B r.2)]) E)) [] ⟨[(0, (AV.ro 5 (p1.map o40)))], [], [JJ]⟩
  obtain ⟨r2, hr2, h⟩ := bnS h
  rcases itS h with ⟨c3, h⟩ | ⟨c4, h⟩
  · have h := Option.some.inj h
    subst h
    exact go_ret hΘ hm hP hn (hs := [⟨3, .callV [] (B r2), none⟩, ⟨5, .br true, none⟩]) (rh := []) (ph := .agg [.own, .raw]) (ps := [Meets Try.prog 21 [(AV.ro 5 (p1.map o40))] (B r2), litA (B r2) = true, (!r2) = true, (B false) = (B false), litA (B false) = true]) (by kernel_rfl) ⟨(impl_GoodTrace_m hr2), rfl, c3, rfl, rfl, trivial⟩
  · exact go_to hΘ hm hx hP hn (hs := [⟨3, .callV [] (B r2), none⟩, ⟨5, .br false, none⟩, ⟨6, .no, some (AV.agg ((List.replicate 100 (AV.lit (.slice none 0 0)))))⟩, ⟨7, .no, some (AV.agg ((o59 (Vector.replicate 100 false))))⟩, ⟨8, .nw 1001 [((List.replicate 100 (AV.lit (.slice none 0 0))))], none⟩, ⟨9, .nw 1002 [((o59 (Vector.replicate 100 false)))], none⟩, ⟨10, .stoS ((List.replicate 100 (AV.lit (.slice none 0 0)))) [((List.replicate 100 (AV.lit (.slice none 0 0))))], none⟩, ⟨11, .stoS ((o59 (Vector.replicate 100 false))) [((o59 (Vector.replicate 100 false)))], none⟩, ⟨13, .no, some (I (p1.length : Int))⟩, ⟨15, .own1 1001 100 3 1 [((o58 (Vector.replicate 100 [])))], none⟩]) (π := [(1001, 1), (1002, 2)]) (ts := [0, 4, 5, 17, 18, 19]) (kp := []) (ps := [Meets Try.prog 21 [(AV.ro 5 (p1.map o40))] (B r2), litA (B r2) = true, (!r2) = false, AV.agg (litL (List.replicate 100 (.slice none 0 0))) = (AV.agg ((List.replicate 100 (AV.lit (.slice none 0 0))))), AV.agg (litL (List.replicate 100 (.bool false))) = (AV.agg ((o59 (Vector.replicate 100 false)))), [litL (List.replicate 100 (.slice none 0 0))] = [((List.replicate 100 (AV.lit (.slice none 0 0))))], [litL (List.replicate 100 (.bool false))] = [((o59 (Vector.replicate 100 false)))], [((List.replicate 100 (AV.lit (.slice none 0 0))))][0]? = some ((List.replicate 100 (AV.lit (.slice none 0 0)))), [((List.replicate 100 (AV.lit (.slice none 0 0))))].set 0 (wr ((List.replicate 100 (AV.lit (.slice none 0 0)))) 0 ((List.replicate 100 (AV.lit (.slice none 0 0))))) = [((List.replicate 100 (AV.lit (.slice none 0 0))))], ((List.replicate 100 (AV.lit (.slice none 0 0)))).length = 100, 0 + ((List.replicate 100 (AV.lit (.slice none 0 0)))).length ≤ ((List.replicate 100 (AV.lit (.slice none 0 0)))).length, ((List.replicate 100 (AV.lit (.slice none 0 0)))).all okLit = true, [((o59 (Vector.replicate 100 false)))][0]? = some ((o59 (Vector.replicate 100 false))), [((o59 (Vector.replicate 100 false)))].set 0 (wr ((o59 (Vector.replicate 100 false))) 0 ((o59 (Vector.replicate 100 false)))) = [((o59 (Vector.replicate 100 false)))], ((o59 (Vector.replicate 100 false))).length = 100, 0 + ((o59 (Vector.replicate 100 false))).length ≤ ((o59 (Vector.replicate 100 false))).length, ((o59 (Vector.replicate 100 false))).all okLit = true, AV.lit (.int .i64 (((p1.map o40).length : Nat) : Int)) = (I (p1.length : Int)), [((List.replicate 100 (AV.lit (.slice none 0 0))))] = [List.replicate 100 (.lit (.slice none 0 0))], [List.replicate 100 (.own 3 1 [])] = [((o58 (Vector.replicate 100 [])))], RenOK [(1001, 1), (1002, 2)] [((o58 (Vector.replicate 100 [])))], RenOK [(1001, 1), (1002, 2)] [((o59 (Vector.replicate 100 false)))]]) (by kernel_rfl) ⟨(impl_GoodTrace_m hr2), rfl, c4, nzA, (vecZeroA k4 rfl), nzR, (vecZero k4 rfl), rfl, nzS, nzL, nzLL, (nzK rfl), rfl, (vecSt k4 k4), (vecLen k4), (vecLL k4 k4), (vecAll k4 (fun _ => rfl)), (lenM o40), rfl, (nzO k43 rfl), (rok (treeB t58 (Vector.replicate 100 []))), (rok (treeB t59 (Vector.replicate 100 false))), trivial⟩ (impl_SharedLocks_l0_m hP hn hx p1 FU (Vector.replicate 100 []) (Vector.replicate 100 false) 0 _ h)
noncomputable def body24 : Code := match Try.f24.body with | some c => c | none => .skip
noncomputable def laws_eqEvent (p1 : GEvent) (p2 : GEvent) : Option Bool :=
  if (p1.Thread != p2.Thread) = true then
    some false
  else
    if (p1.Kind != p2.Kind) = true then
      some false
    else
      if (p1.Obj != p2.Obj) = true then
        some false
      else
        if (p1.Lock != p2.Lock) = true then
          some false
        else
          if (p1.Pc != p2.Pc) = true then
            some false
          else
            some true
theorem laws_eqEvent_m {p1 : GEvent} {p2 : GEvent} {r : Bool} (h : laws_eqEvent p1 p2 = some r) : Meets Try.prog 24 [(AV.agg ((o40 p1))), (AV.agg ((o40 p2)))] (B r) := by
  refine meets_ofC Θ_ok Try.func24 rfl (c := body24) (by kernel_rfl) (Nat.le_of_ble_eq_true rfl) ?_
  intro E hP hn hx
  replace hn : E.n = 30 := hn
  have hm : E.P.follows .mixedOrders = true := by rw [hP]; exact mixed
  have hΘ : TOK E.P Θ := by rw [hP]; exact Θ_ok
  unfold laws_eqEvent at h
  show WAt E body24 (FQ (RetE Θ Try.f24.results.toList [] [] (B r) E)) [] ⟨[(0, (AV.agg ((o40 p1)))), (1, (AV.agg ((o40 p2))))], [], [JJ]⟩
  rcases itS h with ⟨c3, h⟩ | ⟨c4, h⟩
  · have h := Option.some.inj h
    subst h
    exact go_ret hΘ hm hP hn (hs := [⟨0, .new 1001, none⟩, ⟨1, .new 1002, none⟩, ⟨8, .br true, none⟩]) (rh := []) (ph := .raw) (ps := [(p1.Thread != p2.Thread) = true, (B false) = (B false), litA (B false) = true]) (by kernel_rfl) ⟨c3, rfl, rfl, trivial⟩
  · rcases itS h with ⟨c5, h⟩ | ⟨c6, h⟩
    · have h := Option.some.inj h
      subst h
      exact go_ret hΘ hm hP hn (hs := [⟨0, .new 1001, none⟩, ⟨1, .new 1002, none⟩, ⟨8, .br false, none⟩, ⟨14, .br true, none⟩]) (rh := []) (ph := .raw) (ps := [(p1.Thread != p2.Thread) = false, (p1.Kind != p2.Kind) = true, (B false) = (B false), litA (B false) = true]) (by kernel_rfl) ⟨c4, c5, rfl, rfl, trivial⟩
    · rcases itS h with ⟨c7, h⟩ | ⟨c8, h⟩
      · have h := Option.some.inj h
        subst h
        exact go_ret hΘ hm hP hn (hs := [⟨0, .new 1001, none⟩, ⟨1, .new 1002, none⟩, ⟨8, .br false, none⟩, ⟨14, .br false, none⟩, ⟨20, .br true, none⟩]) (rh := []) (ph := .raw) (ps := [(p1.Thread != p2.Thread) = false, (p1.Kind != p2.Kind) = false, (p1.Obj != p2.Obj) = true, (B false) = (B false), litA (B false) = true]) (by kernel_rfl) ⟨c4, c6, c7, rfl, rfl, trivial⟩
      · rcases itS h with ⟨c9, h⟩ | ⟨c10, h⟩
        · have h := Option.some.inj h
          subst h
          exact go_ret hΘ hm hP hn (hs := [⟨0, .new 1001, none⟩, ⟨1, .new 1002, none⟩, ⟨8, .br false, none⟩, ⟨14, .br false, none⟩, ⟨20, .br false, none⟩, ⟨26, .br true, none⟩]) (rh := []) (ph := .raw) (ps := [(p1.Thread != p2.Thread) = false, (p1.Kind != p2.Kind) = false, (p1.Obj != p2.Obj) = false, (p1.Lock != p2.Lock) = true, (B false) = (B false), litA (B false) = true]) (by kernel_rfl) ⟨c4, c6, c8, c9, rfl, rfl, trivial⟩
        · rcases itS h with ⟨c11, h⟩ | ⟨c12, h⟩
          · have h := Option.some.inj h
            subst h
            exact go_ret hΘ hm hP hn (hs := [⟨0, .new 1001, none⟩, ⟨1, .new 1002, none⟩, ⟨8, .br false, none⟩, ⟨14, .br false, none⟩, ⟨20, .br false, none⟩, ⟨26, .br false, none⟩, ⟨32, .br true, none⟩]) (rh := []) (ph := .raw) (ps := [(p1.Thread != p2.Thread) = false, (p1.Kind != p2.Kind) = false, (p1.Obj != p2.Obj) = false, (p1.Lock != p2.Lock) = false, (p1.Pc != p2.Pc) = true, (B false) = (B false), litA (B false) = true]) (by kernel_rfl) ⟨c4, c6, c8, c10, c11, rfl, rfl, trivial⟩
          · have h := Option.some.inj h
            subst h
            exact go_ret hΘ hm hP hn (hs := [⟨0, .new 1001, none⟩, ⟨1, .new 1002, none⟩, ⟨8, .br false, none⟩, ⟨14, .br false, none⟩, ⟨20, .br false, none⟩, ⟨26, .br false, none⟩, ⟨32, .br false, none⟩]) (rh := []) (ph := .raw) (ps := [(p1.Thread != p2.Thread) = false, (p1.Kind != p2.Kind) = false, (p1.Obj != p2.Obj) = false, (p1.Lock != p2.Lock) = false, (p1.Pc != p2.Pc) = false, (B true) = (B true), litA (B true) = true]) (by kernel_rfl) ⟨c4, c6, c8, c10, c12, rfl, rfl, trivial⟩
noncomputable def body9 : Code := match Try.f9.body with | some c => c | none => .skip
noncomputable def laws_eqEventS_l0  (p1 : (List GEvent)) (p2 : (List GEvent)) : Nat → Int → Option Bool
  | 0, _ => none
  | n + 1, v5 =>
  if (decide (v5 < (p1.length : Int))) = true then
    Option.bind (rd p1 v5) fun x7 =>
    Option.bind (rd p2 v5) fun x8 =>
    Option.bind (laws_eqEvent x7 x8) fun r9 =>
    if (!r9) = true then
      some false
    else
      laws_eqEventS_l0 p1 p2 n (w64 (v5 + 1))
  else
    some true
theorem laws_eqEventS_l0_m {E : Env} (hP : E.P = Try.prog) (hn : E.n = 27) (hx : ∀ p, p ∈ E.fx → p.1 ∈ ([] : List Nat)) (p1 : (List GEvent)) (p2 : (List GEvent))  : ∀ (n : Nat) (v5 : Int) (r : Bool), laws_eqEventS_l0 p1 p2 n v5 = some r → WAt E body9 (FQ (RetE Θ Try.f9.results.toList [] [] (B r) E)) [true, true, false, true, false] ⟨[(0, (AV.ro 5 (p1.map o40))), (1, (AV.ro 5 (p2.map o40))), (5, (I v5))], [], [JJ]⟩ := by
  have hm : E.P.follows .mixedOrders = true := by rw [hP]; exact mixed
  have hΘ : TOK E.P Θ := by rw [hP]; exact Θ_ok
  intro n
  induction n with
  | zero => intro v5 r h; simp only [laws_eqEventS_l0] at h; cases h
  | succ n ih =>
    intro v5 r h
    simp only [laws_eqEventS_l0] at h
    rcases itS h with ⟨c6, h⟩ | ⟨c12, h⟩
    · obtain ⟨x7, hx7, h⟩ := bnS h
      obtain ⟨x8, hx8, h⟩ := bnS h
      obtain ⟨r9, hr9, h⟩ := bnS h
      rcases itS h with ⟨c10, h⟩ | ⟨c11, h⟩
      · have h := Option.some.inj h
        subst h
        exact go_ret hΘ hm hP hn (hs := [⟨2, .no, some (I (p1.length : Int))⟩, ⟨4, .br true, none⟩, ⟨7, .row (o40 x7), none⟩, ⟨11, .row (o40 x8), none⟩, ⟨13, .callV [[], []] (B r9), none⟩, ⟨15, .br true, none⟩]) (rh := []) (ph := .raw) (ps := [AV.lit (.int .i64 (((p1.map o40).length : Nat) : Int)) = (I (p1.length : Int)), (decide (v5 < (p1.length : Int))) = true, (0 : Int) ≤ v5, (p1.map o40)[(Int.toNat v5)]? = some (o40 x7), (0 : Int) ≤ v5, (p2.map o40)[(Int.toNat v5)]? = some (o40 x8), Meets Try.prog 24 [(AV.agg ((o40 x7))), (AV.agg ((o40 x8)))] (B r9), litA (B r9) = true, (!r9) = true, (B false) = (B false), litA (B false) = true]) (by kernel_rfl) ⟨(lenM o40), c6, (rd0 hx7), (rdM o40 hx7), (rd0 hx8), (rdM o40 hx8), (laws_eqEvent_m hr9), rfl, c10, rfl, rfl, trivial⟩
      · exact go_to hΘ hm hx hP hn (hs := [⟨2, .no, some (I (p1.length : Int))⟩, ⟨4, .br true, none⟩, ⟨7, .row (o40 x7), none⟩, ⟨11, .row (o40 x8), none⟩, ⟨13, .callV [[], []] (B r9), none⟩, ⟨15, .br false, none⟩]) (π := []) (ts := [0, 1, 5]) (kp := []) (ps := [AV.lit (.int .i64 (((p1.map o40).length : Nat) : Int)) = (I (p1.length : Int)), (decide (v5 < (p1.length : Int))) = true, (0 : Int) ≤ v5, (p1.map o40)[(Int.toNat v5)]? = some (o40 x7), (0 : Int) ≤ v5, (p2.map o40)[(Int.toNat v5)]? = some (o40 x8), Meets Try.prog 24 [(AV.agg ((o40 x7))), (AV.agg ((o40 x8)))] (B r9), litA (B r9) = true, (!r9) = false]) (by kernel_rfl) ⟨(lenM o40), c6, (rd0 hx7), (rdM o40 hx7), (rd0 hx8), (rdM o40 hx8), (laws_eqEvent_m hr9), rfl, c11, trivial⟩ (ih (w64 (v5 + 1)) _ h)
    · have h := Option.some.inj h
      subst h
      exact go_ret hΘ hm hP hn (hs := [⟨2, .no, some (I (p1.length : Int))⟩, ⟨4, .br false, none⟩]) (rh := []) (ph := .raw) (ps := [AV.lit (.int .i64 (((p1.map o40).length : Nat) : Int)) = (I (p1.length : Int)), (decide (v5 < (p1.length : Int))) = false, (B true) = (B true), litA (B true) = true]) (by kernel_rfl) ⟨(lenM o40), c12, rfl, rfl, trivial⟩
noncomputable def laws_eqEventS (p1 : (List GEvent)) (p2 : (List GEvent)) : Option Bool :=
  if ((p1.length : Int) != (p2.length : Int)) = true then
    some false
  else
    laws_eqEventS_l0 p1 p2 FU 0
theorem laws_eqEventS_m {p1 : (List GEvent)} {p2 : (List GEvent)} {r : Bool} (h : laws_eqEventS p1 p2 = some r) : Meets Try.prog 9 [(AV.ro 5 (p1.map o40)), (AV.ro 5 (p2.map o40))] (B r) := by
  refine meets_ofC Θ_ok Try.func9 rfl (c := body9) (by kernel_rfl) (Nat.le_of_ble_eq_true rfl) ?_
  intro E hP hn hx
  replace hn : E.n = 27 := hn
  have hm : E.P.follows .mixedOrders = true := by rw [hP]; exact mixed
  have hΘ : TOK E.P Θ := by rw [hP]; exact Θ_ok
  unfold laws_eqEventS at h
  show WAt E body9 (FQ (RetE Θ Try.f9.results.toList [] [] (B r) E)) [] ⟨[(0, (AV.ro 5 (p1.map o40))), (1, (AV.ro 5 (p2.map o40)))], [], [JJ]⟩
  rcases itS h with ⟨c3, h⟩ | ⟨c4, h⟩
  · have h := Option.some.inj h
    subst h
    exact go_ret hΘ hm hP hn (hs := [⟨2, .no, some (I (p1.length : Int))⟩, ⟨4, .no, some (I (p2.length : Int))⟩, ⟨6, .br true, none⟩]) (rh := []) (ph := .raw) (ps := [AV.lit (.int .i64 (((p1.map o40).length : Nat) : Int)) = (I (p1.length : Int)), AV.lit (.int .i64 (((p2.map o40).length : Nat) : Int)) = (I (p2.length : Int)), ((p1.length : Int) != (p2.length : Int)) = true, (B false) = (B false), litA (B false) = true]) (by kernel_rfl) ⟨(lenM o40), (lenM o40), c3, rfl, rfl, trivial⟩
  · exact go_to hΘ hm hx hP hn (hs := [⟨2, .no, some (I (p1.length : Int))⟩, ⟨4, .no, some (I (p2.length : Int))⟩, ⟨6, .br false, none⟩]) (π := []) (ts := [0, 1, 5]) (kp := []) (ps := [AV.lit (.int .i64 (((p1.map o40).length : Nat) : Int)) = (I (p1.length : Int)), AV.lit (.int .i64 (((p2.map o40).length : Nat) : Int)) = (I (p2.length : Int)), ((p1.length : Int) != (p2.length : Int)) = false]) (by kernel_rfl) ⟨(lenM o40), (lenM o40), c4, trivial⟩ (laws_eqEventS_l0_m hP hn hx p1 p2 FU 0 _ h)
noncomputable def body30 : Code := match Try.f30.body with | some c => c | none => .skip
noncomputable def laws_eqIntS_l0  (p1 : (List Int)) (p2 : (List Int)) : Nat → Int → Option Bool
  | 0, _ => none
  | n + 1, v5 =>
  if (decide (v5 < (p1.length : Int))) = true then
    Option.bind (rd p1 v5) fun x7 =>
    Option.bind (rd p2 v5) fun x8 =>
    if (x7 != x8) = true then
      some false
    else
      laws_eqIntS_l0 p1 p2 n (w64 (v5 + 1))
  else
    some true
theorem laws_eqIntS_l0_m {E : Env} (hP : E.P = Try.prog) (hn : E.n = 26) (hx : ∀ p, p ∈ E.fx → p.1 ∈ ([] : List Nat)) (p1 : (List Int)) (p2 : (List Int))  : ∀ (n : Nat) (v5 : Int) (r : Bool), laws_eqIntS_l0 p1 p2 n v5 = some r → WAt E body30 (FQ (RetE Θ Try.f30.results.toList [] [] (B r) E)) [true, true, false, true, false] ⟨[(0, (AV.ro 1 (p1.map o3))), (1, (AV.ro 1 (p2.map o3))), (5, (I v5))], [], [JJ]⟩ := by
  have hm : E.P.follows .mixedOrders = true := by rw [hP]; exact mixed
  have hΘ : TOK E.P Θ := by rw [hP]; exact Θ_ok
  intro n
  induction n with
  | zero => intro v5 r h; simp only [laws_eqIntS_l0] at h; cases h
  | succ n ih =>
    intro v5 r h
    simp only [laws_eqIntS_l0] at h
    rcases itS h with ⟨c6, h⟩ | ⟨c11, h⟩
    · obtain ⟨x7, hx7, h⟩ := bnS h
      obtain ⟨x8, hx8, h⟩ := bnS h
      rcases itS h with ⟨c9, h⟩ | ⟨c10, h⟩
      · have h := Option.some.inj h
        subst h
        exact go_ret hΘ hm hP hn (hs := [⟨2, .no, some (I (p1.length : Int))⟩, ⟨4, .br true, none⟩, ⟨7, .row (o3 x7), none⟩, ⟨11, .row (o3 x8), none⟩, ⟨14, .br true, none⟩]) (rh := []) (ph := .raw) (ps := [AV.lit (.int .i64 (((p1.map o3).length : Nat) : Int)) = (I (p1.length : Int)), (decide (v5 < (p1.length : Int))) = true, (0 : Int) ≤ v5, (p1.map o3)[(Int.toNat v5)]? = some (o3 x7), (0 : Int) ≤ v5, (p2.map o3)[(Int.toNat v5)]? = some (o3 x8), (x7 != x8) = true, (B false) = (B false), litA (B false) = true]) (by kernel_rfl) ⟨(lenM o3), c6, (rd0 hx7), (rdM o3 hx7), (rd0 hx8), (rdM o3 hx8), c9, rfl, rfl, trivial⟩
      · exact go_to hΘ hm hx hP hn (hs := [⟨2, .no, some (I (p1.length : Int))⟩, ⟨4, .br true, none⟩, ⟨7, .row (o3 x7), none⟩, ⟨11, .row (o3 x8), none⟩, ⟨14, .br false, none⟩]) (π := []) (ts := [0, 1, 5]) (kp := []) (ps := [AV.lit (.int .i64 (((p1.map o3).length : Nat) : Int)) = (I (p1.length : Int)), (decide (v5 < (p1.length : Int))) = true, (0 : Int) ≤ v5, (p1.map o3)[(Int.toNat v5)]? = some (o3 x7), (0 : Int) ≤ v5, (p2.map o3)[(Int.toNat v5)]? = some (o3 x8), (x7 != x8) = false]) (by kernel_rfl) ⟨(lenM o3), c6, (rd0 hx7), (rdM o3 hx7), (rd0 hx8), (rdM o3 hx8), c10, trivial⟩ (ih (w64 (v5 + 1)) _ h)
    · have h := Option.some.inj h
      subst h
      exact go_ret hΘ hm hP hn (hs := [⟨2, .no, some (I (p1.length : Int))⟩, ⟨4, .br false, none⟩]) (rh := []) (ph := .raw) (ps := [AV.lit (.int .i64 (((p1.map o3).length : Nat) : Int)) = (I (p1.length : Int)), (decide (v5 < (p1.length : Int))) = false, (B true) = (B true), litA (B true) = true]) (by kernel_rfl) ⟨(lenM o3), c11, rfl, rfl, trivial⟩
noncomputable def laws_eqIntS (p1 : (List Int)) (p2 : (List Int)) : Option Bool :=
  if ((p1.length : Int) != (p2.length : Int)) = true then
    some false
  else
    laws_eqIntS_l0 p1 p2 FU 0
theorem laws_eqIntS_m {p1 : (List Int)} {p2 : (List Int)} {r : Bool} (h : laws_eqIntS p1 p2 = some r) : Meets Try.prog 30 [(AV.ro 1 (p1.map o3)), (AV.ro 1 (p2.map o3))] (B r) := by
  refine meets_ofC Θ_ok Try.func30 rfl (c := body30) (by kernel_rfl) (Nat.le_of_ble_eq_true rfl) ?_
  intro E hP hn hx
  replace hn : E.n = 26 := hn
  have hm : E.P.follows .mixedOrders = true := by rw [hP]; exact mixed
  have hΘ : TOK E.P Θ := by rw [hP]; exact Θ_ok
  unfold laws_eqIntS at h
  show WAt E body30 (FQ (RetE Θ Try.f30.results.toList [] [] (B r) E)) [] ⟨[(0, (AV.ro 1 (p1.map o3))), (1, (AV.ro 1 (p2.map o3)))], [], [JJ]⟩
  rcases itS h with ⟨c3, h⟩ | ⟨c4, h⟩
  · have h := Option.some.inj h
    subst h
    exact go_ret hΘ hm hP hn (hs := [⟨2, .no, some (I (p1.length : Int))⟩, ⟨4, .no, some (I (p2.length : Int))⟩, ⟨6, .br true, none⟩]) (rh := []) (ph := .raw) (ps := [AV.lit (.int .i64 (((p1.map o3).length : Nat) : Int)) = (I (p1.length : Int)), AV.lit (.int .i64 (((p2.map o3).length : Nat) : Int)) = (I (p2.length : Int)), ((p1.length : Int) != (p2.length : Int)) = true, (B false) = (B false), litA (B false) = true]) (by kernel_rfl) ⟨(lenM o3), (lenM o3), c3, rfl, rfl, trivial⟩
  · exact go_to hΘ hm hx hP hn (hs := [⟨2, .no, some (I (p1.length : Int))⟩, ⟨4, .no, some (I (p2.length : Int))⟩, ⟨6, .br false, none⟩]) (π := []) (ts := [0, 1, 5]) (kp := []) (ps := [AV.lit (.int .i64 (((p1.map o3).length : Nat) : Int)) = (I (p1.length : Int)), AV.lit (.int .i64 (((p2.map o3).length : Nat) : Int)) = (I (p2.length : Int)), ((p1.length : Int) != (p2.length : Int)) = false]) (by kernel_rfl) ⟨(lenM o3), (lenM o3), c4, trivial⟩ (laws_eqIntS_l0_m hP hn hx p1 p2 FU 0 _ h)
noncomputable def body12 : Code := match Try.f12.body with | some c => c | none => .skip
noncomputable def laws_eqIntSS_l0  (p1 : (List (List Int))) (p2 : (List (List Int))) : Nat → Int → Option Bool
  | 0, _ => none
  | n + 1, v5 =>
  if (decide (v5 < (p1.length : Int))) = true then
    Option.bind (rd p1 v5) fun x7 =>
    Option.bind (rd p2 v5) fun x8 =>
    Option.bind (laws_eqIntS x7 x8) fun r9 =>
    if (!r9) = true then
      some false
    else
      laws_eqIntSS_l0 p1 p2 n (w64 (v5 + 1))
  else
    some true
theorem laws_eqIntSS_l0_m {E : Env} (hP : E.P = Try.prog) (hn : E.n = 27) (hx : ∀ p, p ∈ E.fx → p.1 ∈ ([] : List Nat)) (p1 : (List (List Int))) (p2 : (List (List Int)))  : ∀ (n : Nat) (v5 : Int) (r : Bool), laws_eqIntSS_l0 p1 p2 n v5 = some r → WAt E body12 (FQ (RetE Θ Try.f12.results.toList [] [] (B r) E)) [true, true, false, true, false] ⟨[(0, (AV.ro 1 (p1.map r43))), (1, (AV.ro 1 (p2.map r43))), (5, (I v5))], [], [JJ]⟩ := by
  have hm : E.P.follows .mixedOrders = true := by rw [hP]; exact mixed
  have hΘ : TOK E.P Θ := by rw [hP]; exact Θ_ok
  intro n
  induction n with
  | zero => intro v5 r h; simp only [laws_eqIntSS_l0] at h; cases h
  | succ n ih =>
    intro v5 r h
    simp only [laws_eqIntSS_l0] at h
    rcases itS h with ⟨c6, h⟩ | ⟨c12, h⟩
    · obtain ⟨x7, hx7, h⟩ := bnS h
      obtain ⟨x8, hx8, h⟩ := bnS h
      obtain ⟨r9, hr9, h⟩ := bnS h
      rcases itS h with ⟨c10, h⟩ | ⟨c11, h⟩
      · have h := Option.some.inj h
        subst h
        exact go_ret hΘ hm hP hn (hs := [⟨2, .no, some (I (p1.length : Int))⟩, ⟨4, .br true, none⟩, ⟨7, .row (r43 x7), none⟩, ⟨11, .row (r43 x8), none⟩, ⟨13, .callV [] (B r9), none⟩, ⟨15, .br true, none⟩]) (rh := []) (ph := .raw) (ps := [AV.lit (.int .i64 (((p1.map r43).length : Nat) : Int)) = (I (p1.length : Int)), (decide (v5 < (p1.length : Int))) = true, (0 : Int) ≤ v5, (p1.map r43)[(Int.toNat v5)]? = some (r43 x7), (0 : Int) ≤ v5, (p2.map r43)[(Int.toNat v5)]? = some (r43 x8), Meets Try.prog 30 [(AV.ro 1 (x7.map o3)), (AV.ro 1 (x8.map o3))] (B r9), litA (B r9) = true, (!r9) = true, (B false) = (B false), litA (B false) = true]) (by kernel_rfl) ⟨(lenM r43), c6, (rd0 hx7), (rdM r43 hx7), (rd0 hx8), (rdM r43 hx8), (laws_eqIntS_m hr9), rfl, c10, rfl, rfl, trivial⟩
      · exact go_to hΘ hm hx hP hn (hs := [⟨2, .no, some (I (p1.length : Int))⟩, ⟨4, .br true, none⟩, ⟨7, .row (r43 x7), none⟩, ⟨11, .row (r43 x8), none⟩, ⟨13, .callV [] (B r9), none⟩, ⟨15, .br false, none⟩]) (π := []) (ts := [0, 1, 5]) (kp := []) (ps := [AV.lit (.int .i64 (((p1.map r43).length : Nat) : Int)) = (I (p1.length : Int)), (decide (v5 < (p1.length : Int))) = true, (0 : Int) ≤ v5, (p1.map r43)[(Int.toNat v5)]? = some (r43 x7), (0 : Int) ≤ v5, (p2.map r43)[(Int.toNat v5)]? = some (r43 x8), Meets Try.prog 30 [(AV.ro 1 (x7.map o3)), (AV.ro 1 (x8.map o3))] (B r9), litA (B r9) = true, (!r9) = false]) (by kernel_rfl) ⟨(lenM r43), c6, (rd0 hx7), (rdM r43 hx7), (rd0 hx8), (rdM r43 hx8), (laws_eqIntS_m hr9), rfl, c11, trivial⟩ (ih (w64 (v5 + 1)) _ h)
    · have h := Option.some.inj h
      subst h
      exact go_ret hΘ hm hP hn (hs := [⟨2, .no, some (I (p1.length : Int))⟩, ⟨4, .br false, none⟩]) (rh := []) (ph := .raw) (ps := [AV.lit (.int .i64 (((p1.map r43).length : Nat) : Int)) = (I (p1.length : Int)), (decide (v5 < (p1.length : Int))) = false, (B true) = (B true), litA (B true) = true]) (by kernel_rfl) ⟨(lenM r43), c12, rfl, rfl, trivial⟩
noncomputable def laws_eqIntSS (p1 : (List (List Int))) (p2 : (List (List Int))) : Option Bool :=
  if ((p1.length : Int) != (p2.length : Int)) = true then
    some false
  else
    laws_eqIntSS_l0 p1 p2 FU 0
theorem laws_eqIntSS_m {p1 : (List (List Int))} {p2 : (List (List Int))} {r : Bool} (h : laws_eqIntSS p1 p2 = some r) : Meets Try.prog 12 [(AV.ro 1 (p1.map r43)), (AV.ro 1 (p2.map r43))] (B r) := by
  refine meets_ofC Θ_ok Try.func12 rfl (c := body12) (by kernel_rfl) (Nat.le_of_ble_eq_true rfl) ?_
  intro E hP hn hx
  replace hn : E.n = 27 := hn
  have hm : E.P.follows .mixedOrders = true := by rw [hP]; exact mixed
  have hΘ : TOK E.P Θ := by rw [hP]; exact Θ_ok
  unfold laws_eqIntSS at h
  show WAt E body12 (FQ (RetE Θ Try.f12.results.toList [] [] (B r) E)) [] ⟨[(0, (AV.ro 1 (p1.map r43))), (1, (AV.ro 1 (p2.map r43)))], [], [JJ]⟩
  rcases itS h with ⟨c3, h⟩ | ⟨c4, h⟩
  · have h := Option.some.inj h
    subst h
    exact go_ret hΘ hm hP hn (hs := [⟨2, .no, some (I (p1.length : Int))⟩, ⟨4, .no, some (I (p2.length : Int))⟩, ⟨6, .br true, none⟩]) (rh := []) (ph := .raw) (ps := [AV.lit (.int .i64 (((p1.map r43).length : Nat) : Int)) = (I (p1.length : Int)), AV.lit (.int .i64 (((p2.map r43).length : Nat) : Int)) = (I (p2.length : Int)), ((p1.length : Int) != (p2.length : Int)) = true, (B false) = (B false), litA (B false) = true]) (by kernel_rfl) ⟨(lenM r43), (lenM r43), c3, rfl, rfl, trivial⟩
  · exact go_to hΘ hm hx hP hn (hs := [⟨2, .no, some (I (p1.length : Int))⟩, ⟨4, .no, some (I (p2.length : Int))⟩, ⟨6, .br false, none⟩]) (π := []) (ts := [0, 1, 5]) (kp := []) (ps := [AV.lit (.int .i64 (((p1.map r43).length : Nat) : Int)) = (I (p1.length : Int)), AV.lit (.int .i64 (((p2.map r43).length : Nat) : Int)) = (I (p2.length : Int)), ((p1.length : Int) != (p2.length : Int)) = false]) (by kernel_rfl) ⟨(lenM r43), (lenM r43), c4, trivial⟩ (laws_eqIntSS_l0_m hP hn hx p1 p2 FU 0 _ h)
noncomputable def body32 : Code := match Try.f32.body with | some c => c | none => .skip
noncomputable def laws_heldIntS_l0  (p1 : (List Int)) : Nat → Int → Int → Option Int
  | 0, _, _ => none
  | n + 1, v3, v4 =>
  if (decide (v4 < (p1.length : Int))) = true then
    Option.bind (rd p1 v4) fun x6 =>
    if (x6 != v3) = true then
      some (-1)
    else
      laws_heldIntS_l0 p1 n (w64 (v3 + 1)) (w64 (v4 + 1))
  else
    some v3
theorem laws_heldIntS_l0_m {E : Env} (hP : E.P = Try.prog) (hn : E.n = 21) (hx : ∀ p, p ∈ E.fx → p.1 ∈ ([] : List Nat)) (p1 : (List Int))  : ∀ (n : Nat) (v3 : Int) (v4 : Int) (r : Int), laws_heldIntS_l0 p1 n v3 v4 = some r → WAt E body32 (FQ (RetE Θ Try.f32.results.toList [] [] (I r) E)) [true, false, true, false] ⟨[(0, (AV.ro 1 (p1.map o3))), (1, (I v3)), (5, (I v4))], [], [JJ]⟩ := by
  have hm : E.P.follows .mixedOrders = true := by rw [hP]; exact mixed
  have hΘ : TOK E.P Θ := by rw [hP]; exact Θ_ok
  intro n
  induction n with
  | zero => intro v3 v4 r h; simp only [laws_heldIntS_l0] at h; cases h
  | succ n ih =>
    intro v3 v4 r h
    simp only [laws_heldIntS_l0] at h
    rcases itS h with ⟨c5, h⟩ | ⟨c9, h⟩
    · obtain ⟨x6, hx6, h⟩ := bnS h
      rcases itS h with ⟨c7, h⟩ | ⟨c8, h⟩
      · have h := Option.some.inj h
        subst h
        exact go_ret hΘ hm hP hn (hs := [⟨2, .no, some (I (p1.length : Int))⟩, ⟨4, .br true, none⟩, ⟨7, .row (o3 x6), none⟩, ⟨11, .br true, none⟩]) (rh := []) (ph := .raw) (ps := [AV.lit (.int .i64 (((p1.map o3).length : Nat) : Int)) = (I (p1.length : Int)), (decide (v4 < (p1.length : Int))) = true, (0 : Int) ≤ v4, (p1.map o3)[(Int.toNat v4)]? = some (o3 x6), (x6 != v3) = true, (I (-1)) = (I (-1)), litA (I (-1)) = true]) (by kernel_rfl) ⟨(lenM o3), c5, (rd0 hx6), (rdM o3 hx6), c7, rfl, rfl, trivial⟩
      · exact go_to hΘ hm hx hP hn (hs := [⟨2, .no, some (I (p1.length : Int))⟩, ⟨4, .br true, none⟩, ⟨7, .row (o3 x6), none⟩, ⟨11, .br false, none⟩]) (π := []) (ts := [0, 1, 5]) (kp := []) (ps := [AV.lit (.int .i64 (((p1.map o3).length : Nat) : Int)) = (I (p1.length : Int)), (decide (v4 < (p1.length : Int))) = true, (0 : Int) ≤ v4, (p1.map o3)[(Int.toNat v4)]? = some (o3 x6), (x6 != v3) = false]) (by kernel_rfl) ⟨(lenM o3), c5, (rd0 hx6), (rdM o3 hx6), c8, trivial⟩ (ih (w64 (v3 + 1)) (w64 (v4 + 1)) _ h)
    · have h := Option.some.inj h
      subst h
      exact go_ret hΘ hm hP hn (hs := [⟨2, .no, some (I (p1.length : Int))⟩, ⟨4, .br false, none⟩]) (rh := []) (ph := .raw) (ps := [AV.lit (.int .i64 (((p1.map o3).length : Nat) : Int)) = (I (p1.length : Int)), (decide (v4 < (p1.length : Int))) = false, (I v3) = (I v3), litA (I v3) = true]) (by kernel_rfl) ⟨(lenM o3), c9, rfl, rfl, trivial⟩
noncomputable def laws_heldIntS (p1 : (List Int)) (p2 : Int) : Option Int :=
  laws_heldIntS_l0 p1 FU p2 0
theorem laws_heldIntS_m {p1 : (List Int)} {p2 : Int} {r : Int} (h : laws_heldIntS p1 p2 = some r) : Meets Try.prog 32 [(AV.ro 1 (p1.map o3)), (I p2)] (I r) := by
  refine meets_ofC Θ_ok Try.func32 rfl (c := body32) (by kernel_rfl) (Nat.le_of_ble_eq_true rfl) ?_
  intro E hP hn hx
  replace hn : E.n = 21 := hn
  have hm : E.P.follows .mixedOrders = true := by rw [hP]; exact mixed
  have hΘ : TOK E.P Θ := by rw [hP]; exact Θ_ok
  unfold laws_heldIntS at h
  show WAt E body32 (FQ (RetE Θ Try.f32.results.toList [] [] (I r) E)) [] ⟨[(0, (AV.ro 1 (p1.map o3))), (1, (I p2))], [], [JJ]⟩
  exact go_to hΘ hm hx hP hn (hs := []) (π := []) (ts := [0, 1, 5]) (kp := []) (ps := []) (by kernel_rfl) trivial (laws_heldIntS_l0_m hP hn hx p1 FU p2 0 _ h)
noncomputable def body15 : Code := match Try.f15.body with | some c => c | none => .skip
noncomputable def laws_heldIntSS_l0  (p1 : (List (List Int))) : Nat → Int → Int → Option Int
  | 0, _, _ => none
  | n + 1, v3, v4 =>
  if (decide (v4 < (p1.length : Int))) = true then
    Option.bind (rd p1 v4) fun x6 =>
    Option.bind (laws_heldIntS x6 v3) fun r7 =>
    if (decide (r7 < 0)) = true then
      some (-1)
    else
      laws_heldIntSS_l0 p1 n r7 (w64 (v4 + 1))
  else
    some v3
theorem laws_heldIntSS_l0_m {E : Env} (hP : E.P = Try.prog) (hn : E.n = 21) (hx : ∀ p, p ∈ E.fx → p.1 ∈ ([] : List Nat)) (p1 : (List (List Int)))  : ∀ (n : Nat) (v3 : Int) (v4 : Int) (r : Int), laws_heldIntSS_l0 p1 n v3 v4 = some r → WAt E body15 (FQ (RetE Θ Try.f15.results.toList [] [] (I r) E)) [true, false, true, false] ⟨[(0, (AV.ro 1 (p1.map r43))), (1, (I v3)), (5, (I v4))], [], [JJ]⟩ := by
  have hm : E.P.follows .mixedOrders = true := by rw [hP]; exact mixed
  have hΘ : TOK E.P Θ := by rw [hP]; exact Θ_ok
  intro n
  induction n with
  | zero => intro v3 v4 r h; simp only [laws_heldIntSS_l0] at h; cases h
  | succ n ih =>
    intro v3 v4 r h
    simp only [laws_heldIntSS_l0] at h
    rcases itS h with ⟨c5, h⟩ | ⟨c10, h⟩
    · obtain ⟨x6, hx6, h⟩ := bnS h
      obtain ⟨r7, hr7, h⟩ := bnS h
      rcases itS h with ⟨c8, h⟩ | ⟨c9, h⟩
      · have h := Option.some.inj h
        subst h
        exact go_ret hΘ hm hP hn (hs := [⟨2, .no, some (I (p1.length : Int))⟩, ⟨4, .br true, none⟩, ⟨7, .row (r43 x6), none⟩, ⟨10, .callV [] (I r7), none⟩, ⟨14, .br true, none⟩]) (rh := []) (ph := .raw) (ps := [AV.lit (.int .i64 (((p1.map r43).length : Nat) : Int)) = (I (p1.length : Int)), (decide (v4 < (p1.length : Int))) = true, (0 : Int) ≤ v4, (p1.map r43)[(Int.toNat v4)]? = some (r43 x6), Meets Try.prog 32 [(AV.ro 1 (x6.map o3)), (I v3)] (I r7), litA (I r7) = true, (decide (r7 < 0)) = true, (I (-1)) = (I (-1)), litA (I (-1)) = true]) (by kernel_rfl) ⟨(lenM r43), c5, (rd0 hx6), (rdM r43 hx6), (laws_heldIntS_m hr7), rfl, c8, rfl, rfl, trivial⟩
      · exact go_to hΘ hm hx hP hn (hs := [⟨2, .no, some (I (p1.length : Int))⟩, ⟨4, .br true, none⟩, ⟨7, .row (r43 x6), none⟩, ⟨10, .callV [] (I r7), none⟩, ⟨14, .br false, none⟩]) (π := []) (ts := [0, 1, 5]) (kp := []) (ps := [AV.lit (.int .i64 (((p1.map r43).length : Nat) : Int)) = (I (p1.length : Int)), (decide (v4 < (p1.length : Int))) = true, (0 : Int) ≤ v4, (p1.map r43)[(Int.toNat v4)]? = some (r43 x6), Meets Try.prog 32 [(AV.ro 1 (x6.map o3)), (I v3)] (I r7), litA (I r7) = true, (decide (r7 < 0)) = false]) (by kernel_rfl) ⟨(lenM r43), c5, (rd0 hx6), (rdM r43 hx6), (laws_heldIntS_m hr7), rfl, c9, trivial⟩ (ih r7 (w64 (v4 + 1)) _ h)
    · have h := Option.some.inj h
      subst h
      exact go_ret hΘ hm hP hn (hs := [⟨2, .no, some (I (p1.length : Int))⟩, ⟨4, .br false, none⟩]) (rh := []) (ph := .raw) (ps := [AV.lit (.int .i64 (((p1.map r43).length : Nat) : Int)) = (I (p1.length : Int)), (decide (v4 < (p1.length : Int))) = false, (I v3) = (I v3), litA (I v3) = true]) (by kernel_rfl) ⟨(lenM r43), c10, rfl, rfl, trivial⟩
noncomputable def laws_heldIntSS (p1 : (List (List Int))) (p2 : Int) : Option Int :=
  laws_heldIntSS_l0 p1 FU p2 0
theorem laws_heldIntSS_m {p1 : (List (List Int))} {p2 : Int} {r : Int} (h : laws_heldIntSS p1 p2 = some r) : Meets Try.prog 15 [(AV.ro 1 (p1.map r43)), (I p2)] (I r) := by
  refine meets_ofC Θ_ok Try.func15 rfl (c := body15) (by kernel_rfl) (Nat.le_of_ble_eq_true rfl) ?_
  intro E hP hn hx
  replace hn : E.n = 21 := hn
  have hm : E.P.follows .mixedOrders = true := by rw [hP]; exact mixed
  have hΘ : TOK E.P Θ := by rw [hP]; exact Θ_ok
  unfold laws_heldIntSS at h
  show WAt E body15 (FQ (RetE Θ Try.f15.results.toList [] [] (I r) E)) [] ⟨[(0, (AV.ro 1 (p1.map r43))), (1, (I p2))], [], [JJ]⟩
  exact go_to hΘ hm hx hP hn (hs := []) (π := []) (ts := [0, 1, 5]) (kp := []) (ps := []) (by kernel_rfl) trivial (laws_heldIntSS_l0_m hP hn hx p1 FU p2 0 _ h)
noncomputable def body13 : Code := match Try.f13.body with | some c => c | none => .skip
noncomputable def laws_markEventS_l0   : Nat → (List GEvent) → Int → Int → Option (Int × (List GEvent))
  | 0, _, _, _ => none
  | n + 1, a3, v4, v5 =>
  if (decide (v5 < (a3.length : Int))) = true then
    Option.bind (rd a3 v5) fun x7 =>
    laws_markEventS_l0 n (a3.set (Int.toNat v5) (GEvent.mk v4 (w64 (v4 + 1)) (w64 ((w64 (v4 + 1)) + 1)) (w64 ((w64 ((w64 (v4 + 1)) + 1)) + 1)) (w64 ((w64 ((w64 ((w64 (v4 + 1)) + 1)) + 1)) + 1)))) (w64 ((w64 ((w64 ((w64 ((w64 (v4 + 1)) + 1)) + 1)) + 1)) + 1)) (w64 (v5 + 1))
  else
    some (v4, a3)
theorem laws_markEventS_l0_m {E : Env} (hP : E.P = Try.prog) (hn : E.n = 48) (hx : ∀ p, p ∈ E.fx → p.1 ∈ ([0] : List Nat))   : ∀ (n : Nat) (a3 : (List GEvent)) (v4 : Int) (v5 : Int) (r : (Int × (List GEvent))), laws_markEventS_l0  n a3 v4 v5 = some r → WAt E body13 (FQ (RetE Θ Try.f13.results.toList [true] [⟨40, 5, (r.2.map o40)⟩] (I r.1) E)) [true, false, true, false] ⟨[(0, (AV.sl 0 0 (List.length (a3.map o40)))), (1, (I v4)), (5, (I v5))], [(0, some ⟨40, 5, (a3.map o40)⟩)], [0, JJ]⟩ := by
  have hm : E.P.follows .mixedOrders = true := by rw [hP]; exact mixed
  have hΘ : TOK E.P Θ := by rw [hP]; exact Θ_ok
  intro n
  induction n with
  | zero => intro a3 v4 v5 r h; simp only [laws_markEventS_l0] at h; cases h
  | succ n ih =>
    intro a3 v4 v5 r h
    simp only [laws_markEventS_l0] at h
    rcases itS h with ⟨c6, h⟩ | ⟨c8, h⟩
    · obtain ⟨x7, hx7, h⟩ := bnS h
      exact go_to hΘ hm hx hP hn (hs := [⟨2, .no, some (I (a3.length : Int))⟩, ⟨4, .br true, none⟩, ⟨10, .sto ((o40 x7)) ((a3.set (Int.toNat v5) (GEvent.mk v4 x7.Kind x7.Obj x7.Lock x7.Pc)).map o40), none⟩, ⟨14, .slen 0 (List.length ((a3.set (Int.toNat v5) (GEvent.mk v4 x7.Kind x7.Obj x7.Lock x7.Pc)).map o40)), none⟩, ⟨19, .sto [(I v4), (I x7.Kind), (I x7.Obj), (I x7.Lock), (I x7.Pc)] ((a3.set (Int.toNat v5) (GEvent.mk v4 (w64 (v4 + 1)) x7.Obj x7.Lock x7.Pc)).map o40), none⟩, ⟨23, .slen 0 (List.length ((a3.set (Int.toNat v5) (GEvent.mk v4 (w64 (v4 + 1)) x7.Obj x7.Lock x7.Pc)).map o40)), none⟩, ⟨28, .sto [(I v4), (I (w64 (v4 + 1))), (I x7.Obj), (I x7.Lock), (I x7.Pc)] ((a3.set (Int.toNat v5) (GEvent.mk v4 (w64 (v4 + 1)) (w64 ((w64 (v4 + 1)) + 1)) x7.Lock x7.Pc)).map o40), none⟩, ⟨32, .slen 0 (List.length ((a3.set (Int.toNat v5) (GEvent.mk v4 (w64 (v4 + 1)) (w64 ((w64 (v4 + 1)) + 1)) x7.Lock x7.Pc)).map o40)), none⟩, ⟨37, .sto [(I v4), (I (w64 (v4 + 1))), (I (w64 ((w64 (v4 + 1)) + 1))), (I x7.Lock), (I x7.Pc)] ((a3.set (Int.toNat v5) (GEvent.mk v4 (w64 (v4 + 1)) (w64 ((w64 (v4 + 1)) + 1)) (w64 ((w64 ((w64 (v4 + 1)) + 1)) + 1)) x7.Pc)).map o40), none⟩, ⟨41, .slen 0 (List.length ((a3.set (Int.toNat v5) (GEvent.mk v4 (w64 (v4 + 1)) (w64 ((w64 (v4 + 1)) + 1)) (w64 ((w64 ((w64 (v4 + 1)) + 1)) + 1)) x7.Pc)).map o40)), none⟩, ⟨46, .sto [(I v4), (I (w64 (v4 + 1))), (I (w64 ((w64 (v4 + 1)) + 1))), (I (w64 ((w64 ((w64 (v4 + 1)) + 1)) + 1))), (I x7.Pc)] ((a3.set (Int.toNat v5) (GEvent.mk v4 (w64 (v4 + 1)) (w64 ((w64 (v4 + 1)) + 1)) (w64 ((w64 ((w64 (v4 + 1)) + 1)) + 1)) (w64 ((w64 ((w64 ((w64 (v4 + 1)) + 1)) + 1)) + 1)))).map o40), none⟩, ⟨53, .slen 0 (List.length ((a3.set (Int.toNat v5) (GEvent.mk v4 (w64 (v4 + 1)) (w64 ((w64 (v4 + 1)) + 1)) (w64 ((w64 ((w64 (v4 + 1)) + 1)) + 1)) (w64 ((w64 ((w64 ((w64 (v4 + 1)) + 1)) + 1)) + 1)))).map o40)), none⟩]) (π := [(0, 0)]) (ts := [0, 1, 5]) (kp := []) (ps := [AV.lit (.int .i64 (((List.length (a3.map o40)) : Nat) : Int)) = (I (a3.length : Int)), (decide (v5 < (a3.length : Int))) = true, (0 : Int) ≤ v5, v5 < (((List.length (a3.map o40)) : Nat) : Int), (a3.map o40)[(Int.toNat v5)]? = some ((o40 x7)), (a3.map o40).set (Int.toNat v5) (wr ((o40 x7)) 0 [(I v4)]) = ((a3.set (Int.toNat v5) (GEvent.mk v4 x7.Kind x7.Obj x7.Lock x7.Pc)).map o40), [(I v4)].length = 1, 0 + [(I v4)].length ≤ ((o40 x7)).length, (List.length (a3.map o40)) = (List.length ((a3.set (Int.toNat v5) (GEvent.mk v4 x7.Kind x7.Obj x7.Lock x7.Pc)).map o40)), (0 : Int) ≤ v5, v5 < (((List.length ((a3.set (Int.toNat v5) (GEvent.mk v4 x7.Kind x7.Obj x7.Lock x7.Pc)).map o40)) : Nat) : Int), ((a3.set (Int.toNat v5) (GEvent.mk v4 x7.Kind x7.Obj x7.Lock x7.Pc)).map o40)[(Int.toNat v5)]? = some [(I v4), (I x7.Kind), (I x7.Obj), (I x7.Lock), (I x7.Pc)], ((a3.set (Int.toNat v5) (GEvent.mk v4 x7.Kind x7.Obj x7.Lock x7.Pc)).map o40).set (Int.toNat v5) (wr [(I v4), (I x7.Kind), (I x7.Obj), (I x7.Lock), (I x7.Pc)] 1 [(I (w64 (v4 + 1)))]) = ((a3.set (Int.toNat v5) (GEvent.mk v4 (w64 (v4 + 1)) x7.Obj x7.Lock x7.Pc)).map o40), [(I (w64 (v4 + 1)))].length = 1, 1 + [(I (w64 (v4 + 1)))].length ≤ [(I v4), (I x7.Kind), (I x7.Obj), (I x7.Lock), (I x7.Pc)].length, (List.length ((a3.set (Int.toNat v5) (GEvent.mk v4 x7.Kind x7.Obj x7.Lock x7.Pc)).map o40)) = (List.length ((a3.set (Int.toNat v5) (GEvent.mk v4 (w64 (v4 + 1)) x7.Obj x7.Lock x7.Pc)).map o40)), (0 : Int) ≤ v5, v5 < (((List.length ((a3.set (Int.toNat v5) (GEvent.mk v4 (w64 (v4 + 1)) x7.Obj x7.Lock x7.Pc)).map o40)) : Nat) : Int), ((a3.set (Int.toNat v5) (GEvent.mk v4 (w64 (v4 + 1)) x7.Obj x7.Lock x7.Pc)).map o40)[(Int.toNat v5)]? = some [(I v4), (I (w64 (v4 + 1))), (I x7.Obj), (I x7.Lock), (I x7.Pc)], ((a3.set (Int.toNat v5) (GEvent.mk v4 (w64 (v4 + 1)) x7.Obj x7.Lock x7.Pc)).map o40).set (Int.toNat v5) (wr [(I v4), (I (w64 (v4 + 1))), (I x7.Obj), (I x7.Lock), (I x7.Pc)] 2 [(I (w64 ((w64 (v4 + 1)) + 1)))]) = ((a3.set (Int.toNat v5) (GEvent.mk v4 (w64 (v4 + 1)) (w64 ((w64 (v4 + 1)) + 1)) x7.Lock x7.Pc)).map o40), [(I (w64 ((w64 (v4 + 1)) + 1)))].length = 1, 2 + [(I (w64 ((w64 (v4 + 1)) + 1)))].length ≤ [(I v4), (I (w64 (v4 + 1))), (I x7.Obj), (I x7.Lock), (I x7.Pc)].length, (List.length ((a3.set (Int.toNat v5) (GEvent.mk v4 (w64 (v4 + 1)) x7.Obj x7.Lock x7.Pc)).map o40)) = (List.length ((a3.set (Int.toNat v5) (GEvent.mk v4 (w64 (v4 + 1)) (w64 ((w64 (v4 + 1)) + 1)) x7.Lock x7.Pc)).map o40)), (0 : Int) ≤ v5, v5 < (((List.length ((a3.set (Int.toNat v5) (GEvent.mk v4 (w64 (v4 + 1)) (w64 ((w64 (v4 + 1)) + 1)) x7.Lock x7.Pc)).map o40)) : Nat) : Int), ((a3.set (Int.toNat v5) (GEvent.mk v4 (w64 (v4 + 1)) (w64 ((w64 (v4 + 1)) + 1)) x7.Lock x7.Pc)).map o40)[(Int.toNat v5)]? = some [(I v4), (I (w64 (v4 + 1))), (I (w64 ((w64 (v4 + 1)) + 1))), (I x7.Lock), (I x7.Pc)], ((a3.set (Int.toNat v5) (GEvent.mk v4 (w64 (v4 + 1)) (w64 ((w64 (v4 + 1)) + 1)) x7.Lock x7.Pc)).map o40).set (Int.toNat v5) (wr [(I v4), (I (w64 (v4 + 1))), (I (w64 ((w64 (v4 + 1)) + 1))), (I x7.Lock), (I x7.Pc)] 3 [(I (w64 ((w64 ((w64 (v4 + 1)) + 1)) + 1)))]) = ((a3.set (Int.toNat v5) (GEvent.mk v4 (w64 (v4 + 1)) (w64 ((w64 (v4 + 1)) + 1)) (w64 ((w64 ((w64 (v4 + 1)) + 1)) + 1)) x7.Pc)).map o40), [(I (w64 ((w64 ((w64 (v4 + 1)) + 1)) + 1)))].length = 1, 3 + [(I (w64 ((w64 ((w64 (v4 + 1)) + 1)) + 1)))].length ≤ [(I v4), (I (w64 (v4 + 1))), (I (w64 ((w64 (v4 + 1)) + 1))), (I x7.Lock), (I x7.Pc)].length, (List.length ((a3.set (Int.toNat v5) (GEvent.mk v4 (w64 (v4 + 1)) (w64 ((w64 (v4 + 1)) + 1)) x7.Lock x7.Pc)).map o40)) = (List.length ((a3.set (Int.toNat v5) (GEvent.mk v4 (w64 (v4 + 1)) (w64 ((w64 (v4 + 1)) + 1)) (w64 ((w64 ((w64 (v4 + 1)) + 1)) + 1)) x7.Pc)).map o40)), (0 : Int) ≤ v5, v5 < (((List.length ((a3.set (Int.toNat v5) (GEvent.mk v4 (w64 (v4 + 1)) (w64 ((w64 (v4 + 1)) + 1)) (w64 ((w64 ((w64 (v4 + 1)) + 1)) + 1)) x7.Pc)).map o40)) : Nat) : Int), ((a3.set (Int.toNat v5) (GEvent.mk v4 (w64 (v4 + 1)) (w64 ((w64 (v4 + 1)) + 1)) (w64 ((w64 ((w64 (v4 + 1)) + 1)) + 1)) x7.Pc)).map o40)[(Int.toNat v5)]? = some [(I v4), (I (w64 (v4 + 1))), (I (w64 ((w64 (v4 + 1)) + 1))), (I (w64 ((w64 ((w64 (v4 + 1)) + 1)) + 1))), (I x7.Pc)], ((a3.set (Int.toNat v5) (GEvent.mk v4 (w64 (v4 + 1)) (w64 ((w64 (v4 + 1)) + 1)) (w64 ((w64 ((w64 (v4 + 1)) + 1)) + 1)) x7.Pc)).map o40).set (Int.toNat v5) (wr [(I v4), (I (w64 (v4 + 1))), (I (w64 ((w64 (v4 + 1)) + 1))), (I (w64 ((w64 ((w64 (v4 + 1)) + 1)) + 1))), (I x7.Pc)] 4 [(I (w64 ((w64 ((w64 ((w64 (v4 + 1)) + 1)) + 1)) + 1)))]) = ((a3.set (Int.toNat v5) (GEvent.mk v4 (w64 (v4 + 1)) (w64 ((w64 (v4 + 1)) + 1)) (w64 ((w64 ((w64 (v4 + 1)) + 1)) + 1)) (w64 ((w64 ((w64 ((w64 (v4 + 1)) + 1)) + 1)) + 1)))).map o40), [(I (w64 ((w64 ((w64 ((w64 (v4 + 1)) + 1)) + 1)) + 1)))].length = 1, 4 + [(I (w64 ((w64 ((w64 ((w64 (v4 + 1)) + 1)) + 1)) + 1)))].length ≤ [(I v4), (I (w64 (v4 + 1))), (I (w64 ((w64 (v4 + 1)) + 1))), (I (w64 ((w64 ((w64 (v4 + 1)) + 1)) + 1))), (I x7.Pc)].length, (List.length ((a3.set (Int.toNat v5) (GEvent.mk v4 (w64 (v4 + 1)) (w64 ((w64 (v4 + 1)) + 1)) (w64 ((w64 ((w64 (v4 + 1)) + 1)) + 1)) x7.Pc)).map o40)) = (List.length ((a3.set (Int.toNat v5) (GEvent.mk v4 (w64 (v4 + 1)) (w64 ((w64 (v4 + 1)) + 1)) (w64 ((w64 ((w64 (v4 + 1)) + 1)) + 1)) (w64 ((w64 ((w64 ((w64 (v4 + 1)) + 1)) + 1)) + 1)))).map o40)), RenOK [(0, 0)] ((a3.set (Int.toNat v5) (GEvent.mk v4 (w64 (v4 + 1)) (w64 ((w64 (v4 + 1)) + 1)) (w64 ((w64 ((w64 (v4 + 1)) + 1)) + 1)) (w64 ((w64 ((w64 ((w64 (v4 + 1)) + 1)) + 1)) + 1)))).map o40)]) (by kernel_rfl) ⟨(lenM o40), c6, (rd0 hx7), (rdL o40 hx7), (rdM o40 hx7), (setMr o40 (by kernel_rfl)), rfl, (Nat.le_of_ble_eq_true rfl), (by first | exact lnSet _ | exact lnSet2 _ | exact apLn _ (by assumption) | simp only [List.length_map, List.length_set, List.length_cons, List.length_nil]), (rd0 hx7), (rdL o40 (rdS (y := (GEvent.mk v4 x7.Kind x7.Obj x7.Lock x7.Pc)) hx7)), (rdM o40 (rdS (y := (GEvent.mk v4 x7.Kind x7.Obj x7.Lock x7.Pc)) hx7)), (setSS o40 (by kernel_rfl)), rfl, (Nat.le_of_ble_eq_true rfl), (by first | exact lnSet _ | exact lnSet2 _ | exact apLn _ (by assumption) | simp only [List.length_map, List.length_set, List.length_cons, List.length_nil]), (rd0 hx7), (rdL o40 (rdS (y := (GEvent.mk v4 (w64 (v4 + 1)) x7.Obj x7.Lock x7.Pc)) hx7)), (rdM o40 (rdS (y := (GEvent.mk v4 (w64 (v4 + 1)) x7.Obj x7.Lock x7.Pc)) hx7)), (setSS o40 (by kernel_rfl)), rfl, (Nat.le_of_ble_eq_true rfl), (by first | exact lnSet _ | exact lnSet2 _ | exact apLn _ (by assumption) | simp only [List.length_map, List.length_set, List.length_cons, List.length_nil]), (rd0 hx7), (rdL o40 (rdS (y := (GEvent.mk v4 (w64 (v4 + 1)) (w64 ((w64 (v4 + 1)) + 1)) x7.Lock x7.Pc)) hx7)), (rdM o40 (rdS (y := (GEvent.mk v4 (w64 (v4 + 1)) (w64 ((w64 (v4 + 1)) + 1)) x7.Lock x7.Pc)) hx7)), (setSS o40 (by kernel_rfl)), rfl, (Nat.le_of_ble_eq_true rfl), (by first | exact lnSet _ | exact lnSet2 _ | exact apLn _ (by assumption) | simp only [List.length_map, List.length_set, List.length_cons, List.length_nil]), (rd0 hx7), (rdL o40 (rdS (y := (GEvent.mk v4 (w64 (v4 + 1)) (w64 ((w64 (v4 + 1)) + 1)) (w64 ((w64 ((w64 (v4 + 1)) + 1)) + 1)) x7.Pc)) hx7)), (rdM o40 (rdS (y := (GEvent.mk v4 (w64 (v4 + 1)) (w64 ((w64 (v4 + 1)) + 1)) (w64 ((w64 ((w64 (v4 + 1)) + 1)) + 1)) x7.Pc)) hx7)), (setSS o40 (by kernel_rfl)), rfl, (Nat.le_of_ble_eq_true rfl), (by first | exact lnSet _ | exact lnSet2 _ | exact apLn _ (by assumption) | simp only [List.length_map, List.length_set, List.length_cons, List.length_nil]), (rok (treeM t40)), trivial⟩ (ih (a3.set (Int.toNat v5) (GEvent.mk v4 (w64 (v4 + 1)) (w64 ((w64 (v4 + 1)) + 1)) (w64 ((w64 ((w64 (v4 + 1)) + 1)) + 1)) (w64 ((w64 ((w64 ((w64 (v4 + 1)) + 1)) + 1)) + 1)))) (w64 ((w64 ((w64 ((w64 ((w64 (v4 + 1)) + 1)) + 1)) + 1)) + 1)) (w64 (v5 + 1)) _ h)
    · have h := Option.some.inj h
      subst h
      exact go_ret hΘ hm hP hn (hs := [⟨2, .no, some (I (a3.length : Int))⟩, ⟨4, .br false, none⟩]) (rh := []) (ph := .raw) (ps := [AV.lit (.int .i64 (((List.length (a3.map o40)) : Nat) : Int)) = (I (a3.length : Int)), (decide (v5 < (a3.length : Int))) = false, (a3.map o40) = (a3.map o40), treeLL (a3.map o40) = true, noRoLL (a3.map o40) = true, (I v4) = (I v4), litA (I v4) = true]) (by kernel_rfl) ⟨(lenM o40), c8, rfl, (treeM t40), (noRoM n40), rfl, rfl, trivial⟩
noncomputable def laws_markEventS (p1 : (List GEvent)) (p2 : Int) : Option (Int × (List GEvent)) :=
  laws_markEventS_l0 FU p1 p2 0
theorem laws_markEventS_m {p1 : (List GEvent)} {p2 : Int} {r : (Int × (List GEvent))} (h : laws_markEventS p1 p2 = some r) : MeetsR Try.prog 13 [⟨40, 5, (p1.map o40)⟩] [(AV.sl 0 0 (List.length (p1.map o40))), (I p2)] [true] [⟨40, 5, (r.2.map o40)⟩] (I r.1) := by
  refine meetsR_of Θ_ok Try.func13 rfl (c := body13) (by kernel_rfl) (Nat.le_of_ble_eq_true rfl) rfl (Nat.le_of_ble_eq_true rfl) rfl (fr := [0]) (frI rfl) ?_
  intro E hP hn hx
  replace hn : E.n = 48 := hn
  have hm : E.P.follows .mixedOrders = true := by rw [hP]; exact mixed
  have hΘ : TOK E.P Θ := by rw [hP]; exact Θ_ok
  unfold laws_markEventS at h
  show WAt E body13 (FQ (RetE Θ Try.f13.results.toList [true] [⟨40, 5, (r.2.map o40)⟩] (I r.1) E)) [] ⟨[(0, (AV.sl 0 0 (List.length (p1.map o40)))), (1, (I p2))], [(0, some ⟨40, 5, (p1.map o40)⟩)], [0, JJ]⟩
  exact go_to hΘ hm hx hP hn (hs := []) (π := [(0, 0)]) (ts := [0, 1, 5]) (kp := []) (ps := [RenOK [(0, 0)] (p1.map o40)]) (by kernel_rfl) ⟨(rok (treeM t40)), trivial⟩ (laws_markEventS_l0_m hP hn hx FU p1 p2 0 _ h)
noncomputable def body31 : Code := match Try.f31.body with | some c => c | none => .skip
noncomputable def laws_markIntS_l0   : Nat → (List Int) → Int → Int → Option (Int × (List Int))
  | 0, _, _, _ => none
  | n + 1, a3, v4, v5 =>
  if (decide (v5 < (a3.length : Int))) = true then
    Option.bind (rd a3 v5) fun x7 =>
    laws_markIntS_l0 n (a3.set (Int.toNat v5) v4) (w64 (v4 + 1)) (w64 (v5 + 1))
  else
    some (v4, a3)
theorem laws_markIntS_l0_m {E : Env} (hP : E.P = Try.prog) (hn : E.n = 19) (hx : ∀ p, p ∈ E.fx → p.1 ∈ ([0] : List Nat))   : ∀ (n : Nat) (a3 : (List Int)) (v4 : Int) (v5 : Int) (r : (Int × (List Int))), laws_markIntS_l0  n a3 v4 v5 = some r → WAt E body31 (FQ (RetE Θ Try.f31.results.toList [true] [⟨3, 1, (r.2.map o3)⟩] (I r.1) E)) [true, false, true, false] ⟨[(0, (AV.sl 0 0 (List.length (a3.map o3)))), (1, (I v4)), (5, (I v5))], [(0, some ⟨3, 1, (a3.map o3)⟩)], [0, JJ]⟩ := by
  have hm : E.P.follows .mixedOrders = true := by rw [hP]; exact mixed
  have hΘ : TOK E.P Θ := by rw [hP]; exact Θ_ok
  intro n
  induction n with
  | zero => intro a3 v4 v5 r h; simp only [laws_markIntS_l0] at h; cases h
  | succ n ih =>
    intro a3 v4 v5 r h
    simp only [laws_markIntS_l0] at h
    rcases itS h with ⟨c6, h⟩ | ⟨c8, h⟩
    · obtain ⟨x7, hx7, h⟩ := bnS h
      exact go_to hΘ hm hx hP hn (hs := [⟨2, .no, some (I (a3.length : Int))⟩, ⟨4, .br true, none⟩, ⟨9, .sto [(I x7)] ((a3.set (Int.toNat v5) v4).map o3), none⟩, ⟨16, .slen 0 (List.length ((a3.set (Int.toNat v5) v4).map o3)), none⟩]) (π := [(0, 0)]) (ts := [0, 1, 5]) (kp := []) (ps := [AV.lit (.int .i64 (((List.length (a3.map o3)) : Nat) : Int)) = (I (a3.length : Int)), (decide (v5 < (a3.length : Int))) = true, (0 : Int) ≤ v5, v5 < (((List.length (a3.map o3)) : Nat) : Int), (a3.map o3)[(Int.toNat v5)]? = some [(I x7)], (a3.map o3).set (Int.toNat v5) (wr [(I x7)] 0 [(I v4)]) = ((a3.set (Int.toNat v5) v4).map o3), [(I v4)].length = 1, 0 + [(I v4)].length ≤ [(I x7)].length, (List.length (a3.map o3)) = (List.length ((a3.set (Int.toNat v5) v4).map o3)), RenOK [(0, 0)] ((a3.set (Int.toNat v5) v4).map o3)]) (by kernel_rfl) ⟨(lenM o3), c6, (rd0 hx7), (rdL o3 hx7), (rdM o3 hx7), (setM o3), rfl, (Nat.le_of_ble_eq_true rfl), (by first | exact lnSet _ | exact lnSet2 _ | exact apLn _ (by assumption) | simp only [List.length_map, List.length_set, List.length_cons, List.length_nil]), (rok (treeM t3)), trivial⟩ (ih (a3.set (Int.toNat v5) v4) (w64 (v4 + 1)) (w64 (v5 + 1)) _ h)
    · have h := Option.some.inj h
      subst h
      exact go_ret hΘ hm hP hn (hs := [⟨2, .no, some (I (a3.length : Int))⟩, ⟨4, .br false, none⟩]) (rh := []) (ph := .raw) (ps := [AV.lit (.int .i64 (((List.length (a3.map o3)) : Nat) : Int)) = (I (a3.length : Int)), (decide (v5 < (a3.length : Int))) = false, (a3.map o3) = (a3.map o3), treeLL (a3.map o3) = true, noRoLL (a3.map o3) = true, (I v4) = (I v4), litA (I v4) = true]) (by kernel_rfl) ⟨(lenM o3), c8, rfl, (treeM t3), (noRoM n3), rfl, rfl, trivial⟩
noncomputable def laws_markIntS (p1 : (List Int)) (p2 : Int) : Option (Int × (List Int)) :=
  laws_markIntS_l0 FU p1 p2 0
theorem laws_markIntS_m {p1 : (List Int)} {p2 : Int} {r : (Int × (List Int))} (h : laws_markIntS p1 p2 = some r) : MeetsR Try.prog 31 [⟨3, 1, (p1.map o3)⟩] [(AV.sl 0 0 (List.length (p1.map o3))), (I p2)] [true] [⟨3, 1, (r.2.map o3)⟩] (I r.1) := by
  refine meetsR_of Θ_ok Try.func31 rfl (c := body31) (by kernel_rfl) (Nat.le_of_ble_eq_true rfl) rfl (Nat.le_of_ble_eq_true rfl) rfl (fr := [0]) (frI rfl) ?_
  intro E hP hn hx
  replace hn : E.n = 19 := hn
  have hm : E.P.follows .mixedOrders = true := by rw [hP]; exact mixed
  have hΘ : TOK E.P Θ := by rw [hP]; exact Θ_ok
  unfold laws_markIntS at h
  show WAt E body31 (FQ (RetE Θ Try.f31.results.toList [true] [⟨3, 1, (r.2.map o3)⟩] (I r.1) E)) [] ⟨[(0, (AV.sl 0 0 (List.length (p1.map o3)))), (1, (I p2))], [(0, some ⟨3, 1, (p1.map o3)⟩)], [0, JJ]⟩
  exact go_to hΘ hm hx hP hn (hs := []) (π := [(0, 0)]) (ts := [0, 1, 5]) (kp := []) (ps := [RenOK [(0, 0)] (p1.map o3)]) (by kernel_rfl) ⟨(rok (treeM t3)), trivial⟩ (laws_markIntS_l0_m hP hn hx FU p1 p2 0 _ h)
noncomputable def body14 : Code := match Try.f14.body with | some c => c | none => .skip
noncomputable def laws_markIntSS_l0   : Nat → (List (List Int)) → Int → Int → Option (Int × (List (List Int)))
  | 0, _, _, _ => none
  | n + 1, a3, v4, v5 =>
  if (decide (v5 < (a3.length : Int))) = true then
    Option.bind (rd a3 v5) fun x7 =>
    Option.bind (laws_markIntS x7 v4) fun r8 =>
    Option.bind (sameLen x7 r8.2) fun q9 =>
    laws_markIntSS_l0 n (a3.set (Int.toNat v5) r8.2) r8.1 (w64 (v5 + 1))
  else
    some (v4, a3)
theorem laws_markIntSS_l0_m {E : Env} (hP : E.P = Try.prog) (hn : E.n = 19) (hx : ∀ p, p ∈ E.fx → p.1 ∈ ([0] : List Nat))   : ∀ (n : Nat) (a3 : (List (List Int))) (v4 : Int) (v5 : Int) (r : (Int × (List (List Int)))), laws_markIntSS_l0  n a3 v4 v5 = some r → WAt E body14 (FQ (RetE Θ Try.f14.results.toList [true] [⟨43, 1, (r.2.map o43)⟩] (I r.1) E)) [true, false, true, false] ⟨[(0, (AV.sl 0 0 (List.length (a3.map o43)))), (1, (I v4)), (5, (I v5))], [(0, some ⟨43, 1, (a3.map o43)⟩)], [0, JJ]⟩ := by
  have hm : E.P.follows .mixedOrders = true := by rw [hP]; exact mixed
  have hΘ : TOK E.P Θ := by rw [hP]; exact Θ_ok
  intro n
  induction n with
  | zero => intro a3 v4 v5 r h; simp only [laws_markIntSS_l0] at h; cases h
  | succ n ih =>
    intro a3 v4 v5 r h
    simp only [laws_markIntSS_l0] at h
    rcases itS h with ⟨c6, h⟩ | ⟨c10, h⟩
    · obtain ⟨x7, hx7, h⟩ := bnS h
      obtain ⟨r8, hr8, h⟩ := bnS h
      obtain ⟨q9, hq9, h⟩ := bnS h
      exact go_to hΘ hm hx hP hn (hs := [⟨2, .no, some (I (a3.length : Int))⟩, ⟨4, .br true, none⟩, ⟨8, .unpack 0 1001 (Int.toNat v5) 0 [(AV.own 3 1 (x7.map o3))] 3 1 (x7.map o3) ((a3.map o43).set (Int.toNat v5) [(AV.sl 1001 0 (List.length (x7.map o3)))]), none⟩, ⟨8, .row [(AV.sl 1001 0 (List.length (x7.map o3)))], none⟩, ⟨10, .callX [1001] [true] [⟨3, 1, (x7.map o3)⟩] [⟨3, 1, (r8.2.map o3)⟩] [] (I r8.1) [] (I r8.1) [], none⟩, ⟨15, .pack 0 1001 (Int.toNat v5) 0 [(AV.sl 1001 0 (List.length (x7.map o3)))] ((a3.set (Int.toNat v5) r8.2).map o43), none⟩, ⟨15, .slen 0 (List.length ((a3.set (Int.toNat v5) r8.2).map o43)), none⟩]) (π := [(0, 0)]) (ts := [0, 1, 5]) (kp := []) (ps := [AV.lit (.int .i64 (((List.length (a3.map o43)) : Nat) : Int)) = (I (a3.length : Int)), (decide (v5 < (a3.length : Int))) = true, (0 : Int) ≤ v5, v5 < (((List.length (a3.map o43)) : Nat) : Int), (a3.map o43)[(Int.toNat v5)]? = some [(AV.own 3 1 (x7.map o3))], [(AV.own 3 1 (x7.map o3))][0]? = some (AV.own 3 1 (x7.map o3)), 0 < 1, (a3.map o43).set (Int.toNat v5) ([(AV.own 3 1 (x7.map o3))].set 0 (AV.sl 1001 0 (List.length (x7.map o3)))) = ((a3.map o43).set (Int.toNat v5) [(AV.sl 1001 0 (List.length (x7.map o3)))]), ((a3.map o43).set (Int.toNat v5) [(AV.sl 1001 0 (List.length (x7.map o3)))])[(Int.toNat v5)]? = some [(AV.sl 1001 0 (List.length (x7.map o3)))], MeetsR Try.prog 31 [⟨3, 1, (x7.map o3)⟩] [(AV.sl 0 0 (List.length (x7.map o3))), (I v4)] [true] [⟨3, 1, (r8.2.map o3)⟩] (I r8.1), (some (Root.mk 3 1 (x7.map o3)) = some (Root.mk 3 1 (x7.map o3))) ∧ True, (treeLL (x7.map o3) = true ∧ noRoLL (x7.map o3) = true) ∧ True, ((r8.2.map o3).length = (x7.map o3).length) ∧ True, (rtf (renA [(0, 1001)] (I r8.1)) []).1 = (I r8.1), (rtf (renA [(0, 1001)] (I r8.1)) []).2.1 = [], ((a3.map o43).set (Int.toNat v5) [(AV.sl 1001 0 (List.length (x7.map o3)))])[(Int.toNat v5)]? = some [(AV.sl 1001 0 (List.length (x7.map o3)))], [(AV.sl 1001 0 (List.length (x7.map o3)))][0]? = some (AV.sl 1001 0 (List.length (r8.2.map o3))), treeLL (r8.2.map o3) = true, ((a3.map o43).set (Int.toNat v5) [(AV.sl 1001 0 (List.length (x7.map o3)))]).set (Int.toNat v5) ([(AV.sl 1001 0 (List.length (x7.map o3)))].set 0 (AV.own 3 1 (r8.2.map o3))) = ((a3.set (Int.toNat v5) r8.2).map o43), (List.length (a3.map o43)) = (List.length ((a3.set (Int.toNat v5) r8.2).map o43)), RenOK [(0, 0)] ((a3.set (Int.toNat v5) r8.2).map o43)]) (by kernel_rfl) ⟨(lenM o43), c6, (rd0 hx7), (rdL o43 hx7), (rdM o43 hx7), rfl, (by decide), rfl, (setE (rdM o43 hx7)), (laws_markIntS_m hr8), ⟨rfl, trivial⟩, ⟨⟨treeM t3, noRoM n3⟩, trivial⟩, ⟨(sameLenE o3 hq9), trivial⟩, rfl, rfl, (setE (rdM o43 hx7)), (pkS (sameLenE o3 hq9).symm), (treeM t3), (setP o43), (by first | exact lnSet _ | exact lnSet2 _ | exact apLn _ (by assumption) | simp only [List.length_map, List.length_set, List.length_cons, List.length_nil]), (rok (treeM t43)), trivial⟩ (ih (a3.set (Int.toNat v5) r8.2) r8.1 (w64 (v5 + 1)) _ h)
    · have h := Option.some.inj h
      subst h
      exact go_ret hΘ hm hP hn (hs := [⟨2, .no, some (I (a3.length : Int))⟩, ⟨4, .br false, none⟩]) (rh := []) (ph := .raw) (ps := [AV.lit (.int .i64 (((List.length (a3.map o43)) : Nat) : Int)) = (I (a3.length : Int)), (decide (v5 < (a3.length : Int))) = false, (a3.map o43) = (a3.map o43), treeLL (a3.map o43) = true, noRoLL (a3.map o43) = true, (I v4) = (I v4), litA (I v4) = true]) (by kernel_rfl) ⟨(lenM o43), c10, rfl, (treeM t43), (noRoM n43), rfl, rfl, trivial⟩
noncomputable def laws_markIntSS (p1 : (List (List Int))) (p2 : Int) : Option (Int × (List (List Int))) :=
  laws_markIntSS_l0 FU p1 p2 0
theorem laws_markIntSS_m {p1 : (List (List Int))} {p2 : Int} {r : (Int × (List (List Int)))} (h : laws_markIntSS p1 p2 = some r) : MeetsR Try.prog 14 [⟨43, 1, (p1.map o43)⟩] [(AV.sl 0 0 (List.length (p1.map o43))), (I p2)] [true] [⟨43, 1, (r.2.map o43)⟩] (I r.1) := by
  refine meetsR_of Θ_ok Try.func14 rfl (c := body14) (by kernel_rfl) (Nat.le_of_ble_eq_true rfl) rfl (Nat.le_of_ble_eq_true rfl) rfl (fr := [0]) (frI rfl) ?_
  intro E hP hn hx
  replace hn : E.n = 19 := hn
  have hm : E.P.follows .mixedOrders = true := by rw [hP]; exact mixed
  have hΘ : TOK E.P Θ := by rw [hP]; exact Θ_ok
  unfold laws_markIntSS at h
  show WAt E body14 (FQ (RetE Θ Try.f14.results.toList [true] [⟨43, 1, (r.2.map o43)⟩] (I r.1) E)) [] ⟨[(0, (AV.sl 0 0 (List.length (p1.map o43)))), (1, (I p2))], [(0, some ⟨43, 1, (p1.map o43)⟩)], [0, JJ]⟩
  exact go_to hΘ hm hx hP hn (hs := []) (π := [(0, 0)]) (ts := [0, 1, 5]) (kp := []) (ps := [RenOK [(0, 0)] (p1.map o43)]) (by kernel_rfl) ⟨(rok (treeM t43)), trivial⟩ (laws_markIntSS_l0_m hP hn hx FU p1 p2 0 _ h)
noncomputable def body5 : Code := match Try.f5.body with | some c => c | none => .skip
noncomputable def laws_szEventS (p1 : (List GEvent)) (p2 : Int) : Option Int :=
  if (decide ((w64 (p2 - (p1.length : Int))) < 0)) = true then
    some (-1)
  else
    some (w64 (p2 - (p1.length : Int)))
theorem laws_szEventS_m {p1 : (List GEvent)} {p2 : Int} {r : Int} (h : laws_szEventS p1 p2 = some r) : Meets Try.prog 5 [(AV.ro 5 (p1.map o47)), (I p2)] (I r) := by
  refine meets_ofC Θ_ok Try.func5 rfl (c := body5) (by kernel_rfl) (Nat.le_of_ble_eq_true rfl) ?_
  intro E hP hn hx
  replace hn : E.n = 12 := hn
  have hm : E.P.follows .mixedOrders = true := by rw [hP]; exact mixed
  have hΘ : TOK E.P Θ := by rw [hP]; exact Θ_ok
  unfold laws_szEventS at h
  show WAt E body5 (FQ (RetE Θ Try.f5.results.toList [] [] (I r) E)) [] ⟨[(0, (AV.ro 5 (p1.map o47))), (1, (I p2))], [], [JJ]⟩
  rcases itS h with ⟨c3, h⟩ | ⟨c4, h⟩
  · have h := Option.some.inj h
    subst h
    exact go_ret hΘ hm hP hn (hs := [⟨3, .no, some (I (p1.length : Int))⟩, ⟨8, .br true, none⟩]) (rh := []) (ph := .raw) (ps := [AV.lit (.int .i64 (((p1.map o47).length : Nat) : Int)) = (I (p1.length : Int)), (decide ((w64 (p2 - (p1.length : Int))) < 0)) = true, (I (-1)) = (I (-1)), litA (I (-1)) = true]) (by kernel_rfl) ⟨(lenM o47), c3, rfl, rfl, trivial⟩
  · have h := Option.some.inj h
    subst h
    exact go_ret hΘ hm hP hn (hs := [⟨3, .no, some (I (p1.length : Int))⟩, ⟨8, .br false, none⟩]) (rh := []) (ph := .raw) (ps := [AV.lit (.int .i64 (((p1.map o47).length : Nat) : Int)) = (I (p1.length : Int)), (decide ((w64 (p2 - (p1.length : Int))) < 0)) = false, (I (w64 (p2 - (p1.length : Int)))) = (I (w64 (p2 - (p1.length : Int)))), litA (I (w64 (p2 - (p1.length : Int)))) = true]) (by kernel_rfl) ⟨(lenM o47), c4, rfl, rfl, trivial⟩
noncomputable def body20 : Code := match Try.f20.body with | some c => c | none => .skip
noncomputable def laws_toEvent (p1 : GEvent) : Option GEvent :=
  some (GEvent.mk p1.Thread p1.Kind p1.Obj p1.Lock p1.Pc)
theorem laws_toEvent_m {p1 : GEvent} {r : GEvent} (h : laws_toEvent p1 = some r) : Meets Try.prog 20 [(AV.agg ((o47 p1)))] (AV.agg (o40 r)) := by
  refine meets_ofC Θ_ok Try.func20 rfl (c := body20) (by kernel_rfl) (Nat.le_of_ble_eq_true rfl) ?_
  intro E hP hn hx
  replace hn : E.n = 20 := hn
  have hm : E.P.follows .mixedOrders = true := by rw [hP]; exact mixed
  have hΘ : TOK E.P Θ := by rw [hP]; exact Θ_ok
  unfold laws_toEvent at h
  show WAt E body20 (FQ (RetE Θ Try.f20.results.toList [] [] (AV.agg (o40 r)) E)) [] ⟨[(0, (AV.agg ((o47 p1))))], [], [JJ]⟩
  have h := Option.some.inj h
  subst h
  exact go_ret hΘ hm hP hn (hs := [⟨0, .new 1001, none⟩, ⟨1, .new 1002, none⟩, ⟨2, .new 1003, none⟩]) (rh := []) (ph := .raw) (ps := [(AV.agg [(I p1.Thread), (I p1.Kind), (I p1.Obj), (I p1.Lock), (I p1.Pc)]) = (AV.agg [(I p1.Thread), (I p1.Kind), (I p1.Obj), (I p1.Lock), (I p1.Pc)]), litA (AV.agg [(I p1.Thread), (I p1.Kind), (I p1.Obj), (I p1.Lock), (I p1.Pc)]) = true]) (by kernel_rfl) ⟨rfl, rfl, trivial⟩
noncomputable def body7 : Code := match Try.f7.body with | some c => c | none => .skip
noncomputable def laws_toEventS_l0  (p1 : (List GEvent)) : Nat → (List GEvent) → Int → Option (List GEvent)
  | 0, _, _ => none
  | n + 1, a3, v4 =>
  if (decide (v4 < (p1.length : Int))) = true then
    Option.bind (rd p1 v4) fun x6 =>
    Option.bind (laws_toEvent x6) fun r7 =>
    Option.bind (rd a3 v4) fun x8 =>
    laws_toEventS_l0 p1 n (a3.set (Int.toNat v4) r7) (w64 (v4 + 1))
  else
    some a3
theorem laws_toEventS_l0_m {E : Env} (hP : E.P = Try.prog) (hn : E.n = 23) (hx : ∀ p, p ∈ E.fx → p.1 ∈ ([] : List Nat)) (p1 : (List GEvent))  : ∀ (n : Nat) (a3 : (List GEvent)) (v4 : Int) (r : (List GEvent)), laws_toEventS_l0 p1 n a3 v4 = some r → WAt E body7 (FQ (RetE Θ Try.f7.results.toList [] [] (AV.own 40 5 (r.map o40)) E)) [true, true, false, true, false] ⟨[(0, (AV.ro 5 (p1.map o47))), (3, (AV.sl 1 0 (List.length (a3.map o40)))), (4, (I v4))], [(1, some ⟨40, 5, (a3.map o40)⟩)], [1, JJ]⟩ := by
  have hm : E.P.follows .mixedOrders = true := by rw [hP]; exact mixed
  have hΘ : TOK E.P Θ := by rw [hP]; exact Θ_ok
  intro n
  induction n with
  | zero => intro a3 v4 r h; simp only [laws_toEventS_l0] at h; cases h
  | succ n ih =>
    intro a3 v4 r h
    simp only [laws_toEventS_l0] at h
    rcases itS h with ⟨c5, h⟩ | ⟨c9, h⟩
    · obtain ⟨x6, hx6, h⟩ := bnS h
      obtain ⟨r7, hr7, h⟩ := bnS h
      obtain ⟨x8, hx8, h⟩ := bnS h
      exact go_to hΘ hm hx hP hn (hs := [⟨2, .no, some (I (p1.length : Int))⟩, ⟨4, .br true, none⟩, ⟨9, .row (o47 x6), none⟩, ⟨11, .callV [[]] (AV.agg (o40 r7)), none⟩, ⟨13, .sto ((o40 x8)) ((a3.set (Int.toNat v4) r7).map o40), none⟩, ⟨17, .slen 3 (List.length ((a3.set (Int.toNat v4) r7).map o40)), none⟩]) (π := [(1, 1)]) (ts := [0, 3, 4]) (kp := []) (ps := [AV.lit (.int .i64 (((p1.map o47).length : Nat) : Int)) = (I (p1.length : Int)), (decide (v4 < (p1.length : Int))) = true, (0 : Int) ≤ v4, (p1.map o47)[(Int.toNat v4)]? = some (o47 x6), Meets Try.prog 20 [(AV.agg ((o47 x6)))] (AV.agg (o40 r7)), litA (AV.agg (o40 r7)) = true, (0 : Int) ≤ v4, v4 < (((List.length (a3.map o40)) : Nat) : Int), (a3.map o40)[(Int.toNat v4)]? = some ((o40 x8)), (a3.map o40).set (Int.toNat v4) (wr ((o40 x8)) 0 ((o40 r7))) = ((a3.set (Int.toNat v4) r7).map o40), ((o40 r7)).length = 5, 0 + ((o40 r7)).length ≤ ((o40 x8)).length, (List.length (a3.map o40)) = (List.length ((a3.set (Int.toNat v4) r7).map o40)), RenOK [(1, 1)] ((a3.set (Int.toNat v4) r7).map o40)]) (by kernel_rfl) ⟨(lenM o47), c5, (rd0 hx6), (rdM o47 hx6), (laws_toEvent_m hr7), rfl, (rd0 hx8), (rdL o40 hx8), (rdM o40 hx8), (setMr o40 (by kernel_rfl)), rfl, (Nat.le_of_ble_eq_true rfl), (by first | exact lnSet _ | exact lnSet2 _ | exact apLn _ (by assumption) | simp only [List.length_map, List.length_set, List.length_cons, List.length_nil]), (rok (treeM t40)), trivial⟩ (ih (a3.set (Int.toNat v4) r7) (w64 (v4 + 1)) _ h)
    · have h := Option.some.inj h
      subst h
      exact go_ret hΘ hm hP hn (hs := [⟨2, .no, some (I (p1.length : Int))⟩, ⟨4, .br false, none⟩]) (rh := []) (ph := .own) (ps := [AV.lit (.int .i64 (((p1.map o47).length : Nat) : Int)) = (I (p1.length : Int)), (decide (v4 < (p1.length : Int))) = false, treeLL ((a3.map o40).take (List.length (a3.map o40))) = true, (a3.map o40).take (List.length (a3.map o40)) = (a3.map o40), noRoLL (a3.map o40) = true]) (by kernel_rfl) ⟨(lenM o47), c9, (treeT t40), takeM, (noRoM n40), trivial⟩
noncomputable def laws_toEventS (p1 : (List GEvent)) : Option (List GEvent) :=
  Option.bind (mk (GEvent.mk 0 0 0 0 0) (p1.length : Int)) fun l2 =>
  laws_toEventS_l0 p1 FU l2 0
theorem laws_toEventS_m {p1 : (List GEvent)} {r : (List GEvent)} (h : laws_toEventS p1 = some r) : Meets Try.prog 7 [(AV.ro 5 (p1.map o47))] (AV.own 40 5 (r.map o40)) := by
  refine meets_ofC Θ_ok Try.func7 rfl (c := body7) (by kernel_rfl) (Nat.le_of_ble_eq_true rfl) ?_
  intro E hP hn hx
  replace hn : E.n = 23 := hn
  have hm : E.P.follows .mixedOrders = true := by rw [hP]; exact mixed
  have hΘ : TOK E.P Θ := by rw [hP]; exact Θ_ok
  unfold laws_toEventS at h
  show WAt E body7 (FQ (RetE Θ Try.f7.results.toList [] [] (AV.own 40 5 (r.map o40)) E)) [] ⟨[(0, (AV.ro 5 (p1.map o47)))], [], [JJ]⟩
  obtain ⟨l2, hl2, h⟩ := bnS h
  exact go_to hΘ hm hx hP hn (hs := [⟨2, .no, some (I (p1.length : Int))⟩, ⟨3, .nw 1001 (l2.map o40), some (AV.sl 1001 0 (List.length (l2.map o40)))⟩]) (π := [(1001, 1)]) (ts := [0, 3, 4]) (kp := []) (ps := [AV.lit (.int .i64 (((p1.map o47).length : Nat) : Int)) = (I (p1.length : Int)), List.replicate (Int.toNat (p1.length : Int)) [.lit (.int .i64 0), .lit (.int .i64 0), .lit (.int .i64 0), .lit (.int .i64 0), .lit (.int .i64 0)] = (l2.map o40), AV.sl 1001 0 (Int.toNat (p1.length : Int)) = (AV.sl 1001 0 (List.length (l2.map o40))), (p1.length : Int) = (p1.length : Int), (0 : Int) ≤ (p1.length : Int), (p1.length : Int) * ((40 : Nat) : Int) ≤ 140737488355328, (p1.length : Int) ≤ 140737488355328, RenOK [(1001, 1)] (l2.map o40)]) (by kernel_rfl) ⟨(lenM o47), (mkM o40 hl2), (mkS o40 hl2), rfl, (mk0 hl2), (mkB hl2 (by decide)), (mkC hl2), (rok (treeM t40)), trivial⟩ (laws_toEventS_l0_m hP hn hx p1 FU l2 0 _ h)
noncomputable def body27 : Code := match Try.f27.body with | some c => c | none => .skip
noncomputable def spec_l1Has_l0  (p1 : (List Int)) (p2 : Int) : Nat → Int → Option Bool
  | 0, _ => none
  | n + 1, v3 =>
  if (decide (v3 < (p1.length : Int))) = true then
    Option.bind (rd p1 v3) fun x5 =>
    if (x5 == p2) = true then
      some true
    else
      spec_l1Has_l0 p1 p2 n (w64 (v3 + 1))
  else
    some false
theorem spec_l1Has_l0_m {E : Env} (hP : E.P = Try.prog) (hn : E.n = 17) (hx : ∀ p, p ∈ E.fx → p.1 ∈ ([] : List Nat)) (p1 : (List Int)) (p2 : Int)  : ∀ (n : Nat) (v3 : Int) (r : Bool), spec_l1Has_l0 p1 p2 n v3 = some r → WAt E body27 (FQ (RetE Θ Try.f27.results.toList [] [] (B r) E)) [true, false, true, false] ⟨[(1, (I p2)), (7, (AV.ro 1 (p1.map o3))), (8, (I (p1.length : Int))), (9, (I v3))], [], [JJ]⟩ := by
  have hm : E.P.follows .mixedOrders = true := by rw [hP]; exact mixed
  have hΘ : TOK E.P Θ := by rw [hP]; exact Θ_ok
  intro n
  induction n with
  | zero => intro v3 r h; simp only [spec_l1Has_l0] at h; cases h
  | succ n ih =>
    intro v3 r h
    simp only [spec_l1Has_l0] at h
    rcases itS h with ⟨c4, h⟩ | ⟨c8, h⟩
    · obtain ⟨x5, hx5, h⟩ := bnS h
      rcases itS h with ⟨c6, h⟩ | ⟨c7, h⟩
      · have h := Option.some.inj h
        subst h
        exact go_ret hΘ hm hP hn (hs := [⟨1, .br true, none⟩, ⟨2, .row (o3 x5), none⟩, ⟨8, .br true, none⟩]) (rh := []) (ph := .raw) (ps := [(decide (v3 < (p1.length : Int))) = true, (0 : Int) ≤ v3, (p1.map o3)[(Int.toNat v3)]? = some (o3 x5), (x5 == p2) = true, (B true) = (B true), litA (B true) = true]) (by kernel_rfl) ⟨c4, (rd0 hx5), (rdM o3 hx5), c6, rfl, rfl, trivial⟩
      · exact go_to hΘ hm hx hP hn (hs := [⟨1, .br true, none⟩, ⟨2, .row (o3 x5), none⟩, ⟨8, .br false, none⟩]) (π := []) (ts := [1, 7, 8, 9]) (kp := []) (ps := [(decide (v3 < (p1.length : Int))) = true, (0 : Int) ≤ v3, (p1.map o3)[(Int.toNat v3)]? = some (o3 x5), (x5 == p2) = false]) (by kernel_rfl) ⟨c4, (rd0 hx5), (rdM o3 hx5), c7, trivial⟩ (ih (w64 (v3 + 1)) _ h)
    · have h := Option.some.inj h
      subst h
      exact go_ret hΘ hm hP hn (hs := [⟨1, .br false, none⟩]) (rh := []) (ph := .raw) (ps := [(decide (v3 < (p1.length : Int))) = false, (B false) = (B false), litA (B false) = true]) (by kernel_rfl) ⟨c8, rfl, rfl, trivial⟩
noncomputable def spec_l1Has (p1 : (List Int)) (p2 : Int) : Option Bool :=
  spec_l1Has_l0 p1 p2 FU 0
theorem spec_l1Has_m {p1 : (List Int)} {p2 : Int} {r : Bool} (h : spec_l1Has p1 p2 = some r) : Meets Try.prog 27 [(AV.ro 1 (p1.map o3)), (I p2)] (B r) := by
  refine meets_ofC Θ_ok Try.func27 rfl (c := body27) (by kernel_rfl) (Nat.le_of_ble_eq_true rfl) ?_
  intro E hP hn hx
  replace hn : E.n = 17 := hn
  have hm : E.P.follows .mixedOrders = true := by rw [hP]; exact mixed
  have hΘ : TOK E.P Θ := by rw [hP]; exact Θ_ok
  unfold spec_l1Has at h
  show WAt E body27 (FQ (RetE Θ Try.f27.results.toList [] [] (B r) E)) [] ⟨[(0, (AV.ro 1 (p1.map o3))), (1, (I p2))], [], [JJ]⟩
  exact go_to hΘ hm hx hP hn (hs := [⟨2, .no, some (I (p1.length : Int))⟩]) (π := []) (ts := [1, 7, 8, 9]) (kp := []) (ps := [AV.lit (.int .i64 (((p1.map o3).length : Nat) : Int)) = (I (p1.length : Int))]) (by kernel_rfl) ⟨(lenM o3), trivial⟩ (spec_l1Has_l0_m hP hn hx p1 p2 FU 0 _ h)
noncomputable def body25 : Code := match Try.f25.body with | some c => c | none => .skip
noncomputable def spec_l1Put_j2  (p1 : (List Int)) (p2 : Int) (v3 : Int)  : Option (List Int) :=
  Option.bind (slc p1 0 v3) fun l12 =>
  Option.bind (app [] l12) fun l13 =>
  Option.bind (app l13 [p2]) fun l14 =>
  Option.bind (slc p1 v3 (p1.length : Int)) fun l15 =>
  Option.bind (app l14 l15) fun l16 =>
  some l16
theorem spec_l1Put_j2_m {E : Env} (hP : E.P = Try.prog) (hn : E.n = 48) (hx : ∀ p, p ∈ E.fx → p.1 ∈ ([] : List Nat)) (p1 : (List Int)) (p2 : Int) (v3 : Int)   (r : (List Int)) (h : spec_l1Put_j2 p1 p2 v3  = some r) : WAt E body25 (FQ (RetE Θ Try.f25.results.toList [false] [⟨3, 1, (p1.map o3)⟩] (AV.own 3 1 (r.map o3)) E)) [true, true, true, false, true, true] ⟨[(0, (AV.sl 1 0 (List.length (p1.map o3)))), (1, (I p2)), (5, (I v3))], [(1, some ⟨3, 1, (p1.map o3)⟩)], [1, JJ]⟩ := by
  have hm : E.P.follows .mixedOrders = true := by rw [hP]; exact mixed
  have hΘ : TOK E.P Θ := by rw [hP]; exact Θ_ok
  unfold spec_l1Put_j2 at h
  obtain ⟨l12, hl12, h⟩ := bnS h
  obtain ⟨l13, hl13, h⟩ := bnS h
  obtain ⟨l14, hl14, h⟩ := bnS h
  obtain ⟨l15, hl15, h⟩ := bnS h
  obtain ⟨l16, hl16, h⟩ := bnS h
  have h := Option.some.inj h
  subst h
  exact go_ret hΘ hm hP hn (hs := [⟨0, .new 1001, none⟩, ⟨4, .app 1002 (l13.map o3), none⟩, ⟨8, .new 1003, none⟩, ⟨9, .app 1004 (l14.map o3), none⟩, ⟨15, .app 1005 (l16.map o3), none⟩]) (rh := []) (ph := .own) (ps := [(0 : Int) ≤ 0, 0 ≤ v3, v3 ≤ (((List.length (p1.map o3)) : Nat) : Int), ([].map o3).take (List.length ([].map o3)) ++ (((p1.map o3).drop 0).take (Int.toNat v3)) = (l13.map o3), (((p1.map o3).drop 0).take (Int.toNat v3)).all (fun r => r.all AV.plain) = true, (List.length (l13.map o3)) * 8 ≤ 140737488355328, (List.length (l13.map o3)) ≤ 140737488355328, (l13.map o3).take (List.length (l13.map o3)) ++ ((([p2].map o3).drop 0).take (List.length ([p2].map o3))) = (l14.map o3), ((([p2].map o3).drop 0).take (List.length ([p2].map o3))).all (fun r => r.all AV.plain) = true, (List.length (l14.map o3)) * 8 ≤ 140737488355328, (List.length (l14.map o3)) ≤ 140737488355328, (0 : Int) ≤ v3, v3 ≤ (((p1.map o3).length : Nat) : Int), (((p1.map o3).length : Nat) : Int) ≤ (((List.length (p1.map o3)) : Nat) : Int), (l14.map o3).take (List.length (l14.map o3)) ++ (((p1.map o3).drop (Int.toNat v3)).take (subO (Int.toNat (((p1.map o3).length : Nat) : Int)) (Int.toNat v3))) = (l16.map o3), (((p1.map o3).drop (Int.toNat v3)).take (subO (Int.toNat (((p1.map o3).length : Nat) : Int)) (Int.toNat v3))).all (fun r => r.all AV.plain) = true, (List.length (l16.map o3)) * 8 ≤ 140737488355328, (List.length (l16.map o3)) ≤ 140737488355328, treeLL ((l16.map o3).take (List.length (l16.map o3))) = true, (l16.map o3).take (List.length (l16.map o3)) = (l16.map o3), noRoLL (l16.map o3) = true]) (by kernel_rfl) ⟨(sl0 hl12), (sl1 hl12), (sl2 o3 hl12), (appTDS0 o3 hl13 hl12), (plD p3), (appB o3 hl13 (by decide)), (appC o3 hl13), (appTD o3 hl14), (plD p3), (appB o3 hl14 (by decide)), (appC o3 hl14), (sl0 hl15), (sl1e o3 hl15), (Int.le_refl _), (appTDSe o3 hl16 hl15), (plD p3), (appB o3 hl16 (by decide)), (appC o3 hl16), (treeT t3), takeM, (noRoM n3), trivial⟩
noncomputable def spec_l1Put_j1 (K0 : Int → Option (List Int)) (p1 : (List Int)) (p2 : Int) (v3 : Int)  : Option (List Int) :=
  if (decide (v3 < (p1.length : Int))) = true then
    Option.bind (rd p1 v3) fun x9 =>
    if (x9 == p2) = true then
      some p1
    else
      spec_l1Put_j2 p1 p2 v3
  else
    spec_l1Put_j2 p1 p2 v3
theorem spec_l1Put_j1_m {E : Env} (hP : E.P = Try.prog) (hn : E.n = 48) (hx : ∀ p, p ∈ E.fx → p.1 ∈ ([] : List Nat)) (p1 : (List Int)) (p2 : Int) (v3 : Int) {K0 : Int → Option (List Int)} (hK0 : ∀ (v3 : Int) (r : (List Int)), K0 v3 = some r → WAt E body25 (FQ (RetE Θ Try.f25.results.toList [false] [⟨3, 1, (p1.map o3)⟩] (AV.own 3 1 (r.map o3)) E)) [true, true, false, false] ⟨[(0, (AV.sl 1 0 (List.length (p1.map o3)))), (1, (I p2)), (5, (I v3))], [(1, some ⟨3, 1, (p1.map o3)⟩)], [1, JJ]⟩)  (r : (List Int)) (h : spec_l1Put_j1 K0 p1 p2 v3  = some r) : WAt E body25 (FQ (RetE Θ Try.f25.results.toList [false] [⟨3, 1, (p1.map o3)⟩] (AV.own 3 1 (r.map o3)) E)) [true, true, false, false, false, false, true, true] ⟨[(0, (AV.sl 1 0 (List.length (p1.map o3)))), (1, (I p2)), (5, (I v3))], [(1, some ⟨3, 1, (p1.map o3)⟩)], [1, JJ]⟩ := by
  have hm : E.P.follows .mixedOrders = true := by rw [hP]; exact mixed
  have hΘ : TOK E.P Θ := by rw [hP]; exact Θ_ok
  unfold spec_l1Put_j1 at h
  rcases itS h with ⟨c8, h⟩ | ⟨c17, h⟩
  · obtain ⟨x9, hx9, h⟩ := bnS h
    rcases itS h with ⟨c10, h⟩ | ⟨c11, h⟩
    · have h := Option.some.inj h
      subst h
      exact go_ret hΘ hm hP hn (hs := [⟨2, .no, some (I (p1.length : Int))⟩, ⟨4, .no, some (B true)⟩, ⟨8, .row [(I x9)], none⟩, ⟨12, .br true, none⟩]) (rh := []) (ph := .own) (ps := [AV.lit (.int .i64 (((List.length (p1.map o3)) : Nat) : Int)) = (I (p1.length : Int)), (B (decide (v3 < (p1.length : Int)))) = (B true), (0 : Int) ≤ v3, v3 < (((List.length (p1.map o3)) : Nat) : Int), (p1.map o3)[(Int.toNat v3)]? = some [(I x9)], (x9 == p2) = true, treeLL ((p1.map o3).take (List.length (p1.map o3))) = true, (p1.map o3).take (List.length (p1.map o3)) = (p1.map o3), noRoLL (p1.map o3) = true]) (by kernel_rfl) ⟨(lenM o3), (litB c8), (rd0 hx9), (rdL o3 hx9), (rdM o3 hx9), c10, (treeT t3), takeM, (noRoM n3), trivial⟩
    · exact go_to hΘ hm hx hP hn (hs := [⟨2, .no, some (I (p1.length : Int))⟩, ⟨4, .no, some (B true)⟩, ⟨8, .row [(I x9)], none⟩, ⟨12, .br false, none⟩]) (π := [(1, 1)]) (ts := [0, 1, 5]) (kp := []) (ps := [AV.lit (.int .i64 (((List.length (p1.map o3)) : Nat) : Int)) = (I (p1.length : Int)), (B (decide (v3 < (p1.length : Int)))) = (B true), (0 : Int) ≤ v3, v3 < (((List.length (p1.map o3)) : Nat) : Int), (p1.map o3)[(Int.toNat v3)]? = some [(I x9)], (x9 == p2) = false, RenOK [(1, 1)] (p1.map o3)]) (by kernel_rfl) ⟨(lenM o3), (litB c8), (rd0 hx9), (rdL o3 hx9), (rdM o3 hx9), c11, (rok (treeM t3)), trivial⟩ (spec_l1Put_j2_m hP hn hx p1 p2 v3  _ h)
  · exact go_to hΘ hm hx hP hn (hs := [⟨2, .no, some (I (p1.length : Int))⟩, ⟨4, .no, some (B false)⟩]) (π := [(1, 1)]) (ts := [0, 1, 5]) (kp := []) (ps := [AV.lit (.int .i64 (((List.length (p1.map o3)) : Nat) : Int)) = (I (p1.length : Int)), (B (decide (v3 < (p1.length : Int)))) = (B false), RenOK [(1, 1)] (p1.map o3)]) (by kernel_rfl) ⟨(lenM o3), (litB c17), (rok (treeM t3)), trivial⟩ (spec_l1Put_j2_m hP hn hx p1 p2 v3  _ h)
noncomputable def spec_l1Put_l0  (p1 : (List Int)) (p2 : Int) : Nat → Int → Option (List Int)
  | 0, _ => none
  | n + 1, v3 =>
  if (decide (v3 < (p1.length : Int))) = true then
    Option.bind (rd p1 v3) fun x5 =>
    if (decide (x5 < p2)) = true then
      spec_l1Put_l0 p1 p2 n (w64 (v3 + 1))
    else
      spec_l1Put_j1 (spec_l1Put_l0 p1 p2 n) p1 p2 v3
  else
    spec_l1Put_j1 (spec_l1Put_l0 p1 p2 n) p1 p2 v3
theorem spec_l1Put_l0_m {E : Env} (hP : E.P = Try.prog) (hn : E.n = 48) (hx : ∀ p, p ∈ E.fx → p.1 ∈ ([] : List Nat)) (p1 : (List Int)) (p2 : Int)  : ∀ (n : Nat) (v3 : Int) (r : (List Int)), spec_l1Put_l0 p1 p2 n v3 = some r → WAt E body25 (FQ (RetE Θ Try.f25.results.toList [false] [⟨3, 1, (p1.map o3)⟩] (AV.own 3 1 (r.map o3)) E)) [true, true, false, false] ⟨[(0, (AV.sl 1 0 (List.length (p1.map o3)))), (1, (I p2)), (5, (I v3))], [(1, some ⟨3, 1, (p1.map o3)⟩)], [1, JJ]⟩ := by
  have hm : E.P.follows .mixedOrders = true := by rw [hP]; exact mixed
  have hΘ : TOK E.P Θ := by rw [hP]; exact Θ_ok
  intro n
  induction n with
  | zero => intro v3 r h; simp only [spec_l1Put_l0] at h; cases h
  | succ n ih =>
    intro v3 r h
    simp only [spec_l1Put_l0] at h
    rcases itS h with ⟨c4, h⟩ | ⟨c18, h⟩
    · obtain ⟨x5, hx5, h⟩ := bnS h
      rcases itS h with ⟨c6, h⟩ | ⟨c7, h⟩
      · exact go_to hΘ hm hx hP hn (hs := [⟨2, .no, some (I (p1.length : Int))⟩, ⟨4, .no, some (B true)⟩, ⟨8, .row [(I x5)], none⟩, ⟨12, .br true, none⟩]) (π := [(1, 1)]) (ts := [0, 1, 5]) (kp := []) (ps := [AV.lit (.int .i64 (((List.length (p1.map o3)) : Nat) : Int)) = (I (p1.length : Int)), (B (decide (v3 < (p1.length : Int)))) = (B true), (0 : Int) ≤ v3, v3 < (((List.length (p1.map o3)) : Nat) : Int), (p1.map o3)[(Int.toNat v3)]? = some [(I x5)], (decide (x5 < p2)) = true, RenOK [(1, 1)] (p1.map o3)]) (by kernel_rfl) ⟨(lenM o3), (litB c4), (rd0 hx5), (rdL o3 hx5), (rdM o3 hx5), c6, (rok (treeM t3)), trivial⟩ (ih (w64 (v3 + 1)) _ h)
      · exact go_to hΘ hm hx hP hn (hs := [⟨2, .no, some (I (p1.length : Int))⟩, ⟨4, .no, some (B true)⟩, ⟨8, .row [(I x5)], none⟩, ⟨12, .br false, none⟩]) (π := [(1, 1)]) (ts := [0, 1, 5]) (kp := []) (ps := [AV.lit (.int .i64 (((List.length (p1.map o3)) : Nat) : Int)) = (I (p1.length : Int)), (B (decide (v3 < (p1.length : Int)))) = (B true), (0 : Int) ≤ v3, v3 < (((List.length (p1.map o3)) : Nat) : Int), (p1.map o3)[(Int.toNat v3)]? = some [(I x5)], (decide (x5 < p2)) = false, RenOK [(1, 1)] (p1.map o3)]) (by kernel_rfl) ⟨(lenM o3), (litB c4), (rd0 hx5), (rdL o3 hx5), (rdM o3 hx5), c7, (rok (treeM t3)), trivial⟩ (spec_l1Put_j1_m hP hn hx p1 p2 v3 ih  _ h)
    · exact go_to hΘ hm hx hP hn (hs := [⟨2, .no, some (I (p1.length : Int))⟩, ⟨4, .no, some (B false)⟩]) (π := [(1, 1)]) (ts := [0, 1, 5]) (kp := []) (ps := [AV.lit (.int .i64 (((List.length (p1.map o3)) : Nat) : Int)) = (I (p1.length : Int)), (B (decide (v3 < (p1.length : Int)))) = (B false), RenOK [(1, 1)] (p1.map o3)]) (by kernel_rfl) ⟨(lenM o3), (litB c18), (rok (treeM t3)), trivial⟩ (spec_l1Put_j1_m hP hn hx p1 p2 v3 ih  _ h)
noncomputable def spec_l1Put (p1 : (List Int)) (p2 : Int) : Option (List Int) :=
  spec_l1Put_l0 p1 p2 FU 0
theorem spec_l1Put_m {p1 : (List Int)} {p2 : Int} {r : (List Int)} (h : spec_l1Put p1 p2 = some r) : MeetsR Try.prog 25 [⟨3, 1, (p1.map o3)⟩] [(AV.sl 0 0 (List.length (p1.map o3))), (I p2)] [false] [⟨3, 1, (p1.map o3)⟩] (AV.own 3 1 (r.map o3)) := by
  refine meetsR_of Θ_ok Try.func25 rfl (c := body25) (by kernel_rfl) (Nat.le_of_ble_eq_true rfl) rfl (Nat.le_of_ble_eq_true rfl) rfl (fr := []) (frI rfl) ?_
  intro E hP hn hx
  replace hn : E.n = 48 := hn
  have hm : E.P.follows .mixedOrders = true := by rw [hP]; exact mixed
  have hΘ : TOK E.P Θ := by rw [hP]; exact Θ_ok
  unfold spec_l1Put at h
  show WAt E body25 (FQ (RetE Θ Try.f25.results.toList [false] [⟨3, 1, (p1.map o3)⟩] (AV.own 3 1 (r.map o3)) E)) [] ⟨[(0, (AV.sl 0 0 (List.length (p1.map o3)))), (1, (I p2))], [(0, some ⟨3, 1, (p1.map o3)⟩)], [0, JJ]⟩
  exact go_to hΘ hm hx hP hn (hs := []) (π := [(0, 1)]) (ts := [0, 1, 5]) (kp := []) (ps := [RenOK [(0, 1)] (p1.map o3)]) (by kernel_rfl) ⟨(rok (treeM t3)), trivial⟩ (spec_l1Put_l0_m hP hn hx p1 p2 FU 0 _ h)
noncomputable def body46 : Code := match Try.f46.body with | some c => c | none => .skip
noncomputable def spec_l1In (p1 : Int) (p2 : Int) (p3 : Int) : Option Bool :=
  if (decide (p1 ≥ p2)) = true then
    some (decide (p1 ≤ p3))
  else
    some false
theorem spec_l1In_m {p1 : Int} {p2 : Int} {p3 : Int} {r : Bool} (h : spec_l1In p1 p2 p3 = some r) : Meets Try.prog 46 [(I p1), (I p2), (I p3)] (B r) := by
  refine meets_ofC Θ_ok Try.func46 rfl (c := body46) (by kernel_rfl) (Nat.le_of_ble_eq_true rfl) ?_
  intro E hP hn hx
  replace hn : E.n = 15 := hn
  have hm : E.P.follows .mixedOrders = true := by rw [hP]; exact mixed
  have hΘ : TOK E.P Θ := by rw [hP]; exact Θ_ok
  unfold spec_l1In at h
  show WAt E body46 (FQ (RetE Θ Try.f46.results.toList [] [] (B r) E)) [] ⟨[(0, (I p1)), (1, (I p2)), (2, (I p3))], [], [JJ]⟩
  rcases itS h with ⟨c4, h⟩ | ⟨c5, h⟩
  · have h := Option.some.inj h
    subst h
    exact go_ret hΘ hm hP hn (hs := [⟨4, .no, some (B true)⟩]) (rh := []) (ph := .raw) (ps := [(B (decide (p1 ≥ p2))) = (B true), (B (decide (p1 ≤ p3))) = (B (decide (p1 ≤ p3))), litA (B (decide (p1 ≤ p3))) = true]) (by kernel_rfl) ⟨(litB c4), rfl, rfl, trivial⟩
  · have h := Option.some.inj h
    subst h
    exact go_ret hΘ hm hP hn (hs := [⟨4, .no, some (B false)⟩]) (rh := []) (ph := .raw) (ps := [(B (decide (p1 ≥ p2))) = (B false), (B false) = (B false), litA (B false) = true]) (by kernel_rfl) ⟨(litB c5), rfl, rfl, trivial⟩
noncomputable def body33 : Code := match Try.f33.body with | some c => c | none => .skip
noncomputable def spec_l6Event_j0  (p1 : GEvent)  : Option Bool :=
  Option.bind (spec_l1In p1.Thread 0 4) fun r9 =>
  if r9 = true then
    Option.bind (spec_l1In p1.Kind 1 12) fun r11 =>
    if r11 = true then
      Option.bind (spec_l1In p1.Obj (-1) 99) fun r13 =>
      if r13 = true then
        Option.bind (spec_l1In p1.Lock (-1) 99) fun r15 =>
        if r15 = true then
          Option.bind (spec_l1In p1.Pc 0 99) fun r17 =>
          some r17
        else
          some false
      else
        some false
    else
      some false
  else
    some false
theorem spec_l6Event_j0_m {E : Env} (hP : E.P = Try.prog) (hn : E.n = 49) (hx : ∀ p, p ∈ E.fx → p.1 ∈ ([] : List Nat)) (p1 : GEvent)   (r : Bool) (h : spec_l6Event_j0 p1  = some r) : WAt E body33 (FQ (RetE Θ Try.f33.results.toList [] [] (B r) E)) [true, false, true, true] ⟨[(1, (AV.ptr 1 0 0))], [(1, some ⟨40, 5, [((o40 p1))]⟩)], [1, JJ]⟩ := by
  have hm : E.P.follows .mixedOrders = true := by rw [hP]; exact mixed
  have hΘ : TOK E.P Θ := by rw [hP]; exact Θ_ok
  unfold spec_l6Event_j0 at h
  obtain ⟨r9, hr9, h⟩ := bnS h
  rcases itS h with ⟨c10, h⟩ | ⟨c21, h⟩
  · obtain ⟨r11, hr11, h⟩ := bnS h
    rcases itS h with ⟨c12, h⟩ | ⟨c20, h⟩
    · obtain ⟨r13, hr13, h⟩ := bnS h
      rcases itS h with ⟨c14, h⟩ | ⟨c19, h⟩
      · obtain ⟨r15, hr15, h⟩ := bnS h
        rcases itS h with ⟨c16, h⟩ | ⟨c18, h⟩
        · obtain ⟨r17, hr17, h⟩ := bnS h
          have h := Option.some.inj h
          subst h
          exact go_ret hΘ hm hP hn (hs := [⟨2, .callV [] (B r9), none⟩, ⟨3, .no, some (B true)⟩, ⟨6, .callV [] (B r11), none⟩, ⟨8, .no, some (B true)⟩, ⟨11, .callV [] (B r13), none⟩, ⟨13, .no, some (B true)⟩, ⟨16, .callV [] (B r15), none⟩, ⟨18, .no, some (B true)⟩, ⟨21, .callV [] (B r17), none⟩]) (rh := []) (ph := .raw) (ps := [Meets Try.prog 46 [(I p1.Thread), (I 0), (I 4)] (B r9), litA (B r9) = true, (B r9) = (B true), Meets Try.prog 46 [(I p1.Kind), (I 1), (I 12)] (B r11), litA (B r11) = true, (B r11) = (B true), Meets Try.prog 46 [(I p1.Obj), (I (-1)), (I 99)] (B r13), litA (B r13) = true, (B r13) = (B true), Meets Try.prog 46 [(I p1.Lock), (I (-1)), (I 99)] (B r15), litA (B r15) = true, (B r15) = (B true), Meets Try.prog 46 [(I p1.Pc), (I 0), (I 99)] (B r17), litA (B r17) = true, (B r17) = (B r17), litA (B r17) = true]) (by kernel_rfl) ⟨(spec_l1In_m hr9), rfl, (litB c10), (spec_l1In_m hr11), rfl, (litB c12), (spec_l1In_m hr13), rfl, (litB c14), (spec_l1In_m hr15), rfl, (litB c16), (spec_l1In_m hr17), rfl, rfl, rfl, trivial⟩
        · have h := Option.some.inj h
          subst h
          exact go_ret hΘ hm hP hn (hs := [⟨2, .callV [] (B r9), none⟩, ⟨3, .no, some (B true)⟩, ⟨6, .callV [] (B r11), none⟩, ⟨8, .no, some (B true)⟩, ⟨11, .callV [] (B r13), none⟩, ⟨13, .no, some (B true)⟩, ⟨16, .callV [] (B r15), none⟩, ⟨18, .no, some (B false)⟩]) (rh := []) (ph := .raw) (ps := [Meets Try.prog 46 [(I p1.Thread), (I 0), (I 4)] (B r9), litA (B r9) = true, (B r9) = (B true), Meets Try.prog 46 [(I p1.Kind), (I 1), (I 12)] (B r11), litA (B r11) = true, (B r11) = (B true), Meets Try.prog 46 [(I p1.Obj), (I (-1)), (I 99)] (B r13), litA (B r13) = true, (B r13) = (B true), Meets Try.prog 46 [(I p1.Lock), (I (-1)), (I 99)] (B r15), litA (B r15) = true, (B r15) = (B false), (B false) = (B false), litA (B false) = true]) (by kernel_rfl) ⟨(spec_l1In_m hr9), rfl, (litB c10), (spec_l1In_m hr11), rfl, (litB c12), (spec_l1In_m hr13), rfl, (litB c14), (spec_l1In_m hr15), rfl, (litB c18), rfl, rfl, trivial⟩
      · have h := Option.some.inj h
        subst h
        exact go_ret hΘ hm hP hn (hs := [⟨2, .callV [] (B r9), none⟩, ⟨3, .no, some (B true)⟩, ⟨6, .callV [] (B r11), none⟩, ⟨8, .no, some (B true)⟩, ⟨11, .callV [] (B r13), none⟩, ⟨13, .no, some (B false)⟩]) (rh := []) (ph := .raw) (ps := [Meets Try.prog 46 [(I p1.Thread), (I 0), (I 4)] (B r9), litA (B r9) = true, (B r9) = (B true), Meets Try.prog 46 [(I p1.Kind), (I 1), (I 12)] (B r11), litA (B r11) = true, (B r11) = (B true), Meets Try.prog 46 [(I p1.Obj), (I (-1)), (I 99)] (B r13), litA (B r13) = true, (B r13) = (B false), (B false) = (B false), litA (B false) = true]) (by kernel_rfl) ⟨(spec_l1In_m hr9), rfl, (litB c10), (spec_l1In_m hr11), rfl, (litB c12), (spec_l1In_m hr13), rfl, (litB c19), rfl, rfl, trivial⟩
    · have h := Option.some.inj h
      subst h
      exact go_ret hΘ hm hP hn (hs := [⟨2, .callV [] (B r9), none⟩, ⟨3, .no, some (B true)⟩, ⟨6, .callV [] (B r11), none⟩, ⟨8, .no, some (B false)⟩]) (rh := []) (ph := .raw) (ps := [Meets Try.prog 46 [(I p1.Thread), (I 0), (I 4)] (B r9), litA (B r9) = true, (B r9) = (B true), Meets Try.prog 46 [(I p1.Kind), (I 1), (I 12)] (B r11), litA (B r11) = true, (B r11) = (B false), (B false) = (B false), litA (B false) = true]) (by kernel_rfl) ⟨(spec_l1In_m hr9), rfl, (litB c10), (spec_l1In_m hr11), rfl, (litB c20), rfl, rfl, trivial⟩
  · have h := Option.some.inj h
    subst h
    exact go_ret hΘ hm hP hn (hs := [⟨2, .callV [] (B r9), none⟩, ⟨3, .no, some (B false)⟩]) (rh := []) (ph := .raw) (ps := [Meets Try.prog 46 [(I p1.Thread), (I 0), (I 4)] (B r9), litA (B r9) = true, (B r9) = (B false), (B false) = (B false), litA (B false) = true]) (by kernel_rfl) ⟨(spec_l1In_m hr9), rfl, (litB c21), rfl, rfl, trivial⟩
noncomputable def spec_l6Event (p1 : GEvent) : Option Bool :=
  Option.bind (spec_l1In p1.Kind 2 10) fun r2 =>
  if r2 = true then
    if (decide (p1.Obj < 0)) = true then
      some false
    else
      if (p1.Kind == 8) = true then
        if (decide (p1.Lock < 0)) = true then
          some false
        else
          spec_l6Event_j0 p1
      else
        if (p1.Kind == 9) = true then
          if (decide (p1.Lock < 0)) = true then
            some false
          else
            spec_l6Event_j0 p1
        else
          spec_l6Event_j0 p1
  else
    if (p1.Kind == 8) = true then
      if (decide (p1.Lock < 0)) = true then
        some false
      else
        spec_l6Event_j0 p1
    else
      if (p1.Kind == 9) = true then
        if (decide (p1.Lock < 0)) = true then
          some false
        else
          spec_l6Event_j0 p1
      else
        spec_l6Event_j0 p1
theorem spec_l6Event_m {p1 : GEvent} {r : Bool} (h : spec_l6Event p1 = some r) : Meets Try.prog 33 [(AV.agg ((o40 p1)))] (B r) := by
  refine meets_ofC Θ_ok Try.func33 rfl (c := body33) (by kernel_rfl) (Nat.le_of_ble_eq_true rfl) ?_
  intro E hP hn hx
  replace hn : E.n = 49 := hn
  have hm : E.P.follows .mixedOrders = true := by rw [hP]; exact mixed
  have hΘ : TOK E.P Θ := by rw [hP]; exact Θ_ok
  unfold spec_l6Event at h
  show WAt E body33 (FQ (RetE Θ Try.f33.results.toList [] [] (B r) E)) [] ⟨[(0, (AV.agg ((o40 p1))))], [], [JJ]⟩
  obtain ⟨r2, hr2, h⟩ := bnS h
  rcases itS h with ⟨c3, h⟩ | ⟨c27, h⟩
  · rcases itS h with ⟨c4, h⟩ | ⟨c5, h⟩
    · have h := Option.some.inj h
      subst h
      exact go_ret hΘ hm hP hn (hs := [⟨0, .new 1001, none⟩, ⟨4, .callV [] (B r2), none⟩, ⟨5, .no, some (B true)⟩, ⟨10, .no, some (B true)⟩]) (rh := []) (ph := .raw) (ps := [Meets Try.prog 46 [(I p1.Kind), (I 2), (I 10)] (B r2), litA (B r2) = true, (B r2) = (B true), (B (decide (p1.Obj < 0))) = (B true), (B false) = (B false), litA (B false) = true]) (by kernel_rfl) ⟨(spec_l1In_m hr2), rfl, (litB c3), (litB c4), rfl, rfl, trivial⟩
    · rcases itS h with ⟨c6, h⟩ | ⟨c22, h⟩
      · rcases itS h with ⟨c7, h⟩ | ⟨c8, h⟩
        · have h := Option.some.inj h
          subst h
          exact go_ret hΘ hm hP hn (hs := [⟨0, .new 1001, none⟩, ⟨4, .callV [] (B r2), none⟩, ⟨5, .no, some (B true)⟩, ⟨10, .no, some (B false)⟩, ⟨14, .no, some (B true)⟩, ⟨25, .br true, none⟩]) (rh := []) (ph := .raw) (ps := [Meets Try.prog 46 [(I p1.Kind), (I 2), (I 10)] (B r2), litA (B r2) = true, (B r2) = (B true), (B (decide (p1.Obj < 0))) = (B false), (B (p1.Kind == 8)) = (B true), (decide (p1.Lock < 0)) = true, (B false) = (B false), litA (B false) = true]) (by kernel_rfl) ⟨(spec_l1In_m hr2), rfl, (litB c3), (litB c5), (litB c6), c7, rfl, rfl, trivial⟩
        · exact go_to hΘ hm hx hP hn (hs := [⟨0, .new 1001, none⟩, ⟨4, .callV [] (B r2), none⟩, ⟨5, .no, some (B true)⟩, ⟨10, .no, some (B false)⟩, ⟨14, .no, some (B true)⟩, ⟨25, .br false, none⟩]) (π := [(1001, 1)]) (ts := [1]) (kp := []) (ps := [Meets Try.prog 46 [(I p1.Kind), (I 2), (I 10)] (B r2), litA (B r2) = true, (B r2) = (B true), (B (decide (p1.Obj < 0))) = (B false), (B (p1.Kind == 8)) = (B true), (decide (p1.Lock < 0)) = false, RenOK [(1001, 1)] [((o40 p1))]]) (by kernel_rfl) ⟨(spec_l1In_m hr2), rfl, (litB c3), (litB c5), (litB c6), c8, (rok rfl), trivial⟩ (spec_l6Event_j0_m hP hn hx p1  _ h)
      · rcases itS h with ⟨c23, h⟩ | ⟨c26, h⟩
        · rcases itS h with ⟨c24, h⟩ | ⟨c25, h⟩
          · have h := Option.some.inj h
            subst h
            exact go_ret hΘ hm hP hn (hs := [⟨0, .new 1001, none⟩, ⟨4, .callV [] (B r2), none⟩, ⟨5, .no, some (B true)⟩, ⟨10, .no, some (B false)⟩, ⟨14, .no, some (B false)⟩, ⟨19, .no, some (B true)⟩, ⟨25, .br true, none⟩]) (rh := []) (ph := .raw) (ps := [Meets Try.prog 46 [(I p1.Kind), (I 2), (I 10)] (B r2), litA (B r2) = true, (B r2) = (B true), (B (decide (p1.Obj < 0))) = (B false), (B (p1.Kind == 8)) = (B false), (B (p1.Kind == 9)) = (B true), (decide (p1.Lock < 0)) = true, (B false) = (B false), litA (B false) = true]) (by kernel_rfl) ⟨(spec_l1In_m hr2), rfl, (litB c3), (litB c5), (litB c22), (litB c23), c24, rfl, rfl, trivial⟩
          · exact go_to hΘ hm hx hP hn (hs := [⟨0, .new 1001, none⟩, ⟨4, .callV [] (B r2), none⟩, ⟨5, .no, some (B true)⟩, ⟨10, .no, some (B false)⟩, ⟨14, .no, some (B false)⟩, ⟨19, .no, some (B true)⟩, ⟨25, .br false, none⟩]) (π := [(1001, 1)]) (ts := [1]) (kp := []) (ps := [Meets Try.prog 46 [(I p1.Kind), (I 2), (I 10)] (B r2), litA (B r2) = true, (B r2) = (B true), (B (decide (p1.Obj < 0))) = (B false), (B (p1.Kind == 8)) = (B false), (B (p1.Kind == 9)) = (B true), (decide (p1.Lock < 0)) = false, RenOK [(1001, 1)] [((o40 p1))]]) (by kernel_rfl) ⟨(spec_l1In_m hr2), rfl, (litB c3), (litB c5), (litB c22), (litB c23), c25, (rok rfl), trivial⟩ (spec_l6Event_j0_m hP hn hx p1  _ h)
        · exact go_to hΘ hm hx hP hn (hs := [⟨0, .new 1001, none⟩, ⟨4, .callV [] (B r2), none⟩, ⟨5, .no, some (B true)⟩, ⟨10, .no, some (B false)⟩, ⟨14, .no, some (B false)⟩, ⟨19, .no, some (B false)⟩]) (π := [(1001, 1)]) (ts := [1]) (kp := []) (ps := [Meets Try.prog 46 [(I p1.Kind), (I 2), (I 10)] (B r2), litA (B r2) = true, (B r2) = (B true), (B (decide (p1.Obj < 0))) = (B false), (B (p1.Kind == 8)) = (B false), (B (p1.Kind == 9)) = (B false), RenOK [(1001, 1)] [((o40 p1))]]) (by kernel_rfl) ⟨(spec_l1In_m hr2), rfl, (litB c3), (litB c5), (litB c22), (litB c26), (rok rfl), trivial⟩ (spec_l6Event_j0_m hP hn hx p1  _ h)
  · rcases itS h with ⟨c28, h⟩ | ⟨c31, h⟩
    · rcases itS h with ⟨c29, h⟩ | ⟨c30, h⟩
      · have h := Option.some.inj h
        subst h
        exact go_ret hΘ hm hP hn (hs := [⟨0, .new 1001, none⟩, ⟨4, .callV [] (B r2), none⟩, ⟨5, .no, some (B false)⟩, ⟨14, .no, some (B true)⟩, ⟨25, .br true, none⟩]) (rh := []) (ph := .raw) (ps := [Meets Try.prog 46 [(I p1.Kind), (I 2), (I 10)] (B r2), litA (B r2) = true, (B r2) = (B false), (B (p1.Kind == 8)) = (B true), (decide (p1.Lock < 0)) = true, (B false) = (B false), litA (B false) = true]) (by kernel_rfl) ⟨(spec_l1In_m hr2), rfl, (litB c27), (litB c28), c29, rfl, rfl, trivial⟩
      · exact go_to hΘ hm hx hP hn (hs := [⟨0, .new 1001, none⟩, ⟨4, .callV [] (B r2), none⟩, ⟨5, .no, some (B false)⟩, ⟨14, .no, some (B true)⟩, ⟨25, .br false, none⟩]) (π := [(1001, 1)]) (ts := [1]) (kp := []) (ps := [Meets Try.prog 46 [(I p1.Kind), (I 2), (I 10)] (B r2), litA (B r2) = true, (B r2) = (B false), (B (p1.Kind == 8)) = (B true), (decide (p1.Lock < 0)) = false, RenOK [(1001, 1)] [((o40 p1))]]) (by kernel_rfl) ⟨(spec_l1In_m hr2), rfl, (litB c27), (litB c28), c30, (rok rfl), trivial⟩ (spec_l6Event_j0_m hP hn hx p1  _ h)
    · rcases itS h with ⟨c32, h⟩ | ⟨c35, h⟩
      · rcases itS h with ⟨c33, h⟩ | ⟨c34, h⟩
        · have h := Option.some.inj h
          subst h
          exact go_ret hΘ hm hP hn (hs := [⟨0, .new 1001, none⟩, ⟨4, .callV [] (B r2), none⟩, ⟨5, .no, some (B false)⟩, ⟨14, .no, some (B false)⟩, ⟨19, .no, some (B true)⟩, ⟨25, .br true, none⟩]) (rh := []) (ph := .raw) (ps := [Meets Try.prog 46 [(I p1.Kind), (I 2), (I 10)] (B r2), litA (B r2) = true, (B r2) = (B false), (B (p1.Kind == 8)) = (B false), (B (p1.Kind == 9)) = (B true), (decide (p1.Lock < 0)) = true, (B false) = (B false), litA (B false) = true]) (by kernel_rfl) ⟨(spec_l1In_m hr2), rfl, (litB c27), (litB c31), (litB c32), c33, rfl, rfl, trivial⟩
        · exact go_to hΘ hm hx hP hn (hs := [⟨0, .new 1001, none⟩, ⟨4, .callV [] (B r2), none⟩, ⟨5, .no, some (B false)⟩, ⟨14, .no, some (B false)⟩, ⟨19, .no, some (B true)⟩, ⟨25, .br false, none⟩]) (π := [(1001, 1)]) (ts := [1]) (kp := []) (ps := [Meets Try.prog 46 [(I p1.Kind), (I 2), (I 10)] (B r2), litA (B r2) = true, (B r2) = (B false), (B (p1.Kind == 8)) = (B false), (B (p1.Kind == 9)) = (B true), (decide (p1.Lock < 0)) = false, RenOK [(1001, 1)] [((o40 p1))]]) (by kernel_rfl) ⟨(spec_l1In_m hr2), rfl, (litB c27), (litB c31), (litB c32), c34, (rok rfl), trivial⟩ (spec_l6Event_j0_m hP hn hx p1  _ h)
      · exact go_to hΘ hm hx hP hn (hs := [⟨0, .new 1001, none⟩, ⟨4, .callV [] (B r2), none⟩, ⟨5, .no, some (B false)⟩, ⟨14, .no, some (B false)⟩, ⟨19, .no, some (B false)⟩]) (π := [(1001, 1)]) (ts := [1]) (kp := []) (ps := [Meets Try.prog 46 [(I p1.Kind), (I 2), (I 10)] (B r2), litA (B r2) = true, (B r2) = (B false), (B (p1.Kind == 8)) = (B false), (B (p1.Kind == 9)) = (B false), RenOK [(1001, 1)] [((o40 p1))]]) (by kernel_rfl) ⟨(spec_l1In_m hr2), rfl, (litB c27), (litB c31), (litB c35), (rok rfl), trivial⟩ (spec_l6Event_j0_m hP hn hx p1  _ h)
noncomputable def body16 : Code := match Try.f16.body with | some c => c | none => .skip
noncomputable def spec_l6Trace_l0  (p1 : (List GEvent)) : Nat → Int → Option Bool
  | 0, _ => none
  | n + 1, v2 =>
  if (decide (v2 < (p1.length : Int))) = true then
    Option.bind (rd p1 v2) fun x4 =>
    Option.bind (spec_l6Event x4) fun r5 =>
    if (!r5) = true then
      some false
    else
      spec_l6Trace_l0 p1 n (w64 (v2 + 1))
  else
    some (decide ((p1.length : Int) ≤ 200))
theorem spec_l6Trace_l0_m {E : Env} (hP : E.P = Try.prog) (hn : E.n = 18) (hx : ∀ p, p ∈ E.fx → p.1 ∈ ([] : List Nat)) (p1 : (List GEvent))  : ∀ (n : Nat) (v2 : Int) (r : Bool), spec_l6Trace_l0 p1 n v2 = some r → WAt E body16 (FQ (RetE Θ Try.f16.results.toList [] [] (B r) E)) [true, false, true, false] ⟨[(0, (AV.ro 5 (p1.map o40))), (5, (AV.ro 5 (p1.map o40))), (6, (I (p1.length : Int))), (7, (I v2))], [], [JJ]⟩ := by
  have hm : E.P.follows .mixedOrders = true := by rw [hP]; exact mixed
  have hΘ : TOK E.P Θ := by rw [hP]; exact Θ_ok
  intro n
  induction n with
  | zero => intro v2 r h; simp only [spec_l6Trace_l0] at h; cases h
  | succ n ih =>
    intro v2 r h
    simp only [spec_l6Trace_l0] at h
    rcases itS h with ⟨c3, h⟩ | ⟨c8, h⟩
    · obtain ⟨x4, hx4, h⟩ := bnS h
      obtain ⟨r5, hr5, h⟩ := bnS h
      rcases itS h with ⟨c6, h⟩ | ⟨c7, h⟩
      · have h := Option.some.inj h
        subst h
        exact go_ret hΘ hm hP hn (hs := [⟨1, .br true, none⟩, ⟨2, .row (o40 x4), none⟩, ⟨4, .new 1001, none⟩, ⟨7, .callV [[]] (B r5), none⟩, ⟨9, .br true, none⟩]) (rh := []) (ph := .raw) (ps := [(decide (v2 < (p1.length : Int))) = true, (0 : Int) ≤ v2, (p1.map o40)[(Int.toNat v2)]? = some (o40 x4), Meets Try.prog 33 [(AV.agg ((o40 x4)))] (B r5), litA (B r5) = true, (!r5) = true, (B false) = (B false), litA (B false) = true]) (by kernel_rfl) ⟨c3, (rd0 hx4), (rdM o40 hx4), (spec_l6Event_m hr5), rfl, c6, rfl, rfl, trivial⟩
      · exact go_to hΘ hm hx hP hn (hs := [⟨1, .br true, none⟩, ⟨2, .row (o40 x4), none⟩, ⟨4, .new 1001, none⟩, ⟨7, .callV [[]] (B r5), none⟩, ⟨9, .br false, none⟩]) (π := []) (ts := [0, 5, 6, 7]) (kp := []) (ps := [(decide (v2 < (p1.length : Int))) = true, (0 : Int) ≤ v2, (p1.map o40)[(Int.toNat v2)]? = some (o40 x4), Meets Try.prog 33 [(AV.agg ((o40 x4)))] (B r5), litA (B r5) = true, (!r5) = false]) (by kernel_rfl) ⟨c3, (rd0 hx4), (rdM o40 hx4), (spec_l6Event_m hr5), rfl, c7, trivial⟩ (ih (w64 (v2 + 1)) _ h)
    · have h := Option.some.inj h
      subst h
      exact go_ret hΘ hm hP hn (hs := [⟨1, .br false, none⟩, ⟨3, .no, some (I (p1.length : Int))⟩]) (rh := []) (ph := .raw) (ps := [(decide (v2 < (p1.length : Int))) = false, AV.lit (.int .i64 (((p1.map o40).length : Nat) : Int)) = (I (p1.length : Int)), (B (decide ((p1.length : Int) ≤ 200))) = (B (decide ((p1.length : Int) ≤ 200))), litA (B (decide ((p1.length : Int) ≤ 200))) = true]) (by kernel_rfl) ⟨c8, (lenM o40), rfl, rfl, trivial⟩
noncomputable def spec_l6Trace (p1 : (List GEvent)) : Option Bool :=
  spec_l6Trace_l0 p1 FU 0
theorem spec_l6Trace_m {p1 : (List GEvent)} {r : Bool} (h : spec_l6Trace p1 = some r) : Meets Try.prog 16 [(AV.ro 5 (p1.map o40))] (B r) := by
  refine meets_ofC Θ_ok Try.func16 rfl (c := body16) (by kernel_rfl) (Nat.le_of_ble_eq_true rfl) ?_
  intro E hP hn hx
  replace hn : E.n = 18 := hn
  have hm : E.P.follows .mixedOrders = true := by rw [hP]; exact mixed
  have hΘ : TOK E.P Θ := by rw [hP]; exact Θ_ok
  unfold spec_l6Trace at h
  show WAt E body16 (FQ (RetE Θ Try.f16.results.toList [] [] (B r) E)) [] ⟨[(0, (AV.ro 5 (p1.map o40)))], [], [JJ]⟩
  exact go_to hΘ hm hx hP hn (hs := [⟨2, .no, some (I (p1.length : Int))⟩]) (π := []) (ts := [0, 5, 6, 7]) (kp := []) (ps := [AV.lit (.int .i64 (((p1.map o40).length : Nat) : Int)) = (I (p1.length : Int))]) (by kernel_rfl) ⟨(lenM o40), trivial⟩ (spec_l6Trace_l0_m hP hn hx p1 FU 0 _ h)
noncomputable def body41 : Code := match Try.f41.body with | some c => c | none => .skip
noncomputable def spec_l6Gives (p1 : GEvent) : Option Int :=
  if (p1.Kind == 5) = true then
    some p1.Obj
  else
    if (p1.Kind == 8) = true then
      some p1.Lock
    else
      some (-2)
theorem spec_l6Gives_m {p1 : GEvent} {r : Int} (h : spec_l6Gives p1 = some r) : Meets Try.prog 41 [(AV.agg ((o40 p1)))] (I r) := by
  refine meets_ofC Θ_ok Try.func41 rfl (c := body41) (by kernel_rfl) (Nat.le_of_ble_eq_true rfl) ?_
  intro E hP hn hx
  replace hn : E.n = 13 := hn
  have hm : E.P.follows .mixedOrders = true := by rw [hP]; exact mixed
  have hΘ : TOK E.P Θ := by rw [hP]; exact Θ_ok
  unfold spec_l6Gives at h
  show WAt E body41 (FQ (RetE Θ Try.f41.results.toList [] [] (I r) E)) [] ⟨[(0, (AV.agg ((o40 p1))))], [], [JJ]⟩
  rcases itS h with ⟨c2, h⟩ | ⟨c3, h⟩
  · have h := Option.some.inj h
    subst h
    exact go_ret hΘ hm hP hn (hs := [⟨0, .new 1001, none⟩, ⟨6, .br true, none⟩]) (rh := []) (ph := .raw) (ps := [(p1.Kind == 5) = true, (I p1.Obj) = (I p1.Obj), litA (I p1.Obj) = true]) (by kernel_rfl) ⟨c2, rfl, rfl, trivial⟩
  · rcases itS h with ⟨c4, h⟩ | ⟨c5, h⟩
    · have h := Option.some.inj h
      subst h
      exact go_ret hΘ hm hP hn (hs := [⟨0, .new 1001, none⟩, ⟨6, .br false, none⟩, ⟨9, .br true, none⟩]) (rh := []) (ph := .raw) (ps := [(p1.Kind == 5) = false, (p1.Kind == 8) = true, (I p1.Lock) = (I p1.Lock), litA (I p1.Lock) = true]) (by kernel_rfl) ⟨c3, c4, rfl, rfl, trivial⟩
    · have h := Option.some.inj h
      subst h
      exact go_ret hΘ hm hP hn (hs := [⟨0, .new 1001, none⟩, ⟨6, .br false, none⟩, ⟨9, .br false, none⟩]) (rh := []) (ph := .raw) (ps := [(p1.Kind == 5) = false, (p1.Kind == 8) = false, (I (-2)) = (I (-2)), litA (I (-2)) = true]) (by kernel_rfl) ⟨c3, c5, rfl, rfl, trivial⟩
noncomputable def body40 : Code := match Try.f40.body with | some c => c | none => .skip
noncomputable def spec_l6Takes (p1 : GEvent) : Option Int :=
  if (p1.Kind == 4) = true then
    some p1.Obj
  else
    if (p1.Kind == 9) = true then
      some p1.Lock
    else
      some (-3)
theorem spec_l6Takes_m {p1 : GEvent} {r : Int} (h : spec_l6Takes p1 = some r) : Meets Try.prog 40 [(AV.agg ((o40 p1)))] (I r) := by
  refine meets_ofC Θ_ok Try.func40 rfl (c := body40) (by kernel_rfl) (Nat.le_of_ble_eq_true rfl) ?_
  intro E hP hn hx
  replace hn : E.n = 13 := hn
  have hm : E.P.follows .mixedOrders = true := by rw [hP]; exact mixed
  have hΘ : TOK E.P Θ := by rw [hP]; exact Θ_ok
  unfold spec_l6Takes at h
  show WAt E body40 (FQ (RetE Θ Try.f40.results.toList [] [] (I r) E)) [] ⟨[(0, (AV.agg ((o40 p1))))], [], [JJ]⟩
  rcases itS h with ⟨c2, h⟩ | ⟨c3, h⟩
  · have h := Option.some.inj h
    subst h
    exact go_ret hΘ hm hP hn (hs := [⟨0, .new 1001, none⟩, ⟨6, .br true, none⟩]) (rh := []) (ph := .raw) (ps := [(p1.Kind == 4) = true, (I p1.Obj) = (I p1.Obj), litA (I p1.Obj) = true]) (by kernel_rfl) ⟨c2, rfl, rfl, trivial⟩
  · rcases itS h with ⟨c4, h⟩ | ⟨c5, h⟩
    · have h := Option.some.inj h
      subst h
      exact go_ret hΘ hm hP hn (hs := [⟨0, .new 1001, none⟩, ⟨6, .br false, none⟩, ⟨9, .br true, none⟩]) (rh := []) (ph := .raw) (ps := [(p1.Kind == 4) = false, (p1.Kind == 9) = true, (I p1.Lock) = (I p1.Lock), litA (I p1.Lock) = true]) (by kernel_rfl) ⟨c3, c4, rfl, rfl, trivial⟩
    · have h := Option.some.inj h
      subst h
      exact go_ret hΘ hm hP hn (hs := [⟨0, .new 1001, none⟩, ⟨6, .br false, none⟩, ⟨9, .br false, none⟩]) (rh := []) (ph := .raw) (ps := [(p1.Kind == 4) = false, (p1.Kind == 9) = false, (I (-3)) = (I (-3)), litA (I (-3)) = true]) (by kernel_rfl) ⟨c3, c5, rfl, rfl, trivial⟩
noncomputable def body42 : Code := match Try.f42.body with | some c => c | none => .skip
noncomputable def spec_l7Drop_l0  (p1 : (List Int)) (p2 : Int) : Nat → (List Int) → Int → Option (List Int)
  | 0, _, _ => none
  | n + 1, a3, v4 =>
  if (decide (v4 < (p1.length : Int))) = true then
    Option.bind (rd p1 v4) fun x6 =>
    if (x6 != p2) = true then
      Option.bind (app a3 [x6]) fun l8 =>
      spec_l7Drop_l0 p1 p2 n l8 (w64 (v4 + 1))
    else
      spec_l7Drop_l0 p1 p2 n a3 (w64 (v4 + 1))
  else
    some a3
theorem spec_l7Drop_l0_m {E : Env} (hP : E.P = Try.prog) (hn : E.n = 23) (hx : ∀ p, p ∈ E.fx → p.1 ∈ ([] : List Nat)) (p1 : (List Int)) (p2 : Int)  : ∀ (n : Nat) (a3 : (List Int)) (v4 : Int) (r : (List Int)), spec_l7Drop_l0 p1 p2 n a3 v4 = some r → WAt E body42 (FQ (RetE Θ Try.f42.results.toList [] [] (AV.own 3 1 (r.map o3)) E)) [true, true, false, true, false] ⟨[(1, (I p2)), (5, (AV.sl 1 0 (List.length (a3.map o3)))), (8, (AV.ro 1 (p1.map o3))), (9, (I (p1.length : Int))), (10, (I v4))], [(1, some ⟨3, 1, (a3.map o3)⟩)], [1, JJ]⟩ := by
  have hm : E.P.follows .mixedOrders = true := by rw [hP]; exact mixed
  have hΘ : TOK E.P Θ := by rw [hP]; exact Θ_ok
  intro n
  induction n with
  | zero => intro a3 v4 r h; simp only [spec_l7Drop_l0] at h; cases h
  | succ n ih =>
    intro a3 v4 r h
    simp only [spec_l7Drop_l0] at h
    rcases itS h with ⟨c5, h⟩ | ⟨c10, h⟩
    · obtain ⟨x6, hx6, h⟩ := bnS h
      rcases itS h with ⟨c7, h⟩ | ⟨c9, h⟩
      · obtain ⟨l8, hl8, h⟩ := bnS h
        exact go_to hΘ hm hx hP hn (hs := [⟨1, .br true, none⟩, ⟨2, .row (o3 x6), none⟩, ⟨8, .br true, none⟩, ⟨11, .new 1001, none⟩, ⟨12, .app 1002 (l8.map o3), none⟩]) (π := [(1002, 1)]) (ts := [1, 5, 8, 9, 10]) (kp := []) (ps := [(decide (v4 < (p1.length : Int))) = true, (0 : Int) ≤ v4, (p1.map o3)[(Int.toNat v4)]? = some (o3 x6), (x6 != p2) = true, (a3.map o3).take (List.length (a3.map o3)) ++ ((([x6].map o3).drop 0).take (List.length ([x6].map o3))) = (l8.map o3), ((([x6].map o3).drop 0).take (List.length ([x6].map o3))).all (fun r => r.all AV.plain) = true, (List.length (l8.map o3)) * 8 ≤ 140737488355328, (List.length (l8.map o3)) ≤ 140737488355328, RenOK [(1002, 1)] (l8.map o3)]) (by kernel_rfl) ⟨c5, (rd0 hx6), (rdM o3 hx6), c7, (appTD o3 hl8), (plD p3), (appB o3 hl8 (by decide)), (appC o3 hl8), (rok (treeM t3)), trivial⟩ (ih l8 (w64 (v4 + 1)) _ h)
      · exact go_to hΘ hm hx hP hn (hs := [⟨1, .br true, none⟩, ⟨2, .row (o3 x6), none⟩, ⟨8, .br false, none⟩]) (π := [(1, 1)]) (ts := [1, 5, 8, 9, 10]) (kp := []) (ps := [(decide (v4 < (p1.length : Int))) = true, (0 : Int) ≤ v4, (p1.map o3)[(Int.toNat v4)]? = some (o3 x6), (x6 != p2) = false, RenOK [(1, 1)] (a3.map o3)]) (by kernel_rfl) ⟨c5, (rd0 hx6), (rdM o3 hx6), c9, (rok (treeM t3)), trivial⟩ (ih a3 (w64 (v4 + 1)) _ h)
    · have h := Option.some.inj h
      subst h
      exact go_ret hΘ hm hP hn (hs := [⟨1, .br false, none⟩]) (rh := []) (ph := .own) (ps := [(decide (v4 < (p1.length : Int))) = false, treeLL ((a3.map o3).take (List.length (a3.map o3))) = true, (a3.map o3).take (List.length (a3.map o3)) = (a3.map o3), noRoLL (a3.map o3) = true]) (by kernel_rfl) ⟨c10, (treeT t3), takeM, (noRoM n3), trivial⟩
noncomputable def spec_l7Drop (p1 : (List Int)) (p2 : Int) : Option (List Int) :=
  spec_l7Drop_l0 p1 p2 FU [] 0
theorem spec_l7Drop_m {p1 : (List Int)} {p2 : Int} {r : (List Int)} (h : spec_l7Drop p1 p2 = some r) : Meets Try.prog 42 [(AV.ro 1 (p1.map o3)), (I p2)] (AV.own 3 1 (r.map o3)) := by
  refine meets_ofC Θ_ok Try.func42 rfl (c := body42) (by kernel_rfl) (Nat.le_of_ble_eq_true rfl) ?_
  intro E hP hn hx
  replace hn : E.n = 23 := hn
  have hm : E.P.follows .mixedOrders = true := by rw [hP]; exact mixed
  have hΘ : TOK E.P Θ := by rw [hP]; exact Θ_ok
  unfold spec_l7Drop at h
  show WAt E body42 (FQ (RetE Θ Try.f42.results.toList [] [] (AV.own 3 1 (r.map o3)) E)) [] ⟨[(0, (AV.ro 1 (p1.map o3))), (1, (I p2))], [], [JJ]⟩
  exact go_to hΘ hm hx hP hn (hs := [⟨3, .no, some (I (p1.length : Int))⟩, ⟨5, .nil 5 1001 3 1, none⟩]) (π := [(1001, 1)]) (ts := [1, 5, 8, 9, 10]) (kp := []) (ps := [AV.lit (.int .i64 (((p1.map o3).length : Nat) : Int)) = (I (p1.length : Int)), RenOK [(1001, 1)] ([].map o3)]) (by kernel_rfl) ⟨(lenM o3), (rok (treeM t3)), trivial⟩ (spec_l7Drop_l0_m hP hn hx p1 p2 FU [] 0 _ h)
noncomputable def body26 : Code := match Try.f26.body with | some c => c | none => .skip
noncomputable def spec_l7Held_j1 (K0 : (List Int) → Int → Option (List Int)) (p1 : (List GEvent)) (p2 : Int) (l3 : (List GEvent)) (v5 : Int) (a14 : (List Int)) (a15 : GEvent) : Option (List Int) :=
  Option.bind (spec_l6Gives a15) fun r16 =>
  if (decide (r16 ≥ 0)) = true then
    Option.bind (spec_l7Drop a14 r16) fun r18 =>
    K0 r18 (w64 (v5 + 1))
  else
    K0 a14 (w64 (v5 + 1))
theorem spec_l7Held_j1_m {E : Env} (hP : E.P = Try.prog) (hn : E.n = 43) (hx : ∀ p, p ∈ E.fx → p.1 ∈ ([] : List Nat)) (p1 : (List GEvent)) (p2 : Int) (l3 : (List GEvent)) (v5 : Int) {K0 : (List Int) → Int → Option (List Int)} (hK0 : ∀ (a4 : (List Int)) (v5 : Int) (r : (List Int)), K0 a4 v5 = some r → WAt E body26 (FQ (RetE Θ Try.f26.results.toList [] [] (AV.own 3 1 (r.map o3)) E)) [true, true, false, true, false] ⟨[(0, (AV.ro 5 (p1.map o40))), (1, (I p2)), (5, (AV.sl 1 0 (List.length (a4.map o3)))), (13, (AV.ro 5 (l3.map o40))), (14, (I (l3.length : Int))), (15, (I v5))], [(1, some ⟨3, 1, (a4.map o3)⟩)], [1, JJ]⟩) (a14 : (List Int)) (a15 : GEvent) (r : (List Int)) (h : spec_l7Held_j1 K0 p1 p2 l3 v5 a14 a15 = some r) : WAt E body26 (FQ (RetE Θ Try.f26.results.toList [] [] (AV.own 3 1 (r.map o3)) E)) [true, true, false, true, false, false, true, true, false, false, true, true, true] ⟨[(0, (AV.ro 5 (p1.map o40))), (1, (I p2)), (5, (AV.sl 1 0 (List.length (a14.map o3)))), (7, (AV.ptr 2 0 0)), (13, (AV.ro 5 (l3.map o40))), (14, (I (l3.length : Int))), (15, (I v5))], [(1, some ⟨3, 1, (a14.map o3)⟩), (2, some ⟨40, 5, [((o40 a15))]⟩)], [1, 2, JJ]⟩ := by
  have hm : E.P.follows .mixedOrders = true := by rw [hP]; exact mixed
  have hΘ : TOK E.P Θ := by rw [hP]; exact Θ_ok
  unfold spec_l7Held_j1 at h
  obtain ⟨r16, hr16, h⟩ := bnS h
  rcases itS h with ⟨c17, h⟩ | ⟨c19, h⟩
  · obtain ⟨r18, hr18, h⟩ := bnS h
    exact go_to hΘ hm hx hP hn (hs := [⟨1, .callV [[]] (I r16), none⟩, ⟨5, .br true, none⟩, ⟨8, .call [(a14.map o3)] (AV.own 3 1 (r18.map o3)) [1001], none⟩]) (π := [(1001, 1)]) (ts := [0, 1, 5, 13, 14, 15]) (kp := []) (ps := [Meets Try.prog 41 [(AV.agg ((o40 a15)))] (I r16), litA (I r16) = true, (decide (r16 ≥ 0)) = true, Meets Try.prog 42 [(AV.ro 1 (a14.map o3)), (I r16)] (AV.own 3 1 (r18.map o3)), noRo (AV.own 3 1 (r18.map o3)) = true, Frz (((a14.map o3).drop 0).take (List.length (a14.map o3))) (a14.map o3), RenOK [(1001, 1)] (r18.map o3)]) (by kernel_rfl) ⟨(spec_l6Gives_m hr16), rfl, c17, (spec_l7Drop_m hr18), (by simp only [noRo, noRoL, noRoM n3, Bool.and_self]), (frzF t3 z3), (rok (treeM t3)), trivial⟩ (hK0 r18 (w64 (v5 + 1)) _ h)
  · exact go_to hΘ hm hx hP hn (hs := [⟨1, .callV [[]] (I r16), none⟩, ⟨5, .br false, none⟩]) (π := [(1, 1)]) (ts := [0, 1, 5, 13, 14, 15]) (kp := []) (ps := [Meets Try.prog 41 [(AV.agg ((o40 a15)))] (I r16), litA (I r16) = true, (decide (r16 ≥ 0)) = false, RenOK [(1, 1)] (a14.map o3)]) (by kernel_rfl) ⟨(spec_l6Gives_m hr16), rfl, c19, (rok (treeM t3)), trivial⟩ (hK0 a14 (w64 (v5 + 1)) _ h)
noncomputable def spec_l7Held_l0  (p1 : (List GEvent)) (p2 : Int) (l3 : (List GEvent)) : Nat → (List Int) → Int → Option (List Int)
  | 0, _, _ => none
  | n + 1, a4, v5 =>
  if (decide (v5 < (l3.length : Int))) = true then
    Option.bind (rd l3 v5) fun x7 =>
    Option.bind (rd p1 p2) fun x8 =>
    if (x7.Thread != x8.Thread) = true then
      spec_l7Held_l0 p1 p2 l3 n a4 (w64 (v5 + 1))
    else
      Option.bind (spec_l6Takes x7) fun r11 =>
      if (decide (r11 ≥ 0)) = true then
        Option.bind (spec_l1Put a4 r11) fun r13 =>
        spec_l7Held_j1 (spec_l7Held_l0 p1 p2 l3 n) p1 p2 l3 v5 r13 x7
      else
        spec_l7Held_j1 (spec_l7Held_l0 p1 p2 l3 n) p1 p2 l3 v5 a4 x7
  else
    some a4
theorem spec_l7Held_l0_m {E : Env} (hP : E.P = Try.prog) (hn : E.n = 43) (hx : ∀ p, p ∈ E.fx → p.1 ∈ ([] : List Nat)) (p1 : (List GEvent)) (p2 : Int) (l3 : (List GEvent))  : ∀ (n : Nat) (a4 : (List Int)) (v5 : Int) (r : (List Int)), spec_l7Held_l0 p1 p2 l3 n a4 v5 = some r → WAt E body26 (FQ (RetE Θ Try.f26.results.toList [] [] (AV.own 3 1 (r.map o3)) E)) [true, true, false, true, false] ⟨[(0, (AV.ro 5 (p1.map o40))), (1, (I p2)), (5, (AV.sl 1 0 (List.length (a4.map o3)))), (13, (AV.ro 5 (l3.map o40))), (14, (I (l3.length : Int))), (15, (I v5))], [(1, some ⟨3, 1, (a4.map o3)⟩)], [1, JJ]⟩ := by
  have hm : E.P.follows .mixedOrders = true := by rw [hP]; exact mixed
  have hΘ : TOK E.P Θ := by rw [hP]; exact Θ_ok
  intro n
  induction n with
  | zero => intro a4 v5 r h; simp only [spec_l7Held_l0] at h; cases h
  | succ n ih =>
    intro a4 v5 r h
    simp only [spec_l7Held_l0] at h
    rcases itS h with ⟨c6, h⟩ | ⟨c21, h⟩
    · obtain ⟨x7, hx7, h⟩ := bnS h
      obtain ⟨x8, hx8, h⟩ := bnS h
      rcases itS h with ⟨c9, h⟩ | ⟨c10, h⟩
      · exact go_to hΘ hm hx hP hn (hs := [⟨1, .br true, none⟩, ⟨2, .row (o40 x7), none⟩, ⟨4, .new 1001, none⟩, ⟨10, .row (o40 x8), none⟩, ⟨14, .br true, none⟩]) (π := [(1, 1)]) (ts := [0, 1, 5, 13, 14, 15]) (kp := []) (ps := [(decide (v5 < (l3.length : Int))) = true, (0 : Int) ≤ v5, (l3.map o40)[(Int.toNat v5)]? = some (o40 x7), (0 : Int) ≤ p2, (p1.map o40)[(Int.toNat p2)]? = some (o40 x8), (x7.Thread != x8.Thread) = true, RenOK [(1, 1)] (a4.map o3)]) (by kernel_rfl) ⟨c6, (rd0 hx7), (rdM o40 hx7), (rd0 hx8), (rdM o40 hx8), c9, (rok (treeM t3)), trivial⟩ (ih a4 (w64 (v5 + 1)) _ h)
      · obtain ⟨r11, hr11, h⟩ := bnS h
        rcases itS h with ⟨c12, h⟩ | ⟨c20, h⟩
        · obtain ⟨r13, hr13, h⟩ := bnS h
          exact go_to hΘ hm hx hP hn (hs := [⟨1, .br true, none⟩, ⟨2, .row (o40 x7), none⟩, ⟨4, .new 1001, none⟩, ⟨10, .row (o40 x8), none⟩, ⟨14, .br false, none⟩, ⟨16, .callV [[]] (I r11), none⟩, ⟨20, .br true, none⟩, ⟨23, .callX [1] [false] [⟨3, 1, (a4.map o3)⟩] [⟨3, 1, (a4.map o3)⟩] [] (AV.own 3 1 (r13.map o3)) [1002] (AV.sl 1002 0 (List.length (r13.map o3))) [(1002, ⟨3, 1, (r13.map o3)⟩)], none⟩]) (π := [(1002, 1), (1001, 2)]) (ts := [0, 1, 5, 7, 13, 14, 15]) (kp := []) (ps := [(decide (v5 < (l3.length : Int))) = true, (0 : Int) ≤ v5, (l3.map o40)[(Int.toNat v5)]? = some (o40 x7), (0 : Int) ≤ p2, (p1.map o40)[(Int.toNat p2)]? = some (o40 x8), (x7.Thread != x8.Thread) = false, Meets Try.prog 40 [(AV.agg ((o40 x7)))] (I r11), litA (I r11) = true, (decide (r11 ≥ 0)) = true, MeetsR Try.prog 25 [⟨3, 1, (a4.map o3)⟩] [(AV.sl 0 0 (List.length (a4.map o3))), (I r11)] [false] [⟨3, 1, (a4.map o3)⟩] (AV.own 3 1 (r13.map o3)), (some (Root.mk 3 1 (a4.map o3)) = some (Root.mk 3 1 (a4.map o3))) ∧ True, (treeLL (a4.map o3) = true ∧ noRoLL (a4.map o3) = true) ∧ True, ((a4.map o3).length = (a4.map o3).length) ∧ True, (rtf (renA [] (AV.own 3 1 (r13.map o3))) [1002]).1 = (AV.sl 1002 0 (List.length (r13.map o3))), (rtf (renA [] (AV.own 3 1 (r13.map o3))) [1002]).2.1 = [(1002, ⟨3, 1, (r13.map o3)⟩)], RenOK [(1002, 1), (1001, 2)] (r13.map o3), RenOK [(1002, 1), (1001, 2)] [((o40 x7))]]) (by kernel_rfl) ⟨c6, (rd0 hx7), (rdM o40 hx7), (rd0 hx8), (rdM o40 hx8), c10, (spec_l6Takes_m hr11), rfl, c12, (spec_l1Put_m hr13), ⟨rfl, trivial⟩, ⟨⟨treeM t3, noRoM n3⟩, trivial⟩, ⟨rfl, trivial⟩, rfl, rfl, (rok (treeM t3)), (rok rfl), trivial⟩ (spec_l7Held_j1_m hP hn hx p1 p2 l3 v5 ih r13 x7 _ h)
        · exact go_to hΘ hm hx hP hn (hs := [⟨1, .br true, none⟩, ⟨2, .row (o40 x7), none⟩, ⟨4, .new 1001, none⟩, ⟨10, .row (o40 x8), none⟩, ⟨14, .br false, none⟩, ⟨16, .callV [[]] (I r11), none⟩, ⟨20, .br false, none⟩]) (π := [(1, 1), (1001, 2)]) (ts := [0, 1, 5, 7, 13, 14, 15]) (kp := []) (ps := [(decide (v5 < (l3.length : Int))) = true, (0 : Int) ≤ v5, (l3.map o40)[(Int.toNat v5)]? = some (o40 x7), (0 : Int) ≤ p2, (p1.map o40)[(Int.toNat p2)]? = some (o40 x8), (x7.Thread != x8.Thread) = false, Meets Try.prog 40 [(AV.agg ((o40 x7)))] (I r11), litA (I r11) = true, (decide (r11 ≥ 0)) = false, RenOK [(1, 1), (1001, 2)] (a4.map o3), RenOK [(1, 1), (1001, 2)] [((o40 x7))]]) (by kernel_rfl) ⟨c6, (rd0 hx7), (rdM o40 hx7), (rd0 hx8), (rdM o40 hx8), c10, (spec_l6Takes_m hr11), rfl, c20, (rok (treeM t3)), (rok rfl), trivial⟩ (spec_l7Held_j1_m hP hn hx p1 p2 l3 v5 ih a4 x7 _ h)
    · have h := Option.some.inj h
      subst h
      exact go_ret hΘ hm hP hn (hs := [⟨1, .br false, none⟩]) (rh := []) (ph := .own) (ps := [(decide (v5 < (l3.length : Int))) = false, treeLL ((a4.map o3).take (List.length (a4.map o3))) = true, (a4.map o3).take (List.length (a4.map o3)) = (a4.map o3), noRoLL (a4.map o3) = true]) (by kernel_rfl) ⟨c21, (treeT t3), takeM, (noRoM n3), trivial⟩
noncomputable def spec_l7Held (p1 : (List GEvent)) (p2 : Int) : Option (List Int) :=
  Option.bind (slc p1 0 (w64 (p2 + 1))) fun l3 =>
  spec_l7Held_l0 p1 p2 l3 FU [] 0
theorem spec_l7Held_m {p1 : (List GEvent)} {p2 : Int} {r : (List Int)} (h : spec_l7Held p1 p2 = some r) : Meets Try.prog 26 [(AV.ro 5 (p1.map o40)), (I p2)] (AV.own 3 1 (r.map o3)) := by
  refine meets_ofC Θ_ok Try.func26 rfl (c := body26) (by kernel_rfl) (Nat.le_of_ble_eq_true rfl) ?_
  intro E hP hn hx
  replace hn : E.n = 43 := hn
  have hm : E.P.follows .mixedOrders = true := by rw [hP]; exact mixed
  have hΘ : TOK E.P Θ := by rw [hP]; exact Θ_ok
  unfold spec_l7Held at h
  show WAt E body26 (FQ (RetE Θ Try.f26.results.toList [] [] (AV.own 3 1 (r.map o3)) E)) [] ⟨[(0, (AV.ro 5 (p1.map o40))), (1, (I p2))], [], [JJ]⟩
  obtain ⟨l3, hl3, h⟩ := bnS h
  exact go_to hΘ hm hx hP hn (hs := [⟨5, .no, some (AV.ro 5 (l3.map o40))⟩, ⟨6, .no, some (I (l3.length : Int))⟩, ⟨8, .nil 5 1001 3 1, none⟩]) (π := [(1001, 1)]) (ts := [0, 1, 5, 13, 14, 15]) (kp := []) (ps := [AV.ro 5 (((p1.map o40).drop (Int.toNat 0)).take (subO (Int.toNat (w64 (p2 + 1))) (Int.toNat 0))) = (AV.ro 5 (l3.map o40)), (0 : Int) ≤ 0, 0 ≤ (w64 (p2 + 1)), (w64 (p2 + 1)) ≤ (((p1.map o40).length : Nat) : Int), AV.lit (.int .i64 (((l3.map o40).length : Nat) : Int)) = (I (l3.length : Int)), RenOK [(1001, 1)] ([].map o3)]) (by kernel_rfl) ⟨(slM 5 o40 hl3), (sl0 hl3), (sl1 hl3), (sl2 o40 hl3), (lenM o40), (rok (treeM t3)), trivial⟩ (spec_l7Held_l0_m hP hn hx p1 p2 l3 FU [] 0 _ h)
noncomputable def body18 : Code := match Try.f18.body with | some c => c | none => .skip
noncomputable def spec_l7Touch (p1 : GEvent) : Option Bool :=
  if (p1.Kind == 2) = true then
    some true
  else
    some (p1.Kind == 3)
theorem spec_l7Touch_m {p1 : GEvent} {r : Bool} (h : spec_l7Touch p1 = some r) : Meets Try.prog 18 [(AV.agg ((o40 p1)))] (B r) := by
  refine meets_ofC Θ_ok Try.func18 rfl (c := body18) (by kernel_rfl) (Nat.le_of_ble_eq_true rfl) ?_
  intro E hP hn hx
  replace hn : E.n = 11 := hn
  have hm : E.P.follows .mixedOrders = true := by rw [hP]; exact mixed
  have hΘ : TOK E.P Θ := by rw [hP]; exact Θ_ok
  unfold spec_l7Touch at h
  show WAt E body18 (FQ (RetE Θ Try.f18.results.toList [] [] (B r) E)) [] ⟨[(0, (AV.agg ((o40 p1))))], [], [JJ]⟩
  rcases itS h with ⟨c2, h⟩ | ⟨c3, h⟩
  · have h := Option.some.inj h
    subst h
    exact go_ret hΘ hm hP hn (hs := [⟨0, .new 1001, none⟩, ⟨5, .no, some (B true)⟩]) (rh := []) (ph := .raw) (ps := [(B (p1.Kind == 2)) = (B true), (B true) = (B true), litA (B true) = true]) (by kernel_rfl) ⟨(litB c2), rfl, rfl, trivial⟩
  · have h := Option.some.inj h
    subst h
    exact go_ret hΘ hm hP hn (hs := [⟨0, .new 1001, none⟩, ⟨5, .no, some (B false)⟩]) (rh := []) (ph := .raw) (ps := [(B (p1.Kind == 2)) = (B false), (B (p1.Kind == 3)) = (B (p1.Kind == 3)), litA (B (p1.Kind == 3)) = true]) (by kernel_rfl) ⟨(litB c3), rfl, rfl, trivial⟩
end Go.Proofs.Ythhcnmideecfpaa
